/- FnExactHoldsFor: what its proof needs, put together by this session's program wip/merge.py out of the texts that wip/xp.py printed and of this session's own. -/
import Derived.Test.YtffjfdoghofkdaaQFnExactHoldsFor2
namespace Go.Proofs.Ytffjfdoghofkdaa.A
open Go.RowKit Go.Proofs.Ytffjfdoghofkdaa.Ext Go.Proofs.YtffjfdoghofkdaaW.PrintWords Go.Proofs.YtffjfdoghofkdaaW.PrintLast Go.Proofs.YtffjfdoghofkdaaW.PrintMore
attribute [local go_sem] max2_int min2_int max_two min_two max_three min_three max_four min_four   -- for this text's walks alone
set_option linter.unusedVariables false
set_option linter.unusedSimpArgs false

/-! ### spec_l9Zero: function 43 -/
def spec_l9Zero.f (a0_0 : Int) (a0_1 : ByteArray) (l0_2 : List (S35)) : Option (Bool) := if a0_0 = 0 then (if a0_1.toList = ([] : List UInt8) then (some ((l0_2.length : Int) == 0)) else (some false)) else (some false)
set_option maxHeartbeats 8000000 in
set_option maxRecDepth 100000 in
theorem spec_l9Zero.calls (a0_0 : Int) (a0_1 : ByteArray) (A0_2 : Option Addr) (c0_2 : Nat) (l0_2 : List (S35)) (r : Bool) (w : World) (hr0_2 : Kd.C k35 w A0_2 l0_2.length l0_2) (hc0_2 : l0_2.length ≤ c0_2) (h : spec_l9Zero.f a0_0 a0_1 l0_2 = some r) :
    Calls Try.prog 43 #[.agg #[.int .i64 a0_0, .string a0_1, .slice A0_2 l0_2.length c0_2]] w fun e w' => e = .returned (.bool r) ∧ Below w.heap.size w w' := by
  have hu35 := Try.underlying35
  have HR0_2 := Aside0.mk hr0_2
  have HC0_2 := Aside0.mk hc0_2
  clear hr0_2 hc0_2
  have HB := Aside0.mk (Below.refl w.heap.size w)
  have H : (if a0_0 = 0 then (if a0_1.toList = ([] : List UInt8) then (some ((l0_2.length : Int) == 0)) else (some false)) else (some false)) = some r := h
  clear h
  by_cases c2 : a0_0 = 0
  rw [if_pos c2] at H
  have c2b0 : (a0_0 == 0) = true := beq_iff_eq.mpr c2
  have c2b1 : (a0_0 != 0) = false := bne_eq_false_iff_eq.mpr c2
  clear c2
  by_cases c3 : a0_1.toList = ([] : List UInt8)
  rw [if_pos c3] at H
  have c3b0 : (a0_1.toList == ([] : List UInt8)) = true := beq_iff_eq.mpr c3
  have c3b1 : (a0_1.toList != ([] : List UInt8)) = false := bne_eq_false_iff_eq.mpr c3
  clear c3
  rotate_left
  rw [if_neg c3] at H
  have c3b0 : (a0_1.toList == ([] : List UInt8)) = false := beq_eq_false_iff_ne.mpr c3
  have c3b1 : (a0_1.toList != ([] : List UInt8)) = true := bne_iff_ne.mpr c3
  rotate_left
  rw [if_neg c2] at H
  have c2b0 : (a0_0 == 0) = false := beq_eq_false_iff_ne.mpr c2
  have c2b1 : (a0_0 != 0) = true := bne_iff_ne.mpr c2
  rotate_left
  all_goals
   obtain rfl := Option.some.inj H
   go_enter Try.func43, Try.ntmps43
   go_wp2_with (((with_reducible refine gate_dst (N := 1) rfl ?_); (try (refine gate_guard (by rfl) ?_; dsimp only)); refine box_event ?hg (N := 1) ?hd (cs := #[.int .i64 a0_0, .string a0_1, .slice A0_2 l0_2.length c0_2]) (t := 35) ?hr ?_; (case hd => rfl); (case hg => rfl); (case hr => first | (go_simp; done) | (go_simp; rfl)); intro gb43001 hg w4 hbox hb; have n0_ := Aside0.mk (below_step (by repeat (first | (with_reducible first | exact HB.out | apply below_alloc | apply pw_below_drewN | apply below_drew1 | refine below_set ?_ (Aside0.out (by assumption))) | exact HB.out)) hb); have n1_ := Aside0.mk (hbox); have n2_ := Aside0.mk ((by rw [hg]; exact (below_size (by repeat (first | (with_reducible first | exact HB.out | apply below_alloc | apply pw_below_drewN | apply below_drew1 | refine below_set ?_ (Aside0.out (by assumption))) | exact HB.out))) : w.heap.size ≤ gb43001)); have n3_ := Aside0.mk ((by rw [hg]; exact (below_size (by repeat (first | (with_reducible first | exact HB.out | apply below_alloc | apply pw_below_drewN | apply below_drew1 | refine below_set ?_ (Aside0.out (by assumption))) | exact HB.out))) : w.heap.size ≤ gb43001)); clear HB; have HB := n0_; have BK43001 := n1_; have GW43001 := n2_; have GE43001 := n3_; clear n0_ n1_ n2_ n3_; clear hb hbox hg; obtain ⟨hcz5_0, hcz5_1, hcz5_2, hfz5_0, hfz5_1, hfz5_2⟩ := blk3 BK43001.out))
   go_ret
   exact ⟨by first | rfl | (simp [errW_none, errW_some] <;> rfl) | (simp [*, errW_none, errW_some] <;> rfl), by repeat (first | (with_reducible first | exact HB.out | apply below_alloc | apply pw_below_drewN | apply below_drew1 | refine below_set ?_ (Aside0.out (by assumption))) | exact HB.out)⟩
/-! ### spec_l9Coeffs: function 45 -/
def spec_l9Coeffs.l0 : Nat → List Int → Int → Option (Bool)
  | 0, _, _ => none
  | k + 1, x0, x3 => if x3 < (x0.length : Int) then (if 0 ≤ x3 then ((spec_l1In.f (rd x0 x3) (-9) 9).bind fun t45002 => (if t45002 = true then (spec_l9Coeffs.l0 k x0 (wrap64 (x3 + 1))) else (some false))) else (none)) else (some ((x0.length : Int) == 3))
def spec_l9Coeffs.f (k : Nat) (l0 : List Int) : Option (Bool) := spec_l9Coeffs.l0 k l0 0
theorem spec_l9Coeffs.mono_l : ∀ k, (∀ y0 y1, LeO (spec_l9Coeffs.l0 k y0 y1) (spec_l9Coeffs.l0 (k + 1) y0 y1))
  | 0 => fun _ _ r h => by simp [spec_l9Coeffs.l0] at h
  | k + 1 => by
    have ih0 := spec_l9Coeffs.mono_l k
    · intro y0 y1
      unfold spec_l9Coeffs.l0
      repeat' first
      | with_reducible first | exact ih0 _ _ | exact LeO.refl _ | exact LeO.none _ | refine LeO.ite ?_ ?_ | refine LeO.bind ?_ (fun _ => ?_)
      | exact ih0 _ _ | exact LeO.none _ | refine LeO.ite ?_ ?_ | refine LeO.bind ?_ (fun _ => ?_)
theorem spec_l9Coeffs.mono : ∀ a0 k, LeO (spec_l9Coeffs.f k a0) (spec_l9Coeffs.f (k + 1) a0) := by
  intro a0 k
  have ih0 := spec_l9Coeffs.mono_l k
  unfold spec_l9Coeffs.f
  repeat' first
      | with_reducible first | exact ih0 _ _ | exact LeO.refl _ | exact LeO.none _ | refine LeO.ite ?_ ?_ | refine LeO.bind ?_ (fun _ => ?_)
      | exact ih0 _ _ | exact LeO.none _ | refine LeO.ite ?_ ?_ | refine LeO.bind ?_ (fun _ => ?_)
set_option maxHeartbeats 8000000 in
set_option maxRecDepth 100000 in
theorem spec_l9Coeffs.calls (k : Nat) (A0 : Option Addr) (c0 : Nat) (l0 : List Int) (r : Bool) (w : World) (hr0 : Kd.C (Kd.int .i64) w A0 l0.length l0) (hc0 : l0.length ≤ c0) (h : spec_l9Coeffs.f k l0 = some r) :
    Calls Try.prog 45 #[.slice A0 l0.length c0] w fun e w' => e = .returned (.bool r) ∧ Drawn0 w w' := by
  have HR0 := Aside0.mk hr0
  have HC0 := Aside0.mk hc0
  clear hr0 hc0
  have H : (spec_l9Coeffs.l0 k l0 0) = some r := h
  clear h
  have H' := Aside0.mk H
  clear H
  go_enter Try.func45, Try.ntmps45
  go_wp2
  first | go_loopg [3] k (fun kq v3 w' => ∃ (x3_1 : Int), v3 = .int .i64 x3_1 ∧ Aside0 (spec_l9Coeffs.l0 kq l0 x3_1 = some r) ∧ Aside0 (kq ≤ k) ∧ Drawn0 w w') | (simp only [Act.put, List.setIfInBounds_toArray, List.set_cons_succ, List.set_cons_zero]; go_loopg [3] k (fun kq v3 w' => ∃ (x3_1 : Int), v3 = .int .i64 x3_1 ∧ Aside0 (spec_l9Coeffs.l0 kq l0 x3_1 = some r) ∧ Aside0 (kq ≤ k) ∧ Drawn0 w w'))
  case atStart => exact ⟨(0), (by first | rfl | (simp; done) | (simp [*]; done)), H', ⟨Nat.le_refl _⟩, by repeat (first | exact Drawn0.refl _ | apply Drawn0.step)⟩
  case round =>
   clear H'
   obtain ⟨x3_1, rfl, HA, HK1, ⟨m1, rfl⟩⟩ := hrel
   cases gk with
   | zero => exact absurd HA.out (by simp [spec_l9Coeffs.l0])
   | succ k1 =>
    have H := HA.out
    clear HA
    simp only [spec_l9Coeffs.l0] at H
    by_cases c2 : x3_1 < (l0.length : Int)
    rw [if_pos c2] at H
    have c2b0 : decide (x3_1 < (l0.length : Int)) = true := decide_eq_true c2
    clear c2
    by_cases c3 : 0 ≤ x3_1
    rw [if_pos c3] at H
    have c3b0 : decide (0 ≤ x3_1) = true := decide_eq_true c3
    clear c3
    replace H := Option.bind_eq_some_iff.mp H
    obtain ⟨t45002, A40, H⟩ := H
    replace H : (if t45002 = true then (spec_l9Coeffs.l0 k1 l0 (wrap64 (x3_1 + 1))) else (some false)) = some r := H
    have A4 := Aside0.mk A40
    clear A40
    by_cases c5 : t45002 = true
    subst c5
    have H1 : (spec_l9Coeffs.l0 k1 l0 (wrap64 (x3_1 + 1))) = some r := by rw [if_pos rfl] at H; exact H
    clear H
    have H := H1
    clear H1
    have H' := Aside0.mk H
    clear H
    have fin0_ := Aside0.mk trivial
    rotate_left
    replace c5 := Bool.eq_false_iff.mpr c5
    subst c5
    have H1 : (some false) = some r := by rw [if_neg (show ¬ (false = true) by decide)] at H; exact H
    clear H
    have H := H1
    clear H1
    obtain rfl := Option.some.inj H
    have fin1_ := Aside0.mk trivial
    rotate_left
    · rw [if_neg c3] at H
      exact absurd H (by simp)
    · rw [if_neg c2] at H
      have c2b0 : decide (x3_1 < (l0.length : Int)) = false := decide_eq_false c2
      clear c2
      obtain rfl := Option.some.inj H
      go_wp2
      go_ret
      exact ⟨by first | rfl | (simp; done) | (simp [*]; done), by repeat (first | exact Drawn0.refl _ | apply Drawn0.step)⟩
    all_goals
     have p45001 : 0 ≤ (x3_1 : Int) := of_decide_eq_true (by first | (with_reducible assumption) | assumption)
     have q45001 : x3_1 < (l0.length : Int) := of_decide_eq_true (by first | (with_reducible assumption) | assumption)
     obtain ⟨ad45001, e45001, hx45001_0⟩ := Kd.at_int HR0.out x3_1 p45001 q45001
     cases e45001
     replace p45001 := eq_true p45001
     replace q45001 := eq_true q45001
     go_wp2_with (((with_reducible refine gate_callee (f := 46) rfl ?_); refine goesL_ (some 14) rfl rfl Try.func46 (by kernel_rfl) rfl #[.int .i64 (rd l0 x3_1), .int .i64 (-9), .int .i64 9] rfl (by (try simp only [List.map_toArray, List.map_cons, List.map_nil]); first | done | rfl | (simp only [List.length_drop, List.length_take]; rfl)) ?_; (with_reducible refine (spec_l1In.calls (rd l0 x3_1) (-9) 9 _ _ A4.out).mono ?_); rintro e w' ⟨rfl, ⟨nd, rfl⟩⟩; refine ⟨_, rfl, ?_⟩))
     first
     | (clear fin0_
        go_roundg k1
        case measure => have := HK1.out; omega
        case rel => exact ⟨(wrap64 (x3_1 + 1)), (by first | rfl | (simp; done) | (simp [*]; done)), H', ⟨by have := HK1.out; omega⟩, by repeat (first | exact Drawn0.refl _ | apply Drawn0.step)⟩)
     | (clear fin1_
        go_ret
        exact ⟨by first | rfl | (simp; done) | (simp [*]; done), by repeat (first | exact Drawn0.refl _ | apply Drawn0.step)⟩)
/-! ### spec_IsValidConstraint: function 19 -/
mutual
def spec_IsValidConstraint.j0 : Nat → Bool → Int → ByteArray → ByteArray → Int → ByteArray → List (S35) → List Int → Int → Option (Bool)
  | 0, _, _, _, _, _, _, _, _, _ => none
  | k + 1, x3, x19002000, x19002001, x19002002, x19002003, x19002004, x19002005, x19002006, x19002007 => if x19002000 = 1 then (spec_IsValidConstraint.j1 k x3 x19002000 (x19002000 == 1) x19002000 x19002001 x19002002 x19002003 x19002004 x19002005 x19002006 x19002007) else (spec_IsValidConstraint.j1 k x3 x19002000 (x19002000 == 2) x19002000 x19002001 x19002002 x19002003 x19002004 x19002005 x19002006 x19002007)
def spec_IsValidConstraint.j1 : Nat → Bool → Int → Bool → Int → ByteArray → ByteArray → Int → ByteArray → List (S35) → List Int → Int → Option (Bool)
  | 0, _, _, _, _, _, _, _, _, _, _, _ => none
  | k + 1, x3, x14, x15, x19002000, x19002001, x19002002, x19002003, x19002004, x19002005, x19002006, x19002007 => if x15 = true then ((spec_IsTerm.f k x19002001).bind fun t19002 => (if t19002 = true then ((spec_IsTerm.f k x19002002).bind fun t19003 => (if t19003 = true then ((spec_l9Zero.f x19002003 x19002004 x19002005).bind fun t19004 => (if t19004 = true then (some x3) else (some false))) else (some false))) else (some false))) else (if x14 = 3 then (spec_IsValidConstraint.j2 k x3 x14 (x14 == 3) x19002000 x19002001 x19002002 x19002003 x19002004 x19002005 x19002006 x19002007) else (spec_IsValidConstraint.j2 k x3 x14 (x14 == 4) x19002000 x19002001 x19002002 x19002003 x19002004 x19002005 x19002006 x19002007))
def spec_IsValidConstraint.j2 : Nat → Bool → Int → Bool → Int → ByteArray → ByteArray → Int → ByteArray → List (S35) → List Int → Int → Option (Bool)
  | 0, _, _, _, _, _, _, _, _, _, _, _ => none
  | k + 1, x3, x14, x34, x19002000, x19002001, x19002002, x19002003, x19002004, x19002005, x19002006, x19002007 => if x34 = true then ((spec_IsTerm.f k x19002001).bind fun t19005 => (if t19005 = true then (if x19002002.toList = ([] : List UInt8) then ((spec_IsValidRegex.f k x19002003 x19002004 x19002005).bind fun t19006 => (if t19006 = true then (some x3) else (some false))) else (some false)) else (some false))) else (if x14 = 5 then (if x19002001.toList = ([] : List UInt8) then (if x19002002.toList = ([] : List UInt8) then ((spec_l9Zero.f x19002003 x19002004 x19002005).bind fun t19007 => (if t19007 = true then ((spec_l9Coeffs.f k x19002006).bind fun t19008 => (if t19008 = true then ((spec_l1In.f x19002007 (-99) 99).bind fun t19009 => (some t19009)) else (some false))) else (some false))) else (some false)) else (some false)) else (some false))
end
def spec_IsValidConstraint.f (k : Nat) (a0_0 : Int) (a0_1 : ByteArray) (a0_2 : ByteArray) (a0_3 : Int) (a0_4 : ByteArray) (l0_5 : List (S35)) (l0_6 : List Int) (a0_7 : Int) : Option (Bool) := if (l0_6.length : Int) = 0 then (spec_IsValidConstraint.j0 k (a0_7 == 0) a0_0 a0_1 a0_2 a0_3 a0_4 l0_5 l0_6 a0_7) else (spec_IsValidConstraint.j0 k false a0_0 a0_1 a0_2 a0_3 a0_4 l0_5 l0_6 a0_7)
theorem spec_IsValidConstraint.mono_l : ∀ k, (∀ y0 y1 y2 y3 y4 y5 y6 y7 y8, LeO (spec_IsValidConstraint.j0 k y0 y1 y2 y3 y4 y5 y6 y7 y8) (spec_IsValidConstraint.j0 (k + 1) y0 y1 y2 y3 y4 y5 y6 y7 y8)) ∧ (∀ y0 y1 y2 y3 y4 y5 y6 y7 y8 y9 y10, LeO (spec_IsValidConstraint.j1 k y0 y1 y2 y3 y4 y5 y6 y7 y8 y9 y10) (spec_IsValidConstraint.j1 (k + 1) y0 y1 y2 y3 y4 y5 y6 y7 y8 y9 y10)) ∧ (∀ y0 y1 y2 y3 y4 y5 y6 y7 y8 y9 y10, LeO (spec_IsValidConstraint.j2 k y0 y1 y2 y3 y4 y5 y6 y7 y8 y9 y10) (spec_IsValidConstraint.j2 (k + 1) y0 y1 y2 y3 y4 y5 y6 y7 y8 y9 y10))
  | 0 => ⟨fun _ _ _ _ _ _ _ _ _ r h => by simp [spec_IsValidConstraint.j0] at h, fun _ _ _ _ _ _ _ _ _ _ _ r h => by simp [spec_IsValidConstraint.j1] at h, fun _ _ _ _ _ _ _ _ _ _ _ r h => by simp [spec_IsValidConstraint.j2] at h⟩
  | k + 1 => by
    obtain ⟨ih0, ih1, ih2⟩ := spec_IsValidConstraint.mono_l k
    refine ⟨?_, ?_, ?_⟩
    · intro y0 y1 y2 y3 y4 y5 y6 y7 y8
      unfold spec_IsValidConstraint.j0
      repeat' first
      | with_reducible first | exact ih0 _ _ _ _ _ _ _ _ _ | exact ih1 _ _ _ _ _ _ _ _ _ _ _ | exact ih2 _ _ _ _ _ _ _ _ _ _ _ | exact spec_IsTerm.mono _ _ | exact spec_IsValidRegex.mono _ _ _ _ | exact spec_l9Coeffs.mono _ _ | exact LeO.refl _ | exact LeO.none _ | refine LeO.ite ?_ ?_ | refine LeO.bind ?_ (fun _ => ?_)
      | exact ih0 _ _ _ _ _ _ _ _ _ | exact ih1 _ _ _ _ _ _ _ _ _ _ _ | exact ih2 _ _ _ _ _ _ _ _ _ _ _ | exact spec_IsTerm.mono _ _ | exact spec_IsValidRegex.mono _ _ _ _ | exact spec_l9Coeffs.mono _ _ | exact LeO.none _ | refine LeO.ite ?_ ?_ | refine LeO.bind ?_ (fun _ => ?_)
    · intro y0 y1 y2 y3 y4 y5 y6 y7 y8 y9 y10
      unfold spec_IsValidConstraint.j1
      repeat' first
      | with_reducible first | exact ih0 _ _ _ _ _ _ _ _ _ | exact ih1 _ _ _ _ _ _ _ _ _ _ _ | exact ih2 _ _ _ _ _ _ _ _ _ _ _ | exact spec_IsTerm.mono _ _ | exact spec_IsValidRegex.mono _ _ _ _ | exact spec_l9Coeffs.mono _ _ | exact LeO.refl _ | exact LeO.none _ | refine LeO.ite ?_ ?_ | refine LeO.bind ?_ (fun _ => ?_)
      | exact ih0 _ _ _ _ _ _ _ _ _ | exact ih1 _ _ _ _ _ _ _ _ _ _ _ | exact ih2 _ _ _ _ _ _ _ _ _ _ _ | exact spec_IsTerm.mono _ _ | exact spec_IsValidRegex.mono _ _ _ _ | exact spec_l9Coeffs.mono _ _ | exact LeO.none _ | refine LeO.ite ?_ ?_ | refine LeO.bind ?_ (fun _ => ?_)
    · intro y0 y1 y2 y3 y4 y5 y6 y7 y8 y9 y10
      unfold spec_IsValidConstraint.j2
      repeat' first
      | with_reducible first | exact ih0 _ _ _ _ _ _ _ _ _ | exact ih1 _ _ _ _ _ _ _ _ _ _ _ | exact ih2 _ _ _ _ _ _ _ _ _ _ _ | exact spec_IsTerm.mono _ _ | exact spec_IsValidRegex.mono _ _ _ _ | exact spec_l9Coeffs.mono _ _ | exact LeO.refl _ | exact LeO.none _ | refine LeO.ite ?_ ?_ | refine LeO.bind ?_ (fun _ => ?_)
      | exact ih0 _ _ _ _ _ _ _ _ _ | exact ih1 _ _ _ _ _ _ _ _ _ _ _ | exact ih2 _ _ _ _ _ _ _ _ _ _ _ | exact spec_IsTerm.mono _ _ | exact spec_IsValidRegex.mono _ _ _ _ | exact spec_l9Coeffs.mono _ _ | exact LeO.none _ | refine LeO.ite ?_ ?_ | refine LeO.bind ?_ (fun _ => ?_)
theorem spec_IsValidConstraint.mono : ∀ a0 a1 a2 a3 a4 a5 a6 a7 k, LeO (spec_IsValidConstraint.f k a0 a1 a2 a3 a4 a5 a6 a7) (spec_IsValidConstraint.f (k + 1) a0 a1 a2 a3 a4 a5 a6 a7) := by
  intro a0 a1 a2 a3 a4 a5 a6 a7 k
  obtain ⟨ih0, ih1, ih2⟩ := spec_IsValidConstraint.mono_l k
  unfold spec_IsValidConstraint.f
  repeat' first
      | with_reducible first | exact ih0 _ _ _ _ _ _ _ _ _ | exact ih1 _ _ _ _ _ _ _ _ _ _ _ | exact ih2 _ _ _ _ _ _ _ _ _ _ _ | exact spec_IsTerm.mono _ _ | exact spec_IsValidRegex.mono _ _ _ _ | exact spec_l9Coeffs.mono _ _ | exact LeO.refl _ | exact LeO.none _ | refine LeO.ite ?_ ?_ | refine LeO.bind ?_ (fun _ => ?_)
      | exact ih0 _ _ _ _ _ _ _ _ _ | exact ih1 _ _ _ _ _ _ _ _ _ _ _ | exact ih2 _ _ _ _ _ _ _ _ _ _ _ | exact spec_IsTerm.mono _ _ | exact spec_IsValidRegex.mono _ _ _ _ | exact spec_l9Coeffs.mono _ _ | exact LeO.none _ | refine LeO.ite ?_ ?_ | refine LeO.bind ?_ (fun _ => ?_)
set_option maxHeartbeats 8000000 in
set_option maxRecDepth 100000 in
theorem spec_IsValidConstraint.calls (k : Nat) (a0_0 : Int) (a0_1 : ByteArray) (a0_2 : ByteArray) (a0_3 : Int) (a0_4 : ByteArray) (A0_5 : Option Addr) (c0_5 : Nat) (l0_5 : List (S35)) (A0_6 : Option Addr) (c0_6 : Nat) (l0_6 : List Int) (a0_7 : Int) (r : Bool) (w : World) (hr0_5 : Kd.C k35 w A0_5 l0_5.length l0_5) (hc0_5 : l0_5.length ≤ c0_5) (hr0_6 : Kd.C (Kd.int .i64) w A0_6 l0_6.length l0_6) (hc0_6 : l0_6.length ≤ c0_6) (h : spec_IsValidConstraint.f k a0_0 a0_1 a0_2 a0_3 a0_4 l0_5 l0_6 a0_7 = some r) :
    Calls Try.prog 19 #[.agg #[.int .i64 a0_0, .string a0_1, .string a0_2, .int .i64 a0_3, .string a0_4, .slice A0_5 l0_5.length c0_5, .slice A0_6 l0_6.length c0_6, .int .i64 a0_7]] w fun e w' => e = .returned (.bool r) ∧ Below w.heap.size w w' := by
  have hu37 := Try.underlying37
  have hu35 := Try.underlying35
  have HR0_5 := Aside0.mk hr0_5
  have HC0_5 := Aside0.mk hc0_5
  clear hr0_5 hc0_5
  have HR0_6 := Aside0.mk hr0_6
  have HC0_6 := Aside0.mk hc0_6
  clear hr0_6 hc0_6
  have HB := Aside0.mk (Below.refl w.heap.size w)
  have H : (if (l0_6.length : Int) = 0 then (spec_IsValidConstraint.j0 k (a0_7 == 0) a0_0 a0_1 a0_2 a0_3 a0_4 l0_5 l0_6 a0_7) else (spec_IsValidConstraint.j0 k false a0_0 a0_1 a0_2 a0_3 a0_4 l0_5 l0_6 a0_7)) = some r := h
  clear h
  have HC2 := Aside0.mk H
  clear H
  go_enter Try.func19, Try.ntmps19
  go_upto_region 1 with (first | ((with_reducible refine gate_dst (N := 1) rfl ?_); refine box_event ?hg (N := 1) ?hd (cs := #[.int .i64 a0_0, .string a0_1, .string a0_2, .int .i64 a0_3, .string a0_4, .slice A0_5 l0_5.length c0_5, .slice A0_6 l0_6.length c0_6, .int .i64 a0_7]) (t := 37) ?hr ?_; (case hd => rfl); (case hg => rfl); (case hr => first | (go_simp; done) | (go_simp; rfl)); intro gb19001 hg w3 hbox hb; have n0_ := Aside0.mk (below_step (by repeat (first | (with_reducible first | exact HB.out | apply below_alloc | apply pw_below_drewN | apply below_drew1 | refine below_set ?_ (Aside0.out (by assumption))) | exact HB.out)) hb); have n1_ := Aside0.mk (hbox); have n2_ := Aside0.mk ((by rw [hg]; exact (below_size (by repeat (first | (with_reducible first | exact HB.out | apply below_alloc | apply pw_below_drewN | apply below_drew1 | refine below_set ?_ (Aside0.out (by assumption))) | exact HB.out))) : w.heap.size ≤ gb19001)); have n3_ := Aside0.mk ((by rw [hg]; exact (below_size (by repeat (first | (with_reducible first | exact HB.out | apply below_alloc | apply pw_below_drewN | apply below_drew1 | refine below_set ?_ (Aside0.out (by assumption))) | exact HB.out))) : w.heap.size ≤ gb19001)); clear HB; have HB := n0_; have BK19001 := n1_; have GW19001 := n2_; have GE19001 := n3_; clear n0_ n1_ n2_ n3_; clear hb hbox hg))
  (try simp only [Act.put, List.setIfInBounds_toArray, List.set_cons_zero, List.set_cons_succ])
  go_cut [3] (fun v3 wc => ∃ (kq : Nat) (x3_1 : Bool), v3 = .bool x3_1 ∧ Aside0 (spec_IsValidConstraint.j0 kq x3_1 a0_0 a0_1 a0_2 a0_3 a0_4 l0_5 l0_6 a0_7 = some r) ∧ Aside0 (kq ≤ k) ∧ Aside0 (wc.heap[gb19001]? = some (.cells #[.int .i64 a0_0, .string a0_1, .string a0_2, .int .i64 a0_3, .string a0_4, (.slice A0_5 l0_5.length c0_5), (.slice A0_6 l0_6.length c0_6), .int .i64 a0_7] 37 (0, 0))) ∧ Aside0 (Below w.heap.size w wc))
  case first =>
   have H := HC2.out
   clear HC2
   by_cases c4 : (l0_6.length : Int) = 0
   · rw [if_pos c4] at H
     have c4b0 : ((l0_6.length : Int) == 0) = true := beq_iff_eq.mpr c4
     have c4b1 : ((l0_6.length : Int) != 0) = false := bne_eq_false_iff_eq.mpr c4
     clear c4
     (first | rw [c4b0] | (simp only [i64_w, i32_w]; rw [c4b0]) | skip)
     have H' := Aside0.mk H
     clear H
     obtain ⟨hcz5_0, hcz5_1, hcz5_2, hcz5_3, hcz5_4, hcz5_5, hcz5_6, hcz5_7, hfz5_0, hfz5_1, hfz5_2, hfz5_3, hfz5_4, hfz5_5, hfz5_6, hfz5_7⟩ := blk8 BK19001.out
     go_wp2
     go_meet
     case rel => exact ⟨_, ((a0_7 == 0)), (by first | rfl | (simp; done) | (simp [*]; done)), H', ⟨by first | omega | exact Nat.le_refl _⟩, ⟨by (with_reducible repeat (first | refine blk_drewN ?_ _ | refine blk_drew ?_ | refine blk_alloc ?_ _)); exact BK19001.out⟩, ⟨by repeat (first | (with_reducible first | exact HB.out | apply below_alloc | apply pw_below_drewN | apply below_drew1 | refine below_set ?_ (Aside0.out (by assumption))) | exact HB.out)⟩⟩
   · rw [if_neg c4] at H
     have c4b0 : ((l0_6.length : Int) == 0) = false := beq_eq_false_iff_ne.mpr c4
     have c4b1 : ((l0_6.length : Int) != 0) = true := bne_iff_ne.mpr c4
     have c4b2 : ¬ (l0_6 = []) := fun h_ => c4 (by rw [h_]; rfl)
     (first | rw [c4b0] | (simp only [i64_w, i32_w]; rw [c4b0]) | skip)
     have H' := Aside0.mk H
     clear H
     obtain ⟨hcz6_0, hcz6_1, hcz6_2, hcz6_3, hcz6_4, hcz6_5, hcz6_6, hcz6_7, hfz6_0, hfz6_1, hfz6_2, hfz6_3, hfz6_4, hfz6_5, hfz6_6, hfz6_7⟩ := blk8 BK19001.out
     go_wp2
     go_meet
     case rel => exact ⟨_, (false), (by first | rfl | (simp; done) | (simp [*]; done)), H', ⟨by first | omega | exact Nat.le_refl _⟩, ⟨by (with_reducible repeat (first | refine blk_drewN ?_ _ | refine blk_drew ?_ | refine blk_alloc ?_ _)); exact BK19001.out⟩, ⟨by repeat (first | (with_reducible first | exact HB.out | apply below_alloc | apply pw_below_drewN | apply below_drew1 | refine below_set ?_ (Aside0.out (by assumption))) | exact HB.out)⟩⟩
  case rest =>
   clear HC2
   obtain ⟨kq, x3_1, rfl, HA, HJ1, BK19001, HB⟩ := hcut
   cases kq with
   | zero => exact absurd HA.out (by simp [spec_IsValidConstraint.j0])
   | succ kj1 =>
    have H := HA.out
    clear HA
    simp only [spec_IsValidConstraint.j0] at H
    have HC7 := Aside0.mk H
    clear H
    obtain ⟨hcz8_0, hcz8_1, hcz8_2, hcz8_3, hcz8_4, hcz8_5, hcz8_6, hcz8_7, hfz8_0, hfz8_1, hfz8_2, hfz8_3, hfz8_4, hfz8_5, hfz8_6, hfz8_7⟩ := blk8 BK19001.out
    go_upto_if 15 with (fail)
    go_cut [15] (fun v15 wc => ∃ (kq : Nat) (x15_6 : Bool), v15 = .bool x15_6 ∧ Aside0 (spec_IsValidConstraint.j1 kq x3_1 a0_0 x15_6 a0_0 a0_1 a0_2 a0_3 a0_4 l0_5 l0_6 a0_7 = some r) ∧ Aside0 (kq ≤ kj1) ∧ Aside0 (wc.heap[gb19001]? = some (.cells #[.int .i64 a0_0, .string a0_1, .string a0_2, .int .i64 a0_3, .string a0_4, (.slice A0_5 l0_5.length c0_5), (.slice A0_6 l0_6.length c0_6), .int .i64 a0_7] 37 (0, 0))) ∧ Aside0 (Below w.heap.size w wc))
    case first =>
     have H := HC7.out
     clear HC7
     by_cases c9 : a0_0 = 1
     · rw [if_pos c9] at H
       have c9b0 : (a0_0 == 1) = true := beq_iff_eq.mpr c9
       have c9b1 : (a0_0 != 1) = false := bne_eq_false_iff_eq.mpr c9
       clear c9
       (first | rw [c9b0] | (simp only [i64_w, i32_w]; rw [c9b0]) | skip)
       have H' := Aside0.mk H
       clear H
       go_wp2
       go_meet
       case rel => exact ⟨_, ((a0_0 == 1)), (by first | rfl | (simp; done) | (simp [*]; done)), H', ⟨by have := HJ1.out; first | omega | exact Nat.le_refl _⟩, ⟨by (with_reducible repeat (first | refine blk_drewN ?_ _ | refine blk_drew ?_ | refine blk_alloc ?_ _)); exact BK19001.out⟩, ⟨by repeat (first | (with_reducible first | exact HB.out | apply below_alloc | apply pw_below_drewN | apply below_drew1 | refine below_set ?_ (Aside0.out (by assumption))) | exact HB.out)⟩⟩
     · rw [if_neg c9] at H
       have c9b0 : (a0_0 == 1) = false := beq_eq_false_iff_ne.mpr c9
       have c9b1 : (a0_0 != 1) = true := bne_iff_ne.mpr c9
       (first | rw [c9b0] | (simp only [i64_w, i32_w]; rw [c9b0]) | skip)
       have H' := Aside0.mk H
       clear H
       go_wp2
       go_meet
       case rel => exact ⟨_, ((a0_0 == 2)), (by first | rfl | (simp; done) | (simp [*]; done)), H', ⟨by have := HJ1.out; first | omega | exact Nat.le_refl _⟩, ⟨by (with_reducible repeat (first | refine blk_drewN ?_ _ | refine blk_drew ?_ | refine blk_alloc ?_ _)); exact BK19001.out⟩, ⟨by repeat (first | (with_reducible first | exact HB.out | apply below_alloc | apply pw_below_drewN | apply below_drew1 | refine below_set ?_ (Aside0.out (by assumption))) | exact HB.out)⟩⟩
    case rest =>
     clear HC7
     try clear hcz8_0
     try clear hcz8_1
     try clear hcz8_2
     try clear hcz8_3
     try clear hcz8_4
     try clear hcz8_5
     try clear hcz8_6
     try clear hcz8_7
     try clear hfz8_0
     try clear hfz8_1
     try clear hfz8_2
     try clear hfz8_3
     try clear hfz8_4
     try clear hfz8_5
     try clear hfz8_6
     try clear hfz8_7
     obtain ⟨kq, x15_6, rfl, HA, HJ6, BK19001, HB⟩ := hcut
     cases kq with
     | zero => exact absurd HA.out (by simp [spec_IsValidConstraint.j1])
     | succ kj6 =>
      have H := HA.out
      clear HA
      simp only [spec_IsValidConstraint.j1] at H
      by_cases c10 : x15_6 = true
      subst c10
      have H1 : ((spec_IsTerm.f kj6 a0_1).bind fun t19002 => (if t19002 = true then ((spec_IsTerm.f kj6 a0_2).bind fun t19003 => (if t19003 = true then ((spec_l9Zero.f a0_3 a0_4 l0_5).bind fun t19004 => (if t19004 = true then (some x3_1) else (some false))) else (some false))) else (some false))) = some r := by rw [if_pos rfl] at H; exact H
      clear H
      have H := H1
      clear H1
      replace H := Option.bind_eq_some_iff.mp H
      obtain ⟨t19002, A110, H⟩ := H
      replace H : (if t19002 = true then ((spec_IsTerm.f kj6 a0_2).bind fun t19003 => (if t19003 = true then ((spec_l9Zero.f a0_3 a0_4 l0_5).bind fun t19004 => (if t19004 = true then (some x3_1) else (some false))) else (some false))) else (some false)) = some r := H
      have A11 := Aside0.mk A110
      clear A110
      by_cases c12 : t19002 = true
      subst c12
      have H1 : ((spec_IsTerm.f kj6 a0_2).bind fun t19003 => (if t19003 = true then ((spec_l9Zero.f a0_3 a0_4 l0_5).bind fun t19004 => (if t19004 = true then (some x3_1) else (some false))) else (some false))) = some r := by rw [if_pos rfl] at H; exact H
      clear H
      have H := H1
      clear H1
      replace H := Option.bind_eq_some_iff.mp H
      obtain ⟨t19003, A130, H⟩ := H
      replace H : (if t19003 = true then ((spec_l9Zero.f a0_3 a0_4 l0_5).bind fun t19004 => (if t19004 = true then (some x3_1) else (some false))) else (some false)) = some r := H
      have A13 := Aside0.mk A130
      clear A130
      by_cases c14 : t19003 = true
      subst c14
      have H1 : ((spec_l9Zero.f a0_3 a0_4 l0_5).bind fun t19004 => (if t19004 = true then (some x3_1) else (some false))) = some r := by rw [if_pos rfl] at H; exact H
      clear H
      have H := H1
      clear H1
      replace H := Option.bind_eq_some_iff.mp H
      obtain ⟨t19004, A150, H⟩ := H
      replace H : (if t19004 = true then (some x3_1) else (some false)) = some r := H
      have A15 := Aside0.mk A150
      clear A150
      by_cases c16 : t19004 = true
      subst c16
      have H1 : (some x3_1) = some r := by rw [if_pos rfl] at H; exact H
      rotate_left
      replace c16 := Bool.eq_false_iff.mpr c16
      subst c16
      have H1 : (some false) = some r := by rw [if_neg (show ¬ (false = true) by decide)] at H; exact H
      rotate_left
      replace c14 := Bool.eq_false_iff.mpr c14
      subst c14
      have H1 : (some false) = some r := by rw [if_neg (show ¬ (false = true) by decide)] at H; exact H
      rotate_left
      replace c12 := Bool.eq_false_iff.mpr c12
      subst c12
      have H1 : (some false) = some r := by rw [if_neg (show ¬ (false = true) by decide)] at H; exact H
      rotate_left
      · replace c10 := Bool.eq_false_iff.mpr c10
        subst c10
        have H1 : (if a0_0 = 3 then (spec_IsValidConstraint.j2 kj6 x3_1 a0_0 (a0_0 == 3) a0_0 a0_1 a0_2 a0_3 a0_4 l0_5 l0_6 a0_7) else (spec_IsValidConstraint.j2 kj6 x3_1 a0_0 (a0_0 == 4) a0_0 a0_1 a0_2 a0_3 a0_4 l0_5 l0_6 a0_7)) = some r := by rw [if_neg (show ¬ (false = true) by decide)] at H; exact H
        clear H
        have H := H1
        clear H1
        have HC23 := Aside0.mk H
        clear H
        go_upto_if 34 with (fail)
        go_cut [34] (fun v34 wc => ∃ (kq : Nat) (x34_22 : Bool), v34 = .bool x34_22 ∧ Aside0 (spec_IsValidConstraint.j2 kq x3_1 a0_0 x34_22 a0_0 a0_1 a0_2 a0_3 a0_4 l0_5 l0_6 a0_7 = some r) ∧ Aside0 (kq ≤ kj6) ∧ Aside0 (wc.heap[gb19001]? = some (.cells #[.int .i64 a0_0, .string a0_1, .string a0_2, .int .i64 a0_3, .string a0_4, (.slice A0_5 l0_5.length c0_5), (.slice A0_6 l0_6.length c0_6), .int .i64 a0_7] 37 (0, 0))) ∧ Aside0 (Below w.heap.size w wc))
        case first =>
         have H := HC23.out
         clear HC23
         by_cases c24 : a0_0 = 3
         · rw [if_pos c24] at H
           have c24b0 : (a0_0 == 3) = true := beq_iff_eq.mpr c24
           have c24b1 : (a0_0 != 3) = false := bne_eq_false_iff_eq.mpr c24
           clear c24
           (first | rw [c24b0] | (simp only [i64_w, i32_w]; rw [c24b0]) | skip)
           have H' := Aside0.mk H
           clear H
           go_wp2
           go_meet
           case rel => exact ⟨_, ((a0_0 == 3)), (by first | rfl | (simp; done) | (simp [*]; done)), H', ⟨by have := HJ1.out; have := HJ6.out; first | omega | exact Nat.le_refl _⟩, ⟨by (with_reducible repeat (first | refine blk_drewN ?_ _ | refine blk_drew ?_ | refine blk_alloc ?_ _)); exact BK19001.out⟩, ⟨by repeat (first | (with_reducible first | exact HB.out | apply below_alloc | apply pw_below_drewN | apply below_drew1 | refine below_set ?_ (Aside0.out (by assumption))) | exact HB.out)⟩⟩
         · rw [if_neg c24] at H
           have c24b0 : (a0_0 == 3) = false := beq_eq_false_iff_ne.mpr c24
           have c24b1 : (a0_0 != 3) = true := bne_iff_ne.mpr c24
           (first | rw [c24b0] | (simp only [i64_w, i32_w]; rw [c24b0]) | skip)
           have H' := Aside0.mk H
           clear H
           go_wp2
           go_meet
           case rel => exact ⟨_, ((a0_0 == 4)), (by first | rfl | (simp; done) | (simp [*]; done)), H', ⟨by have := HJ1.out; have := HJ6.out; first | omega | exact Nat.le_refl _⟩, ⟨by (with_reducible repeat (first | refine blk_drewN ?_ _ | refine blk_drew ?_ | refine blk_alloc ?_ _)); exact BK19001.out⟩, ⟨by repeat (first | (with_reducible first | exact HB.out | apply below_alloc | apply pw_below_drewN | apply below_drew1 | refine below_set ?_ (Aside0.out (by assumption))) | exact HB.out)⟩⟩
        case rest =>
         clear HC23
         try clear c10
         try clear hcz8_0
         try clear hcz8_1
         try clear hcz8_2
         try clear hcz8_3
         try clear hcz8_4
         try clear hcz8_5
         try clear hcz8_6
         try clear hcz8_7
         try clear hfz8_0
         try clear hfz8_1
         try clear hfz8_2
         try clear hfz8_3
         try clear hfz8_4
         try clear hfz8_5
         try clear hfz8_6
         try clear hfz8_7
         obtain ⟨kq, x34_22, rfl, HA, HJ22, BK19001, HB⟩ := hcut
         cases kq with
         | zero => exact absurd HA.out (by simp [spec_IsValidConstraint.j2])
         | succ kj22 =>
          have H := HA.out
          clear HA
          simp only [spec_IsValidConstraint.j2] at H
          by_cases c25 : x34_22 = true
          subst c25
          have H1 : ((spec_IsTerm.f kj22 a0_1).bind fun t19005 => (if t19005 = true then (if a0_2.toList = ([] : List UInt8) then ((spec_IsValidRegex.f kj22 a0_3 a0_4 l0_5).bind fun t19006 => (if t19006 = true then (some x3_1) else (some false))) else (some false)) else (some false))) = some r := by rw [if_pos rfl] at H; exact H
          clear H
          have H := H1
          clear H1
          replace H := Option.bind_eq_some_iff.mp H
          obtain ⟨t19005, A260, H⟩ := H
          replace H : (if t19005 = true then (if a0_2.toList = ([] : List UInt8) then ((spec_IsValidRegex.f kj22 a0_3 a0_4 l0_5).bind fun t19006 => (if t19006 = true then (some x3_1) else (some false))) else (some false)) else (some false)) = some r := H
          have A26 := Aside0.mk A260
          clear A260
          by_cases c27 : t19005 = true
          subst c27
          have H1 : (if a0_2.toList = ([] : List UInt8) then ((spec_IsValidRegex.f kj22 a0_3 a0_4 l0_5).bind fun t19006 => (if t19006 = true then (some x3_1) else (some false))) else (some false)) = some r := by rw [if_pos rfl] at H; exact H
          clear H
          have H := H1
          clear H1
          by_cases c28 : a0_2.toList = ([] : List UInt8)
          rw [if_pos c28] at H
          have c28b0 : (a0_2.toList == ([] : List UInt8)) = true := beq_iff_eq.mpr c28
          have c28b1 : (a0_2.toList != ([] : List UInt8)) = false := bne_eq_false_iff_eq.mpr c28
          clear c28
          replace H := Option.bind_eq_some_iff.mp H
          obtain ⟨t19006, A290, H⟩ := H
          replace H : (if t19006 = true then (some x3_1) else (some false)) = some r := H
          have A29 := Aside0.mk A290
          clear A290
          by_cases c30 : t19006 = true
          subst c30
          have H1 : (some x3_1) = some r := by rw [if_pos rfl] at H; exact H
          clear H
          have H := H1
          clear H1
          rotate_left
          replace c30 := Bool.eq_false_iff.mpr c30
          subst c30
          have H1 : (some false) = some r := by rw [if_neg (show ¬ (false = true) by decide)] at H; exact H
          clear H
          have H := H1
          clear H1
          rotate_left
          rw [if_neg c28] at H
          have c28b0 : (a0_2.toList == ([] : List UInt8)) = false := beq_eq_false_iff_ne.mpr c28
          have c28b1 : (a0_2.toList != ([] : List UInt8)) = true := bne_iff_ne.mpr c28
          rotate_left
          replace c27 := Bool.eq_false_iff.mpr c27
          subst c27
          have H1 : (some false) = some r := by rw [if_neg (show ¬ (false = true) by decide)] at H; exact H
          clear H
          have H := H1
          clear H1
          rotate_left
          replace c25 := Bool.eq_false_iff.mpr c25
          subst c25
          have H1 : (if a0_0 = 5 then (if a0_1.toList = ([] : List UInt8) then (if a0_2.toList = ([] : List UInt8) then ((spec_l9Zero.f a0_3 a0_4 l0_5).bind fun t19007 => (if t19007 = true then ((spec_l9Coeffs.f kj22 l0_6).bind fun t19008 => (if t19008 = true then ((spec_l1In.f a0_7 (-99) 99).bind fun t19009 => (some t19009)) else (some false))) else (some false))) else (some false)) else (some false)) else (some false)) = some r := by rw [if_neg (show ¬ (false = true) by decide)] at H; exact H
          clear H
          have H := H1
          clear H1
          by_cases c37 : a0_0 = 5
          rw [if_pos c37] at H
          have c37b0 : (a0_0 == 5) = true := beq_iff_eq.mpr c37
          have c37b1 : (a0_0 != 5) = false := bne_eq_false_iff_eq.mpr c37
          clear c37
          by_cases c38 : a0_1.toList = ([] : List UInt8)
          rw [if_pos c38] at H
          have c38b0 : (a0_1.toList == ([] : List UInt8)) = true := beq_iff_eq.mpr c38
          have c38b1 : (a0_1.toList != ([] : List UInt8)) = false := bne_eq_false_iff_eq.mpr c38
          clear c38
          by_cases c39 : a0_2.toList = ([] : List UInt8)
          rw [if_pos c39] at H
          have c39b0 : (a0_2.toList == ([] : List UInt8)) = true := beq_iff_eq.mpr c39
          have c39b1 : (a0_2.toList != ([] : List UInt8)) = false := bne_eq_false_iff_eq.mpr c39
          clear c39
          replace H := Option.bind_eq_some_iff.mp H
          obtain ⟨t19007, A400, H⟩ := H
          replace H : (if t19007 = true then ((spec_l9Coeffs.f kj22 l0_6).bind fun t19008 => (if t19008 = true then ((spec_l1In.f a0_7 (-99) 99).bind fun t19009 => (some t19009)) else (some false))) else (some false)) = some r := H
          have A40 := Aside0.mk A400
          clear A400
          by_cases c41 : t19007 = true
          subst c41
          have H1 : ((spec_l9Coeffs.f kj22 l0_6).bind fun t19008 => (if t19008 = true then ((spec_l1In.f a0_7 (-99) 99).bind fun t19009 => (some t19009)) else (some false))) = some r := by rw [if_pos rfl] at H; exact H
          clear H
          have H := H1
          clear H1
          replace H := Option.bind_eq_some_iff.mp H
          obtain ⟨t19008, A420, H⟩ := H
          replace H : (if t19008 = true then ((spec_l1In.f a0_7 (-99) 99).bind fun t19009 => (some t19009)) else (some false)) = some r := H
          have A42 := Aside0.mk A420
          clear A420
          by_cases c43 : t19008 = true
          subst c43
          have H1 : ((spec_l1In.f a0_7 (-99) 99).bind fun t19009 => (some t19009)) = some r := by rw [if_pos rfl] at H; exact H
          clear H
          have H := H1
          clear H1
          replace H := Option.bind_eq_some_iff.mp H
          obtain ⟨t19009, A440, H⟩ := H
          replace H : (some t19009) = some r := H
          have A44 := Aside0.mk A440
          clear A440
          rotate_left
          replace c43 := Bool.eq_false_iff.mpr c43
          subst c43
          have H1 : (some false) = some r := by rw [if_neg (show ¬ (false = true) by decide)] at H; exact H
          clear H
          have H := H1
          clear H1
          rotate_left
          replace c41 := Bool.eq_false_iff.mpr c41
          subst c41
          have H1 : (some false) = some r := by rw [if_neg (show ¬ (false = true) by decide)] at H; exact H
          clear H
          have H := H1
          clear H1
          rotate_left
          rw [if_neg c39] at H
          have c39b0 : (a0_2.toList == ([] : List UInt8)) = false := beq_eq_false_iff_ne.mpr c39
          have c39b1 : (a0_2.toList != ([] : List UInt8)) = true := bne_iff_ne.mpr c39
          rotate_left
          rw [if_neg c38] at H
          have c38b0 : (a0_1.toList == ([] : List UInt8)) = false := beq_eq_false_iff_ne.mpr c38
          have c38b1 : (a0_1.toList != ([] : List UInt8)) = true := bne_iff_ne.mpr c38
          rotate_left
          · rw [if_neg c37] at H
            have c37b0 : (a0_0 == 5) = false := beq_eq_false_iff_ne.mpr c37
            have c37b1 : (a0_0 != 5) = true := bne_iff_ne.mpr c37
            obtain rfl := Option.some.inj H
            go_wp2
            go_ret
            exact ⟨by first | rfl | (simp [errW_none, errW_some] <;> rfl) | (simp [*, errW_none, errW_some] <;> rfl), by repeat (first | (with_reducible first | exact HB.out | apply below_alloc | apply pw_below_drewN | apply below_drew1 | refine below_set ?_ (Aside0.out (by assumption))) | exact HB.out)⟩
          all_goals
           obtain rfl := Option.some.inj H
           obtain ⟨hcz45_0, hcz45_1, hcz45_2, hcz45_3, hcz45_4, hcz45_5, hcz45_6, hcz45_7, hfz45_0, hfz45_1, hfz45_2, hfz45_3, hfz45_4, hfz45_5, hfz45_6, hfz45_7⟩ := blk8 BK19001.out
           go_wp2_with (first | (go_at_call 43; (with_reducible refine (spec_l9Zero.calls a0_3 a0_4 _ _ l0_5 _ _ ?side1 ?side2 A40.out).mono ?_); (case side1 => repeat (first | exact (Kd.C_below HR0_5.out HB.out) | (with_reducible refine Kd.C_alloc ?_ _) | (with_reducible refine Kd.C_drewN ?_ _) | (with_reducible refine Kd.C_drew ?_))); (case side2 => exact HC0_5.out); rintro e w46 ⟨rfl, hb⟩; have n0_ := Aside0.mk (blk_below (g := gb19001) (o := .cells #[.int .i64 a0_0, .string a0_1, .string a0_2, .int .i64 a0_3, .string a0_4, .slice A0_5 l0_5.length c0_5, .slice A0_6 l0_6.length c0_6, .int .i64 a0_7] 37 (0, 0)) (by (with_reducible repeat (first | refine blk_drewN ?_ _ | refine blk_drew ?_ | refine blk_alloc ?_ _)); exact BK19001.out) hb); have n1_ := Aside0.mk (below_step (by repeat (first | (with_reducible first | exact HB.out | apply below_alloc | apply pw_below_drewN | apply below_drew1 | refine below_set ?_ (Aside0.out (by assumption))) | exact HB.out)) hb); clear BK19001; clear HB; have BK19001 := n0_; have HB := n1_; clear n0_ n1_; (try clear hb); (try clear hb2); (try clear hk); (try clear hi); obtain ⟨hcz47_0, hcz47_1, hcz47_2, hcz47_3, hcz47_4, hcz47_5, hcz47_6, hcz47_7, hfz47_0, hfz47_1, hfz47_2, hfz47_3, hfz47_4, hfz47_5, hfz47_6, hfz47_7⟩ := blk8 BK19001.out) | (go_at_call 45; (with_reducible refine (spec_l9Coeffs.calls kj22 _ _ l0_6 _ _ ?side1 ?side2 A42.out).mono ?_); (case side1 => repeat (first | exact (Kd.C_below HR0_6.out HB.out) | (with_reducible refine Kd.C_alloc ?_ _) | (with_reducible refine Kd.C_drewN ?_ _) | (with_reducible refine Kd.C_drew ?_))); (case side2 => exact HC0_6.out); rintro e w' ⟨rfl, ⟨nd, rfl⟩⟩) | (go_at_call 46; (with_reducible refine (spec_l1In.calls a0_7 (-99) 99 t19009 _ A44.out).mono ?_); rintro e w' ⟨rfl, ⟨nd, rfl⟩⟩) | ((with_reducible refine gate_callee (f := 42) rfl ?_); refine goesL_ (some 39) rfl rfl Try.func42 (by kernel_rfl) rfl #[.string a0_1] rfl (by (try simp only [List.map_toArray, List.map_cons, List.map_nil]); first | done | rfl | (simp only [List.length_drop, List.length_take]; rfl)) ?_; (with_reducible refine (spec_IsTerm.calls kj22 a0_1 _ _ A26.out).mono ?_); rintro e w' ⟨rfl, ⟨nd, rfl⟩⟩; refine ⟨_, rfl, ?_⟩) | (go_at_call 44; (with_reducible refine (spec_IsValidRegex.calls kj22 a0_3 a0_4 _ _ l0_5 _ _ ?side1 ?side2 A29.out).mono ?_); (case side1 => repeat (first | exact (Kd.C_below HR0_5.out (by repeat (first | (with_reducible first | exact HB.out | apply below_alloc | apply pw_below_drewN | apply below_drew1 | refine below_set ?_ (Aside0.out (by assumption))) | exact HB.out))) | (with_reducible refine Kd.C_alloc ?_ _) | (with_reducible refine Kd.C_drewN ?_ _) | (with_reducible refine Kd.C_drew ?_))); (case side2 => exact HC0_5.out); rintro e w32 ⟨rfl, hb⟩; have n0_ := Aside0.mk (blk_below (g := gb19001) (o := .cells #[.int .i64 a0_0, .string a0_1, .string a0_2, .int .i64 a0_3, .string a0_4, .slice A0_5 l0_5.length c0_5, .slice A0_6 l0_6.length c0_6, .int .i64 a0_7] 37 (0, 0)) (by (with_reducible repeat (first | refine blk_drewN ?_ _ | refine blk_drew ?_ | refine blk_alloc ?_ _)); exact BK19001.out) hb); have n1_ := Aside0.mk (below_step (by repeat (first | (with_reducible first | exact HB.out | apply below_alloc | apply pw_below_drewN | apply below_drew1 | refine below_set ?_ (Aside0.out (by assumption))) | exact HB.out)) hb); clear BK19001; clear HB; have BK19001 := n0_; have HB := n1_; clear n0_ n1_; (try clear hb); (try clear hb2); (try clear hk); (try clear hi)))
           go_ret
           exact ⟨by first | rfl | (simp [errW_none, errW_some] <;> rfl) | (simp [*, errW_none, errW_some] <;> rfl), by repeat (first | (with_reducible first | exact HB.out | apply below_alloc | apply pw_below_drewN | apply below_drew1 | refine below_set ?_ (Aside0.out (by assumption))) | exact HB.out)⟩
      all_goals
       clear H
       have H := H1
       clear H1
       obtain rfl := Option.some.inj H
       obtain ⟨hcz17_0, hcz17_1, hcz17_2, hcz17_3, hcz17_4, hcz17_5, hcz17_6, hcz17_7, hfz17_0, hfz17_1, hfz17_2, hfz17_3, hfz17_4, hfz17_5, hfz17_6, hfz17_7⟩ := blk8 BK19001.out
       go_wp2_with (first | ((with_reducible refine gate_callee (f := 42) rfl ?_); refine goesL_ (some 20) rfl rfl Try.func42 (by kernel_rfl) rfl #[.string a0_1] rfl (by (try simp only [List.map_toArray, List.map_cons, List.map_nil]); first | done | rfl | (simp only [List.length_drop, List.length_take]; rfl)) ?_; (with_reducible refine (spec_IsTerm.calls kj6 a0_1 _ _ A11.out).mono ?_); rintro e w' ⟨rfl, ⟨nd, rfl⟩⟩; refine ⟨_, rfl, ?_⟩) | (go_at_call 42; (with_reducible refine (spec_IsTerm.calls kj6 a0_2 _ _ A13.out).mono ?_); rintro e w' ⟨rfl, ⟨nd, rfl⟩⟩) | (go_at_call 43; (with_reducible refine (spec_l9Zero.calls a0_3 a0_4 _ _ l0_5 _ _ ?side1 ?side2 A15.out).mono ?_); (case side1 => repeat (first | exact (Kd.C_below HR0_5.out (by repeat (first | (with_reducible first | exact HB.out | apply below_alloc | apply pw_below_drewN | apply below_drew1 | refine below_set ?_ (Aside0.out (by assumption))) | exact HB.out))) | (with_reducible refine Kd.C_alloc ?_ _) | (with_reducible refine Kd.C_drewN ?_ _) | (with_reducible refine Kd.C_drew ?_))); (case side2 => exact HC0_5.out); rintro e w18 ⟨rfl, hb⟩; have n0_ := Aside0.mk (blk_below (g := gb19001) (o := .cells #[.int .i64 a0_0, .string a0_1, .string a0_2, .int .i64 a0_3, .string a0_4, .slice A0_5 l0_5.length c0_5, .slice A0_6 l0_6.length c0_6, .int .i64 a0_7] 37 (0, 0)) (by (with_reducible repeat (first | refine blk_drewN ?_ _ | refine blk_drew ?_ | refine blk_alloc ?_ _)); exact BK19001.out) hb); have n1_ := Aside0.mk (below_step (by repeat (first | (with_reducible first | exact HB.out | apply below_alloc | apply pw_below_drewN | apply below_drew1 | refine below_set ?_ (Aside0.out (by assumption))) | exact HB.out)) hb); clear BK19001; clear HB; have BK19001 := n0_; have HB := n1_; clear n0_ n1_; (try clear hb); (try clear hb2); (try clear hk); (try clear hi)))
       go_ret
       exact ⟨by first | rfl | (simp [errW_none, errW_some] <;> rfl) | (simp [*, errW_none, errW_some] <;> rfl), by repeat (first | (with_reducible first | exact HB.out | apply below_alloc | apply pw_below_drewN | apply below_drew1 | refine below_set ?_ (Aside0.out (by assumption))) | exact HB.out)⟩
/-! ### spec_l9Sum: function 50 -/
def spec_l9Sum.f (l0 : List Int) (a1_0 : ByteArray) (a1_1 : ByteArray) (a1_2 : ByteArray) : Option (Int) := if 0 < (l0.length : Int) then (if 1 < (l0.length : Int) then (if 2 < (l0.length : Int) then (some (wrap64 ((wrap64 ((wrap64 ((rd l0 0) * (a1_0.size : Int))) + (wrap64 ((rd l0 1) * (a1_1.size : Int))))) + (wrap64 ((rd l0 2) * (a1_2.size : Int)))))) else (none)) else (none)) else (none)
set_option maxHeartbeats 8000000 in
set_option maxRecDepth 100000 in
theorem spec_l9Sum.calls (A0 : Option Addr) (c0 : Nat) (l0 : List Int) (a1_0 : ByteArray) (a1_1 : ByteArray) (a1_2 : ByteArray) (r : Int) (w : World) (hr0 : Kd.C (Kd.int .i64) w A0 l0.length l0) (hc0 : l0.length ≤ c0) (h : spec_l9Sum.f l0 a1_0 a1_1 a1_2 = some r) :
    Calls Try.prog 50 #[.slice A0 l0.length c0, .agg #[.string a1_0, .string a1_1, .string a1_2]] w fun e w' => e = .returned (.int .i64 r) ∧ Below w.heap.size w w' := by
  have hu39 := Try.underlying39
  have HR0 := Aside0.mk hr0
  have HC0 := Aside0.mk hc0
  clear hr0 hc0
  have HB := Aside0.mk (Below.refl w.heap.size w)
  have H : (if 0 < (l0.length : Int) then (if 1 < (l0.length : Int) then (if 2 < (l0.length : Int) then (some (wrap64 ((wrap64 ((wrap64 ((rd l0 0) * (a1_0.size : Int))) + (wrap64 ((rd l0 1) * (a1_1.size : Int))))) + (wrap64 ((rd l0 2) * (a1_2.size : Int)))))) else (none)) else (none)) else (none)) = some r := h
  clear h
  by_cases c3 : 0 < (l0.length : Int)
  rw [if_pos c3] at H
  have c3b0 : decide (0 < (l0.length : Int)) = true := decide_eq_true c3
  have c3b1 : decide (0 < l0.length) = true := decide_eq_true (by omega)
  clear c3
  by_cases c4 : 1 < (l0.length : Int)
  rw [if_pos c4] at H
  have c4b0 : decide (1 < (l0.length : Int)) = true := decide_eq_true c4
  have c4b1 : decide (1 < l0.length) = true := decide_eq_true (by omega)
  clear c4
  by_cases c5 : 2 < (l0.length : Int)
  · rw [if_pos c5] at H
    have c5b0 : decide (2 < (l0.length : Int)) = true := decide_eq_true c5
    have c5b1 : decide (2 < l0.length) = true := decide_eq_true (by omega)
    clear c5
    obtain rfl := Option.some.inj H
    go_enter Try.func50, Try.ntmps50
    go_wp2_with (first | ((with_reducible refine gate_dst (N := 3) rfl ?_); refine box_event ?hg (N := 3) ?hd (cs := #[.string a1_0, .string a1_1, .string a1_2]) (t := 39) ?hr ?_; (case hd => rfl); (case hg => rfl); (case hr => first | (go_simp; done) | (go_simp; rfl)); intro gb50001 hg w6 hbox hb; have n0_ := Aside0.mk (below_step (by repeat (first | (with_reducible first | exact HB.out | apply below_alloc | apply pw_below_drewN | apply below_drew1 | refine below_set ?_ (Aside0.out (by assumption))) | exact HB.out)) hb); have n1_ := Aside0.mk (hbox); have n2_ := Aside0.mk ((by rw [hg]; exact (below_size (by repeat (first | (with_reducible first | exact HB.out | apply below_alloc | apply pw_below_drewN | apply below_drew1 | refine below_set ?_ (Aside0.out (by assumption))) | exact HB.out))) : w.heap.size ≤ gb50001)); have n3_ := Aside0.mk ((by rw [hg]; exact (below_size (by repeat (first | (with_reducible first | exact HB.out | apply below_alloc | apply pw_below_drewN | apply below_drew1 | refine below_set ?_ (Aside0.out (by assumption))) | exact HB.out))) : w.heap.size ≤ gb50001)); clear HB; have HB := n0_; have BK50001 := n1_; have GW50001 := n2_; have GE50001 := n3_; clear n0_ n1_ n2_ n3_; clear hb hbox hg; have p50002 : 0 ≤ (0 : Int) := (by omega); have q50002 : 0 < (l0.length : Int) := of_decide_eq_true (by first | (with_reducible assumption) | assumption); obtain ⟨ad50002, e50002, hx50002_0⟩ := Kd.at_int HR0.out 0 p50002 q50002; cases e50002; have qi50002 : (0 < l0.length) = True := eq_true (by omega); (try rw [show ((0 : Int)).toNat = 0 from rfl] at hx50002_0); (try rw [Addr.add_zero'] at hx50002_0); replace hx50002_0 := (HB.out.cell (World.block_lt_of_cell? w _ hx50002_0)).trans hx50002_0; replace p50002 := eq_true p50002; replace q50002 := eq_true q50002; obtain ⟨hcz7_0, hcz7_1, hcz7_2, hfz7_0, hfz7_1, hfz7_2⟩ := blk3 BK50001.out; have p50003 : 0 ≤ (1 : Int) := (by omega); have q50003 : 1 < (l0.length : Int) := of_decide_eq_true (by first | (with_reducible assumption) | assumption); obtain ⟨ad50003, e50003, hx50003_0⟩ := Kd.at_int HR0.out 1 p50003 q50003; obtain rfl : ad50002 = ad50003 := (by injection e50003); (try simp only [show (1 : Int).toNat = 1 from rfl, Nat.reduceMul, Nat.reduceEqDiff, Go.Addr.add, ↓reduceIte] at hx50003_0); have qi50003 : (1 < l0.length) = True := eq_true (by omega); (try rw [show ((1 : Int)).toNat = 1 from rfl] at hx50003_0); replace hx50003_0 := (HB.out.cell (World.block_lt_of_cell? w _ hx50003_0)).trans hx50003_0; replace p50003 := eq_true p50003; replace q50003 := eq_true q50003; have p50004 : 0 ≤ (2 : Int) := (by omega); have q50004 : 2 < (l0.length : Int) := of_decide_eq_true (by first | (with_reducible assumption) | assumption); obtain ⟨ad50004, e50004, hx50004_0⟩ := Kd.at_int HR0.out 2 p50004 q50004; obtain rfl : ad50002 = ad50004 := (by injection e50004); (try simp only [show (2 : Int).toNat = 2 from rfl, Nat.reduceMul, Nat.reduceEqDiff, Go.Addr.add, ↓reduceIte] at hx50004_0); have qi50004 : (2 < l0.length) = True := eq_true (by omega); (try rw [show ((2 : Int)).toNat = 2 from rfl] at hx50004_0); replace hx50004_0 := (HB.out.cell (World.block_lt_of_cell? w _ hx50004_0)).trans hx50004_0; replace p50004 := eq_true p50004; replace q50004 := eq_true q50004))
    repeat (go_quiet (first | ((with_reducible refine gate_dst (N := 3) rfl ?_); refine box_event ?hg (N := 3) ?hd (cs := #[.string a1_0, .string a1_1, .string a1_2]) (t := 39) ?hr ?_; (case hd => rfl); (case hg => rfl); (case hr => first | (go_simp; done) | (go_simp; rfl)); intro gb50001 hg w6 hbox hb; have n0_ := Aside0.mk (below_step (by repeat (first | (with_reducible first | exact HB.out | apply below_alloc | apply pw_below_drewN | apply below_drew1 | refine below_set ?_ (Aside0.out (by assumption))) | exact HB.out)) hb); have n1_ := Aside0.mk (hbox); have n2_ := Aside0.mk ((by rw [hg]; exact (below_size (by repeat (first | (with_reducible first | exact HB.out | apply below_alloc | apply pw_below_drewN | apply below_drew1 | refine below_set ?_ (Aside0.out (by assumption))) | exact HB.out))) : w.heap.size ≤ gb50001)); have n3_ := Aside0.mk ((by rw [hg]; exact (below_size (by repeat (first | (with_reducible first | exact HB.out | apply below_alloc | apply pw_below_drewN | apply below_drew1 | refine below_set ?_ (Aside0.out (by assumption))) | exact HB.out))) : w.heap.size ≤ gb50001)); clear HB; have HB := n0_; have BK50001 := n1_; have GW50001 := n2_; have GE50001 := n3_; clear n0_ n1_ n2_ n3_; clear hb hbox hg; have p50002 : 0 ≤ (0 : Int) := (by omega); have q50002 : 0 < (l0.length : Int) := of_decide_eq_true (by first | (with_reducible assumption) | assumption); obtain ⟨ad50002, e50002, hx50002_0⟩ := Kd.at_int HR0.out 0 p50002 q50002; cases e50002; have qi50002 : (0 < l0.length) = True := eq_true (by omega); (try rw [show ((0 : Int)).toNat = 0 from rfl] at hx50002_0); (try rw [Addr.add_zero'] at hx50002_0); replace hx50002_0 := (HB.out.cell (World.block_lt_of_cell? w _ hx50002_0)).trans hx50002_0; replace p50002 := eq_true p50002; replace q50002 := eq_true q50002; obtain ⟨hcz7_0, hcz7_1, hcz7_2, hfz7_0, hfz7_1, hfz7_2⟩ := blk3 BK50001.out; have p50003 : 0 ≤ (1 : Int) := (by omega); have q50003 : 1 < (l0.length : Int) := of_decide_eq_true (by first | (with_reducible assumption) | assumption); obtain ⟨ad50003, e50003, hx50003_0⟩ := Kd.at_int HR0.out 1 p50003 q50003; obtain rfl : ad50002 = ad50003 := (by injection e50003); (try simp only [show (1 : Int).toNat = 1 from rfl, Nat.reduceMul, Nat.reduceEqDiff, Go.Addr.add, ↓reduceIte] at hx50003_0); have qi50003 : (1 < l0.length) = True := eq_true (by omega); (try rw [show ((1 : Int)).toNat = 1 from rfl] at hx50003_0); replace hx50003_0 := (HB.out.cell (World.block_lt_of_cell? w _ hx50003_0)).trans hx50003_0; replace p50003 := eq_true p50003; replace q50003 := eq_true q50003; have p50004 : 0 ≤ (2 : Int) := (by omega); have q50004 : 2 < (l0.length : Int) := of_decide_eq_true (by first | (with_reducible assumption) | assumption); obtain ⟨ad50004, e50004, hx50004_0⟩ := Kd.at_int HR0.out 2 p50004 q50004; obtain rfl : ad50002 = ad50004 := (by injection e50004); (try simp only [show (2 : Int).toNat = 2 from rfl, Nat.reduceMul, Nat.reduceEqDiff, Go.Addr.add, ↓reduceIte] at hx50004_0); have qi50004 : (2 < l0.length) = True := eq_true (by omega); (try rw [show ((2 : Int)).toNat = 2 from rfl] at hx50004_0); replace hx50004_0 := (HB.out.cell (World.block_lt_of_cell? w _ hx50004_0)).trans hx50004_0; replace p50004 := eq_true p50004; replace q50004 := eq_true q50004)); try go_wp2_with (first | ((with_reducible refine gate_dst (N := 3) rfl ?_); refine box_event ?hg (N := 3) ?hd (cs := #[.string a1_0, .string a1_1, .string a1_2]) (t := 39) ?hr ?_; (case hd => rfl); (case hg => rfl); (case hr => first | (go_simp; done) | (go_simp; rfl)); intro gb50001 hg w6 hbox hb; have n0_ := Aside0.mk (below_step (by repeat (first | (with_reducible first | exact HB.out | apply below_alloc | apply pw_below_drewN | apply below_drew1 | refine below_set ?_ (Aside0.out (by assumption))) | exact HB.out)) hb); have n1_ := Aside0.mk (hbox); have n2_ := Aside0.mk ((by rw [hg]; exact (below_size (by repeat (first | (with_reducible first | exact HB.out | apply below_alloc | apply pw_below_drewN | apply below_drew1 | refine below_set ?_ (Aside0.out (by assumption))) | exact HB.out))) : w.heap.size ≤ gb50001)); have n3_ := Aside0.mk ((by rw [hg]; exact (below_size (by repeat (first | (with_reducible first | exact HB.out | apply below_alloc | apply pw_below_drewN | apply below_drew1 | refine below_set ?_ (Aside0.out (by assumption))) | exact HB.out))) : w.heap.size ≤ gb50001)); clear HB; have HB := n0_; have BK50001 := n1_; have GW50001 := n2_; have GE50001 := n3_; clear n0_ n1_ n2_ n3_; clear hb hbox hg; have p50002 : 0 ≤ (0 : Int) := (by omega); have q50002 : 0 < (l0.length : Int) := of_decide_eq_true (by first | (with_reducible assumption) | assumption); obtain ⟨ad50002, e50002, hx50002_0⟩ := Kd.at_int HR0.out 0 p50002 q50002; cases e50002; have qi50002 : (0 < l0.length) = True := eq_true (by omega); (try rw [show ((0 : Int)).toNat = 0 from rfl] at hx50002_0); (try rw [Addr.add_zero'] at hx50002_0); replace hx50002_0 := (HB.out.cell (World.block_lt_of_cell? w _ hx50002_0)).trans hx50002_0; replace p50002 := eq_true p50002; replace q50002 := eq_true q50002; obtain ⟨hcz7_0, hcz7_1, hcz7_2, hfz7_0, hfz7_1, hfz7_2⟩ := blk3 BK50001.out; have p50003 : 0 ≤ (1 : Int) := (by omega); have q50003 : 1 < (l0.length : Int) := of_decide_eq_true (by first | (with_reducible assumption) | assumption); obtain ⟨ad50003, e50003, hx50003_0⟩ := Kd.at_int HR0.out 1 p50003 q50003; obtain rfl : ad50002 = ad50003 := (by injection e50003); (try simp only [show (1 : Int).toNat = 1 from rfl, Nat.reduceMul, Nat.reduceEqDiff, Go.Addr.add, ↓reduceIte] at hx50003_0); have qi50003 : (1 < l0.length) = True := eq_true (by omega); (try rw [show ((1 : Int)).toNat = 1 from rfl] at hx50003_0); replace hx50003_0 := (HB.out.cell (World.block_lt_of_cell? w _ hx50003_0)).trans hx50003_0; replace p50003 := eq_true p50003; replace q50003 := eq_true q50003; have p50004 : 0 ≤ (2 : Int) := (by omega); have q50004 : 2 < (l0.length : Int) := of_decide_eq_true (by first | (with_reducible assumption) | assumption); obtain ⟨ad50004, e50004, hx50004_0⟩ := Kd.at_int HR0.out 2 p50004 q50004; obtain rfl : ad50002 = ad50004 := (by injection e50004); (try simp only [show (2 : Int).toNat = 2 from rfl, Nat.reduceMul, Nat.reduceEqDiff, Go.Addr.add, ↓reduceIte] at hx50004_0); have qi50004 : (2 < l0.length) = True := eq_true (by omega); (try rw [show ((2 : Int)).toNat = 2 from rfl] at hx50004_0); replace hx50004_0 := (HB.out.cell (World.block_lt_of_cell? w _ hx50004_0)).trans hx50004_0; replace p50004 := eq_true p50004; replace q50004 := eq_true q50004)))
    go_ret
    exact ⟨by first | rfl | (simp [errW_none, errW_some] <;> rfl) | (simp [*, errW_none, errW_some] <;> rfl), by repeat (first | (with_reducible first | exact HB.out | apply below_alloc | apply pw_below_drewN | apply below_drew1 | refine below_set ?_ (Aside0.out (by assumption))) | exact HB.out)⟩
  · rw [if_neg c5] at H
    exact absurd H (by simp)
  · rw [if_neg c4] at H
    exact absurd H (by simp)
  · rw [if_neg c3] at H
    exact absurd H (by simp)
/-! ### spec_l9Holds: function 21 -/
def spec_l9Holds.f (k : Nat) (a0_0 : Int) (a0_1 : ByteArray) (a0_2 : ByteArray) (a0_3 : Int) (a0_4 : ByteArray) (l0_5 : List (S35)) (l0_6 : List Int) (a0_7 : Int) (a1_0 : ByteArray) (a1_1 : ByteArray) (a1_2 : ByteArray) : Option (Bool) := (spec_ApplyValues.f k a0_1 a1_0 a1_1 a1_2).bind fun t21003 => (if a0_0 = 1 then ((spec_ApplyValues.f k a0_2 a1_0 a1_1 a1_2).bind fun t21004 => (some (t21003.toList == t21004.toList))) else (if a0_0 = 2 then ((spec_ApplyValues.f k a0_2 a1_0 a1_1 a1_2).bind fun t21005 => (some (t21003.toList != t21005.toList))) else (if a0_0 = 3 then ((spec_l4Match.f a0_3 a0_4 l0_5 t21003).bind fun t21006 => (some t21006)) else (if a0_0 = 4 then ((spec_l4Match.f a0_3 a0_4 l0_5 t21003).bind fun t21007 => (some (!t21007))) else ((spec_l9Sum.f l0_6 a1_0 a1_1 a1_2).bind fun t21008 => (some (decide (t21008 ≤ a0_7))))))))
theorem spec_l9Holds.mono : ∀ a0 a1 a2 a3 a4 a5 a6 a7 a8 a9 a10 k, LeO (spec_l9Holds.f k a0 a1 a2 a3 a4 a5 a6 a7 a8 a9 a10) (spec_l9Holds.f (k + 1) a0 a1 a2 a3 a4 a5 a6 a7 a8 a9 a10) := by
  intro a0 a1 a2 a3 a4 a5 a6 a7 a8 a9 a10 k
  unfold spec_l9Holds.f
  repeat' first
      | with_reducible first | exact spec_ApplyValues.mono _ _ _ _ _ | exact LeO.refl _ | exact LeO.none _ | refine LeO.ite ?_ ?_ | refine LeO.bind ?_ (fun _ => ?_)
      | exact spec_ApplyValues.mono _ _ _ _ _ | exact LeO.none _ | refine LeO.ite ?_ ?_ | refine LeO.bind ?_ (fun _ => ?_)
def spec_l9Holds.T11 : Bool × List (List Nat × List Nat) := (true, [([], []), ([0], [0]), ([], []), ([1, 2], [1, 2]), ([], []), ([4], [4]), ([3, 5], [3, 5]), ([6, 3, 0, 1, 2, 3, 4, 5, 6], [6])])
def spec_l9Holds.B11 : List Nat := [0, 1, 0, 7, 0, 16, 63, 127]
theorem spec_l9Holds.tab11 : rtab .any (opsOf Try.f21 11) = spec_l9Holds.T11 := by kernel_rfl
theorem spec_l9Holds.bits11 : waitsOk spec_l9Holds.T11.2 spec_l9Holds.B11 = true := by kernel_rfl
set_option maxHeartbeats 8000000 in
set_option maxRecDepth 100000 in
theorem spec_l9Holds.calls (k : Nat) (a0_0 : Int) (a0_1 : ByteArray) (a0_2 : ByteArray) (a0_3 : Int) (a0_4 : ByteArray) (A0_5 : Option Addr) (c0_5 : Nat) (l0_5 : List (S35)) (A0_6 : Option Addr) (c0_6 : Nat) (l0_6 : List Int) (a0_7 : Int) (a1_0 : ByteArray) (a1_1 : ByteArray) (a1_2 : ByteArray) (r : Bool) (w : World) (hr0_5 : Kd.C k35 w A0_5 l0_5.length l0_5) (hc0_5 : l0_5.length ≤ c0_5) (hr0_6 : Kd.C (Kd.int .i64) w A0_6 l0_6.length l0_6) (hc0_6 : l0_6.length ≤ c0_6) (h : spec_l9Holds.f k a0_0 a0_1 a0_2 a0_3 a0_4 l0_5 l0_6 a0_7 a1_0 a1_1 a1_2 = some r) :
    Calls Try.prog 21 #[.agg #[.int .i64 a0_0, .string a0_1, .string a0_2, .int .i64 a0_3, .string a0_4, .slice A0_5 l0_5.length c0_5, .slice A0_6 l0_6.length c0_6, .int .i64 a0_7], .agg #[.string a1_0, .string a1_1, .string a1_2]] w fun e w' => e = .returned (.bool r) ∧ Below w.heap.size w w' := by
  have hu37 := Try.underlying37
  have hu39 := Try.underlying39
  have hu35 := Try.underlying35
  have HR0_5 := Aside0.mk hr0_5
  have HC0_5 := Aside0.mk hc0_5
  clear hr0_5 hc0_5
  have HR0_6 := Aside0.mk hr0_6
  have HC0_6 := Aside0.mk hc0_6
  clear hr0_6 hc0_6
  have HB := Aside0.mk (Below.refl w.heap.size w)
  have H : ((spec_ApplyValues.f k a0_1 a1_0 a1_1 a1_2).bind fun t21003 => (if a0_0 = 1 then ((spec_ApplyValues.f k a0_2 a1_0 a1_1 a1_2).bind fun t21004 => (some (t21003.toList == t21004.toList))) else (if a0_0 = 2 then ((spec_ApplyValues.f k a0_2 a1_0 a1_1 a1_2).bind fun t21005 => (some (t21003.toList != t21005.toList))) else (if a0_0 = 3 then ((spec_l4Match.f a0_3 a0_4 l0_5 t21003).bind fun t21006 => (some t21006)) else (if a0_0 = 4 then ((spec_l4Match.f a0_3 a0_4 l0_5 t21003).bind fun t21007 => (some (!t21007))) else ((spec_l9Sum.f l0_6 a1_0 a1_1 a1_2).bind fun t21008 => (some (decide (t21008 ≤ a0_7))))))))) = some r := h
  clear h
  replace H := Option.bind_eq_some_iff.mp H
  obtain ⟨t21003, A30, H⟩ := H
  replace H : (if a0_0 = 1 then ((spec_ApplyValues.f k a0_2 a1_0 a1_1 a1_2).bind fun t21004 => (some (t21003.toList == t21004.toList))) else (if a0_0 = 2 then ((spec_ApplyValues.f k a0_2 a1_0 a1_1 a1_2).bind fun t21005 => (some (t21003.toList != t21005.toList))) else (if a0_0 = 3 then ((spec_l4Match.f a0_3 a0_4 l0_5 t21003).bind fun t21006 => (some t21006)) else (if a0_0 = 4 then ((spec_l4Match.f a0_3 a0_4 l0_5 t21003).bind fun t21007 => (some (!t21007))) else ((spec_l9Sum.f l0_6 a1_0 a1_1 a1_2).bind fun t21008 => (some (decide (t21008 ≤ a0_7)))))))) = some r := H
  have A3 := Aside0.mk A30
  clear A30
  by_cases c4 : a0_0 = 1
  rw [if_pos c4] at H
  have c4b0 : (a0_0 == 1) = true := beq_iff_eq.mpr c4
  have c4b1 : (a0_0 != 1) = false := bne_eq_false_iff_eq.mpr c4
  clear c4
  replace H := Option.bind_eq_some_iff.mp H
  obtain ⟨t21004, A50, H⟩ := H
  replace H : (some (t21003.toList == t21004.toList)) = some r := H
  have A5 := Aside0.mk A50
  clear A50
  have tag1_ := Aside0.mk trivial
  rotate_left
  rw [if_neg c4] at H
  have c4b0 : (a0_0 == 1) = false := beq_eq_false_iff_ne.mpr c4
  have c4b1 : (a0_0 != 1) = true := bne_iff_ne.mpr c4
  by_cases c15 : a0_0 = 2
  rw [if_pos c15] at H
  have c15b0 : (a0_0 == 2) = true := beq_iff_eq.mpr c15
  have c15b1 : (a0_0 != 2) = false := bne_eq_false_iff_eq.mpr c15
  clear c15
  replace H := Option.bind_eq_some_iff.mp H
  obtain ⟨t21005, A160, H⟩ := H
  replace H : (some (t21003.toList != t21005.toList)) = some r := H
  have A16 := Aside0.mk A160
  clear A160
  have tag0_ := Aside0.mk trivial
  rotate_left
  rw [if_neg c15] at H
  have c15b0 : (a0_0 == 2) = false := beq_eq_false_iff_ne.mpr c15
  have c15b1 : (a0_0 != 2) = true := bne_iff_ne.mpr c15
  by_cases c26 : a0_0 = 3
  rw [if_pos c26] at H
  have c26b0 : (a0_0 == 3) = true := beq_iff_eq.mpr c26
  have c26b1 : (a0_0 != 3) = false := bne_eq_false_iff_eq.mpr c26
  clear c26
  replace H := Option.bind_eq_some_iff.mp H
  obtain ⟨t21006, A270, H⟩ := H
  replace H : (some t21006) = some r := H
  have A27 := Aside0.mk A270
  clear A270
  have tag0_ := Aside0.mk trivial
  rotate_left
  rw [if_neg c26] at H
  have c26b0 : (a0_0 == 3) = false := beq_eq_false_iff_ne.mpr c26
  have c26b1 : (a0_0 != 3) = true := bne_iff_ne.mpr c26
  by_cases c36 : a0_0 = 4
  rw [if_pos c36] at H
  have c36b0 : (a0_0 == 4) = true := beq_iff_eq.mpr c36
  have c36b1 : (a0_0 != 4) = false := bne_eq_false_iff_eq.mpr c36
  clear c36
  replace H := Option.bind_eq_some_iff.mp H
  obtain ⟨t21007, A370, H⟩ := H
  replace H : (some (!t21007)) = some r := H
  have A37 := Aside0.mk A370
  clear A370
  have tag1_ := Aside0.mk trivial
  rotate_left
  · rw [if_neg c36] at H
    have c36b0 : (a0_0 == 4) = false := beq_eq_false_iff_ne.mpr c36
    have c36b1 : (a0_0 != 4) = true := bne_iff_ne.mpr c36
    replace H := Option.bind_eq_some_iff.mp H
    obtain ⟨t21008, A460, H⟩ := H
    replace H : (some (decide (t21008 ≤ a0_7))) = some r := H
    have A46 := Aside0.mk A460
    clear A460
    obtain rfl := Option.some.inj H
    go_enter Try.func21, Try.ntmps21
    try go_wp2_with (first | ((with_reducible refine gate_dst (N := 2) rfl ?_); refine box_event ?hg (N := 2) ?hd (cs := #[.int .i64 a0_0, .string a0_1, .string a0_2, .int .i64 a0_3, .string a0_4, .slice A0_5 l0_5.length c0_5, .slice A0_6 l0_6.length c0_6, .int .i64 a0_7]) (t := 37) ?hr ?_; (case hd => rfl); (case hg => rfl); (case hr => first | (go_simp; done) | (go_simp; rfl)); intro gb21001 hg w47 hbox hb; have n0_ := Aside0.mk (below_step (by repeat (first | (with_reducible first | exact HB.out | apply below_alloc | apply pw_below_drewN | apply below_drew1 | refine below_set ?_ (Aside0.out (by assumption))) | exact HB.out)) hb); have n1_ := Aside0.mk (hbox); have n2_ := Aside0.mk ((by rw [hg]; exact (below_size (by repeat (first | (with_reducible first | exact HB.out | apply below_alloc | apply pw_below_drewN | apply below_drew1 | refine below_set ?_ (Aside0.out (by assumption))) | exact HB.out))) : w.heap.size ≤ gb21001)); have n3_ := Aside0.mk ((by rw [hg]; exact (below_size (by repeat (first | (with_reducible first | exact HB.out | apply below_alloc | apply pw_below_drewN | apply below_drew1 | refine below_set ?_ (Aside0.out (by assumption))) | exact HB.out))) : w.heap.size ≤ gb21001)); clear HB; have HB := n0_; have BK21001 := n1_; have GW21001 := n2_; have GE21001 := n3_; clear n0_ n1_ n2_ n3_; clear hb hbox hg) | ((with_reducible refine gate_dst (N := 3) rfl ?_); refine box_event ?hg (N := 3) ?hd (cs := #[.string a1_0, .string a1_1, .string a1_2]) (t := 39) ?hr ?_; (case hd => rfl); (case hg => rfl); (case hr => first | (go_simp; done) | (go_simp; rfl)); intro gb21002 hg w48 hbox hb; have n0_ := Aside0.mk (blk_below (g := gb21001) (o := .cells #[.int .i64 a0_0, .string a0_1, .string a0_2, .int .i64 a0_3, .string a0_4, .slice A0_5 l0_5.length c0_5, .slice A0_6 l0_6.length c0_6, .int .i64 a0_7] 37 (0, 0)) (by (with_reducible repeat (first | refine blk_drewN ?_ _ | refine blk_drew ?_ | refine blk_alloc ?_ _)); exact BK21001.out) hb); have n1_ := Aside0.mk (below_step (by repeat (first | (with_reducible first | exact HB.out | apply below_alloc | apply pw_below_drewN | apply below_drew1 | refine below_set ?_ (Aside0.out (by assumption))) | exact HB.out)) hb); have n2_ := Aside0.mk (hbox); have n3_ := Aside0.mk ((by rw [hg]; exact (below_size (by repeat (first | (with_reducible first | exact HB.out | apply below_alloc | apply pw_below_drewN | apply below_drew1 | refine below_set ?_ (Aside0.out (by assumption))) | exact HB.out))) : w.heap.size ≤ gb21002)); have n4_ := Aside0.mk ((by rw [hg]; exact (below_size (by repeat (first | (with_reducible first | exact HB.out | apply below_alloc | apply pw_below_drewN | apply below_drew1 | refine below_set ?_ (Aside0.out (by assumption))) | exact HB.out))) : w.heap.size ≤ gb21002)); have n5_ := Aside0.mk ((by rw [hg]; exact Nat.ne_of_lt (blk_lt (g := gb21001) (o := .cells #[.int .i64 a0_0, .string a0_1, .string a0_2, .int .i64 a0_3, .string a0_4, .slice A0_5 l0_5.length c0_5, .slice A0_6 l0_6.length c0_6, .int .i64 a0_7] 37 (0, 0)) (by (with_reducible repeat (first | refine blk_drewN ?_ _ | refine blk_drew ?_ | refine blk_alloc ?_ _)); exact BK21001.out)) : gb21001 ≠ gb21002)); have n6_ := Aside0.mk ((by rw [hg]; exact Nat.ne_of_gt (blk_lt (g := gb21001) (o := .cells #[.int .i64 a0_0, .string a0_1, .string a0_2, .int .i64 a0_3, .string a0_4, .slice A0_5 l0_5.length c0_5, .slice A0_6 l0_6.length c0_6, .int .i64 a0_7] 37 (0, 0)) (by (with_reducible repeat (first | refine blk_drewN ?_ _ | refine blk_drew ?_ | refine blk_alloc ?_ _)); exact BK21001.out)) : gb21002 ≠ gb21001)); clear BK21001; clear HB; have BK21001 := n0_; have HB := n1_; have BK21002 := n2_; have GW21002 := n3_; have GE21002 := n4_; have NB21001_21002 := n5_; have NB21002_21001 := n6_; clear n0_ n1_ n2_ n3_ n4_ n5_ n6_; clear hb hbox hg; have hnb49 := NB21001_21002.out; have hnc49 := NB21002_21001.out; obtain ⟨hcz50_0, hcz50_1, hcz50_2, hcz50_3, hcz50_4, hcz50_5, hcz50_6, hcz50_7, hfz50_0, hfz50_1, hfz50_2, hfz50_3, hfz50_4, hfz50_5, hfz50_6, hfz50_7⟩ := blk8 BK21001.out; obtain ⟨hcz51_0, hcz51_1, hcz51_2, hfz51_0, hfz51_1, hfz51_2⟩ := blk3 BK21002.out) | ((with_reducible refine gate_callee (f := 48) rfl ?_); refine goesL_ (some 9) rfl rfl Try.func48 (by kernel_rfl) rfl #[.string a0_1, .agg #[.string a1_0, .string a1_1, .string a1_2]] rfl (by (try simp only [List.map_toArray, List.map_cons, List.map_nil]); first | done | rfl | (simp only [List.length_drop, List.length_take]; rfl)) ?_; (with_reducible refine (spec_ApplyValues.calls k a0_1 a1_0 a1_1 a1_2 t21003 _ A3.out).mono ?_); rintro e w52 ⟨rfl, hb⟩; refine ⟨_, rfl, ?_⟩; have n0_ := Aside0.mk (blk_below (g := gb21001) (o := .cells #[.int .i64 a0_0, .string a0_1, .string a0_2, .int .i64 a0_3, .string a0_4, .slice A0_5 l0_5.length c0_5, .slice A0_6 l0_6.length c0_6, .int .i64 a0_7] 37 (0, 0)) (by (with_reducible repeat (first | refine blk_drewN ?_ _ | refine blk_drew ?_ | refine blk_alloc ?_ _)); exact BK21001.out) hb); have n1_ := Aside0.mk (blk_below (g := gb21002) (o := .cells #[.string a1_0, .string a1_1, .string a1_2] 39 (0, 0)) (by (with_reducible repeat (first | refine blk_drewN ?_ _ | refine blk_drew ?_ | refine blk_alloc ?_ _)); exact BK21002.out) hb); have n2_ := Aside0.mk (below_step (by repeat (first | (with_reducible first | exact HB.out | apply below_alloc | apply pw_below_drewN | apply below_drew1 | refine below_set ?_ (Aside0.out (by assumption))) | exact HB.out)) hb); clear BK21001; clear BK21002; clear HB; have BK21001 := n0_; have BK21002 := n1_; have HB := n2_; clear n0_ n1_ n2_; (try clear hb); (try clear hb2); (try clear hk); (try clear hi); obtain ⟨hcz53_0, hcz53_1, hcz53_2, hcz53_3, hcz53_4, hcz53_5, hcz53_6, hcz53_7, hfz53_0, hfz53_1, hfz53_2, hfz53_3, hfz53_4, hfz53_5, hfz53_6, hfz53_7⟩ := blk8 BK21001.out))
    have n0_ := Aside0.mk (blk_drew BK21001.out)
    have n1_ := Aside0.mk (blk_drew BK21002.out)
    have n2_ := Aside0.mk (below_drew1 HB.out)
    clear BK21001
    clear BK21002
    clear HB
    have BK21001 := n0_
    have BK21002 := n1_
    have HB := n2_
    clear n0_ n1_ n2_
    refine start_ (n := 8) (S := fun w' => w'.cell? ⟨gb21001, 0, none⟩ = some (.int .i64 a0_0) ∧ w'.cell? ⟨gb21001, 1, none⟩ = some (.string a0_1) ∧ w'.cell? ⟨gb21001, 2, none⟩ = some (.string a0_2) ∧ w'.cell? ⟨gb21001, 3, none⟩ = some (.int .i64 a0_3) ∧ w'.cell? ⟨gb21001, 4, none⟩ = some (.string a0_4) ∧ w'.cell? ⟨gb21001, 5, none⟩ = some (.slice A0_5 l0_5.length c0_5) ∧ w'.cell? ⟨gb21001, 6, none⟩ = some (.slice A0_6 l0_6.length c0_6) ∧ w'.cell? ⟨gb21001, 7, none⟩ = some (.int .i64 a0_7) ∧ w'.cell? ⟨gb21002, 0, none⟩ = some (.string a1_0) ∧ w'.cell? ⟨gb21002, 1, none⟩ = some (.string a1_1) ∧ w'.cell? ⟨gb21002, 2, none⟩ = some (.string a1_2)) (ds := []) #[false, false, false, false, false, false, false, false] (by kernel_rfl) rfl rfl ⟨(blk_cell BK21001.out 0).trans rfl, (blk_cell BK21001.out 1).trans rfl, (blk_cell BK21001.out 2).trans rfl, (blk_cell BK21001.out 3).trans rfl, (blk_cell BK21001.out 4).trans rfl, (blk_cell BK21001.out 5).trans rfl, (blk_cell BK21001.out 6).trans rfl, (blk_cell BK21001.out 7).trans rfl, (blk_cell BK21002.out 0).trans rfl, (blk_cell BK21002.out 1).trans rfl, (blk_cell BK21002.out 2).trans rfl⟩ (fun hHeld => ?_); refine with_tabW spec_l9Holds.tab11 spec_l9Holds.bits11 (fun HT_ HW_ => ?_)
    generalize w52.drew = w54 at BK21001 BK21002 HB hHeld ⊢
    refine pure_ (i := 0) (N := some 41) (v := ?_) (a' := ?_) #[true, false, false, false, false, false, false, false] rfl rfl (any_of HT_.out (by kernel_rfl)) (fun _ _ _ h => h) (Or.inl ⟨by rfl, ?_⟩) ?_ ?_
    rotate_left
    · intro w'
      go_simp
      first | with_reducible rfl | (rw [if_neg (by omega)]; done)
    rotate_left
    · simp only [Act.put, List.setIfInBounds_toArray, List.set_cons_zero, List.set_cons_succ, i64_w, i32_w]
      rfl
    refine pure_ (i := 4) (N := some 45) (v := ?_) (a' := ?_) #[true, false, false, false, true, false, false, false] rfl rfl (any_of HT_.out (by kernel_rfl)) (fun _ _ _ h => h) (Or.inl ⟨by rfl, ?_⟩) ?_ ?_
    rotate_left
    · intro w'
      go_simp
      first | with_reducible rfl | (rw [if_neg (by omega)]; done)
    rotate_left
    · simp only [Act.put, List.setIfInBounds_toArray, List.set_cons_zero, List.set_cons_succ, i64_w, i32_w]
      rfl
    refine take_ (i := 1) (N := some 42) (v := ?_) (a' := ?_) #[true, true, false, false, true, false, false, false] rfl rfl (take_ofW HT_.out HW_.out (by kernel_rfl)) (fun _ _ _ h => h) (Or.inl ⟨by rfl, ?_⟩) hHeld ?_ ?_
    rotate_left
    · rintro w' ⟨s0, s1, s2, s3, s4, s5, s6, s7, s8, s9, s10⟩
      go_simp
      first | with_reducible rfl | (rw [if_neg (by omega)]; done)
    rotate_left
    · simp only [Act.put, List.setIfInBounds_toArray, List.set_cons_zero, List.set_cons_succ, i64_w, i32_w]
      rfl
    refine take_ (i := 2) (N := some 43) (v := ?_) (a' := ?_) #[true, true, true, false, true, false, false, false] rfl rfl (take_ofW HT_.out HW_.out (by kernel_rfl)) (fun _ _ _ h => h) (Or.inl ⟨by rfl, ?_⟩) hHeld ?_ ?_
    rotate_left
    · rintro w' ⟨s0, s1, s2, s3, s4, s5, s6, s7, s8, s9, s10⟩
      go_simp
      first | with_reducible rfl | (rw [if_neg (by omega)]; done)
    rotate_left
    · simp only [Act.put, List.setIfInBounds_toArray, List.set_cons_zero, List.set_cons_succ, i64_w, i32_w]
      rfl
    refine take_ (i := 5) (N := some 46) (v := ?_) (a' := ?_) #[true, true, true, false, true, true, false, false] rfl rfl (take_ofW HT_.out HW_.out (by kernel_rfl)) (fun _ _ _ h => h) (Or.inl ⟨by rfl, ?_⟩) hHeld ?_ ?_
    rotate_left
    · rintro w' ⟨s0, s1, s2, s3, s4, s5, s6, s7, s8, s9, s10⟩
      go_simp
      first | with_reducible rfl | (rw [if_neg (by omega)]; done)
    rotate_left
    · simp only [Act.put, List.setIfInBounds_toArray, List.set_cons_zero, List.set_cons_succ, i64_w, i32_w]
      rfl
    refine one_ (i := 3) (N := some 44) #[true, true, true, true, true, true, false, false] rfl rfl (one_of HT_.out (by kernel_rfl)) (by decide) (fun K hK => ?_)
    refine goes_ Try.func50 (by kernel_rfl) rfl #[.slice A0_6 l0_6.length c0_6, .agg #[.string a1_0, .string a1_1, .string a1_2]] (by rfl) rfl rfl (by (try simp only [List.map_toArray, List.map_cons, List.map_nil]); first | done | rfl | (simp only [List.length_drop, List.length_take]; rfl)) ?_
    with_reducible refine (spec_l9Sum.calls _ _ l0_6 a1_0 a1_1 a1_2 t21008 _ ?side1 ?side2 A46.out).mono ?_
    (case side1 => repeat (first | exact (Kd.C_below HR0_6.out HB.out) | (with_reducible refine Kd.C_alloc ?_ _) | (with_reducible refine Kd.C_drewN ?_ _) | (with_reducible refine Kd.C_drew ?_)))
    (case side2 => exact HC0_6.out)
    rintro e w55 ⟨rfl, hb⟩
    refine ⟨_, rfl, ?_⟩
    have n0_ := Aside0.mk (blk_below (g := gb21001) (o := .cells #[.int .i64 a0_0, .string a0_1, .string a0_2, .int .i64 a0_3, .string a0_4, .slice A0_5 l0_5.length c0_5, .slice A0_6 l0_6.length c0_6, .int .i64 a0_7] 37 (0, 0)) (by (with_reducible repeat (first | refine blk_drewN ?_ _ | refine blk_drew ?_ | refine blk_alloc ?_ _)); exact BK21001.out) hb)
    have n1_ := Aside0.mk (blk_below (g := gb21002) (o := .cells #[.string a1_0, .string a1_1, .string a1_2] 39 (0, 0)) (by (with_reducible repeat (first | refine blk_drewN ?_ _ | refine blk_drew ?_ | refine blk_alloc ?_ _)); exact BK21002.out) hb)
    have n2_ := Aside0.mk (below_step (by repeat (first | (with_reducible first | exact HB.out | apply below_alloc | apply pw_below_drewN | apply below_drew1 | refine below_set ?_ (Aside0.out (by assumption))) | exact HB.out)) hb)
    clear BK21001
    clear BK21002
    clear HB
    have BK21001 := n0_
    have BK21002 := n1_
    have HB := n2_
    clear n0_ n1_ n2_
    (try clear hb)
    (try clear hb2)
    (try clear hk)
    (try clear hi)
    refine hK.out _ _ ⟨(blk_cell BK21001.out 0).trans rfl, (blk_cell BK21001.out 1).trans rfl, (blk_cell BK21001.out 2).trans rfl, (blk_cell BK21001.out 3).trans rfl, (blk_cell BK21001.out 4).trans rfl, (blk_cell BK21001.out 5).trans rfl, (blk_cell BK21001.out 6).trans rfl, (blk_cell BK21001.out 7).trans rfl, (blk_cell BK21002.out 0).trans rfl, (blk_cell BK21002.out 1).trans rfl, (blk_cell BK21002.out 2).trans rfl⟩ (fun hHeld => ?_)
    clear hK K
    refine norm_ (a' := ?_) ?_ ?_
    rotate_left
    · show Act.put _ (some 44) _ = _
      simp only [Act.put, List.setIfInBounds_toArray, List.set_cons_zero, List.set_cons_succ, i64_w, i32_w]
      rfl
    refine pure_ (i := 6) (N := some 47) (v := ?_) (a' := ?_) #[true, true, true, true, true, true, true, false] rfl rfl (any_of HT_.out (by kernel_rfl)) (fun _ _ _ h => h) (Or.inl ⟨by rfl, ?_⟩) ?_ ?_
    rotate_left
    · intro w'
      go_simp
      first | with_reducible rfl | (rw [if_neg (by omega)]; done)
    rotate_left
    · simp only [Act.put, List.setIfInBounds_toArray, List.set_cons_zero, List.set_cons_succ, i64_w, i32_w]
      rfl
    refine pure_ (i := 7) (N := some 4) (v := ?_) (a' := ?_) #[true, true, true, true, true, true, true, true] rfl rfl (any_of HT_.out (by kernel_rfl)) (fun _ _ _ h => h) (Or.inl ⟨by rfl, ?_⟩) ?_ ?_
    rotate_left
    · intro w'
      go_simp
      first | with_reducible rfl | (rw [if_neg (by omega)]; done)
    rotate_left
    · simp only [Act.put, List.setIfInBounds_toArray, List.set_cons_zero, List.set_cons_succ, i64_w, i32_w]
      rfl
    refine done_ (done_of HT_.out (by kernel_rfl)) ?_
    try go_wp2
    go_ret
    exact ⟨by first | rfl | (simp [errW_none, errW_some] <;> rfl) | (simp [*, errW_none, errW_some] <;> rfl), by repeat (first | (with_reducible first | exact HB.out | apply below_alloc | apply pw_below_drewN | apply below_drew1 | refine below_set ?_ (Aside0.out (by assumption))) | exact HB.out)⟩
  all_goals first
   | (clear tag0_
      obtain rfl := Option.some.inj H
      go_enter Try.func21, Try.ntmps21
      go_wp2_with (first | ((with_reducible refine gate_dst (N := 2) rfl ?_); refine box_event ?hg (N := 2) ?hd (cs := #[.int .i64 a0_0, .string a0_1, .string a0_2, .int .i64 a0_3, .string a0_4, .slice A0_5 l0_5.length c0_5, .slice A0_6 l0_6.length c0_6, .int .i64 a0_7]) (t := 37) ?hr ?_; (case hd => rfl); (case hg => rfl); (case hr => first | (go_simp; done) | (go_simp; rfl)); intro gb21001 hg w28 hbox hb; have n0_ := Aside0.mk (below_step (by repeat (first | (with_reducible first | exact HB.out | apply below_alloc | apply pw_below_drewN | apply below_drew1 | refine below_set ?_ (Aside0.out (by assumption))) | exact HB.out)) hb); have n1_ := Aside0.mk (hbox); have n2_ := Aside0.mk ((by rw [hg]; exact (below_size (by repeat (first | (with_reducible first | exact HB.out | apply below_alloc | apply pw_below_drewN | apply below_drew1 | refine below_set ?_ (Aside0.out (by assumption))) | exact HB.out))) : w.heap.size ≤ gb21001)); have n3_ := Aside0.mk ((by rw [hg]; exact (below_size (by repeat (first | (with_reducible first | exact HB.out | apply below_alloc | apply pw_below_drewN | apply below_drew1 | refine below_set ?_ (Aside0.out (by assumption))) | exact HB.out))) : w.heap.size ≤ gb21001)); clear HB; have HB := n0_; have BK21001 := n1_; have GW21001 := n2_; have GE21001 := n3_; clear n0_ n1_ n2_ n3_; clear hb hbox hg) | ((with_reducible refine gate_dst (N := 3) rfl ?_); refine box_event ?hg (N := 3) ?hd (cs := #[.string a1_0, .string a1_1, .string a1_2]) (t := 39) ?hr ?_; (case hd => rfl); (case hg => rfl); (case hr => first | (go_simp; done) | (go_simp; rfl)); intro gb21002 hg w29 hbox hb; have n0_ := Aside0.mk (blk_below (g := gb21001) (o := .cells #[.int .i64 a0_0, .string a0_1, .string a0_2, .int .i64 a0_3, .string a0_4, .slice A0_5 l0_5.length c0_5, .slice A0_6 l0_6.length c0_6, .int .i64 a0_7] 37 (0, 0)) (by (with_reducible repeat (first | refine blk_drewN ?_ _ | refine blk_drew ?_ | refine blk_alloc ?_ _)); exact BK21001.out) hb); have n1_ := Aside0.mk (below_step (by repeat (first | (with_reducible first | exact HB.out | apply below_alloc | apply pw_below_drewN | apply below_drew1 | refine below_set ?_ (Aside0.out (by assumption))) | exact HB.out)) hb); have n2_ := Aside0.mk (hbox); have n3_ := Aside0.mk ((by rw [hg]; exact (below_size (by repeat (first | (with_reducible first | exact HB.out | apply below_alloc | apply pw_below_drewN | apply below_drew1 | refine below_set ?_ (Aside0.out (by assumption))) | exact HB.out))) : w.heap.size ≤ gb21002)); have n4_ := Aside0.mk ((by rw [hg]; exact (below_size (by repeat (first | (with_reducible first | exact HB.out | apply below_alloc | apply pw_below_drewN | apply below_drew1 | refine below_set ?_ (Aside0.out (by assumption))) | exact HB.out))) : w.heap.size ≤ gb21002)); have n5_ := Aside0.mk ((by rw [hg]; exact Nat.ne_of_lt (blk_lt (g := gb21001) (o := .cells #[.int .i64 a0_0, .string a0_1, .string a0_2, .int .i64 a0_3, .string a0_4, .slice A0_5 l0_5.length c0_5, .slice A0_6 l0_6.length c0_6, .int .i64 a0_7] 37 (0, 0)) (by (with_reducible repeat (first | refine blk_drewN ?_ _ | refine blk_drew ?_ | refine blk_alloc ?_ _)); exact BK21001.out)) : gb21001 ≠ gb21002)); have n6_ := Aside0.mk ((by rw [hg]; exact Nat.ne_of_gt (blk_lt (g := gb21001) (o := .cells #[.int .i64 a0_0, .string a0_1, .string a0_2, .int .i64 a0_3, .string a0_4, .slice A0_5 l0_5.length c0_5, .slice A0_6 l0_6.length c0_6, .int .i64 a0_7] 37 (0, 0)) (by (with_reducible repeat (first | refine blk_drewN ?_ _ | refine blk_drew ?_ | refine blk_alloc ?_ _)); exact BK21001.out)) : gb21002 ≠ gb21001)); clear BK21001; clear HB; have BK21001 := n0_; have HB := n1_; have BK21002 := n2_; have GW21002 := n3_; have GE21002 := n4_; have NB21001_21002 := n5_; have NB21002_21001 := n6_; clear n0_ n1_ n2_ n3_ n4_ n5_ n6_; clear hb hbox hg; have hnb30 := NB21001_21002.out; have hnc30 := NB21002_21001.out; obtain ⟨hcz31_0, hcz31_1, hcz31_2, hcz31_3, hcz31_4, hcz31_5, hcz31_6, hcz31_7, hfz31_0, hfz31_1, hfz31_2, hfz31_3, hfz31_4, hfz31_5, hfz31_6, hfz31_7⟩ := blk8 BK21001.out; obtain ⟨hcz32_0, hcz32_1, hcz32_2, hfz32_0, hfz32_1, hfz32_2⟩ := blk3 BK21002.out) | ((with_reducible refine gate_callee (f := 48) rfl ?_); refine goesL_ (some 9) rfl rfl Try.func48 (by kernel_rfl) rfl #[.string a0_1, .agg #[.string a1_0, .string a1_1, .string a1_2]] rfl (by (try simp only [List.map_toArray, List.map_cons, List.map_nil]); first | done | rfl | (simp only [List.length_drop, List.length_take]; rfl)) ?_; (with_reducible refine (spec_ApplyValues.calls k a0_1 a1_0 a1_1 a1_2 t21003 _ A3.out).mono ?_); rintro e w22 ⟨rfl, hb⟩; refine ⟨_, rfl, ?_⟩; have n0_ := Aside0.mk (blk_below (g := gb21001) (o := .cells #[.int .i64 a0_0, .string a0_1, .string a0_2, .int .i64 a0_3, .string a0_4, .slice A0_5 l0_5.length c0_5, .slice A0_6 l0_6.length c0_6, .int .i64 a0_7] 37 (0, 0)) (by (with_reducible repeat (first | refine blk_drewN ?_ _ | refine blk_drew ?_ | refine blk_alloc ?_ _)); exact BK21001.out) hb); have n1_ := Aside0.mk (blk_below (g := gb21002) (o := .cells #[.string a1_0, .string a1_1, .string a1_2] 39 (0, 0)) (by (with_reducible repeat (first | refine blk_drewN ?_ _ | refine blk_drew ?_ | refine blk_alloc ?_ _)); exact BK21002.out) hb); have n2_ := Aside0.mk (below_step (by repeat (first | (with_reducible first | exact HB.out | apply below_alloc | apply pw_below_drewN | apply below_drew1 | refine below_set ?_ (Aside0.out (by assumption))) | exact HB.out)) hb); clear BK21001; clear BK21002; clear HB; have BK21001 := n0_; have BK21002 := n1_; have HB := n2_; clear n0_ n1_ n2_; (try clear hb); (try clear hb2); (try clear hk); (try clear hi); obtain ⟨hcz23_0, hcz23_1, hcz23_2, hcz23_3, hcz23_4, hcz23_5, hcz23_6, hcz23_7, hfz23_0, hfz23_1, hfz23_2, hfz23_3, hfz23_4, hfz23_5, hfz23_6, hfz23_7⟩ := blk8 BK21001.out; obtain ⟨hcz24_0, hcz24_1, hcz24_2, hfz24_0, hfz24_1, hfz24_2⟩ := blk3 BK21002.out) | ((with_reducible refine gate_callee (f := 49) rfl ?_); refine goesL_ (some 33) rfl rfl Try.func49 (by kernel_rfl) rfl #[.agg #[.int .i64 a0_3, .string a0_4, .slice A0_5 l0_5.length c0_5], .string t21003] rfl (by (try simp only [List.map_toArray, List.map_cons, List.map_nil]); first | done | rfl | (simp only [List.length_drop, List.length_take]; rfl)) ?_; (with_reducible refine (spec_l4Match.calls a0_3 a0_4 _ _ l0_5 t21003 t21006 _ ?side1 ?side2 A27.out).mono ?_); (case side1 => repeat (first | exact (Kd.C_below HR0_5.out HB.out) | (with_reducible refine Kd.C_alloc ?_ _) | (with_reducible refine Kd.C_drewN ?_ _) | (with_reducible refine Kd.C_drew ?_))); (case side2 => exact HC0_5.out); rintro e w35 ⟨rfl, hb⟩; refine ⟨_, rfl, ?_⟩; have n0_ := Aside0.mk (blk_below (g := gb21001) (o := .cells #[.int .i64 a0_0, .string a0_1, .string a0_2, .int .i64 a0_3, .string a0_4, .slice A0_5 l0_5.length c0_5, .slice A0_6 l0_6.length c0_6, .int .i64 a0_7] 37 (0, 0)) (by (with_reducible repeat (first | refine blk_drewN ?_ _ | refine blk_drew ?_ | refine blk_alloc ?_ _)); exact BK21001.out) hb); have n1_ := Aside0.mk (blk_below (g := gb21002) (o := .cells #[.string a1_0, .string a1_1, .string a1_2] 39 (0, 0)) (by (with_reducible repeat (first | refine blk_drewN ?_ _ | refine blk_drew ?_ | refine blk_alloc ?_ _)); exact BK21002.out) hb); have n2_ := Aside0.mk (below_step (by repeat (first | (with_reducible first | exact HB.out | apply below_alloc | apply pw_below_drewN | apply below_drew1 | refine below_set ?_ (Aside0.out (by assumption))) | exact HB.out)) hb); clear BK21001; clear BK21002; clear HB; have BK21001 := n0_; have BK21002 := n1_; have HB := n2_; clear n0_ n1_ n2_; (try clear hb); (try clear hb2); (try clear hk); (try clear hi)) | ((with_reducible refine gate_callee (f := 48) rfl ?_); refine goesL_ (some 26) rfl rfl Try.func48 (by kernel_rfl) rfl #[.string a0_2, .agg #[.string a1_0, .string a1_1, .string a1_2]] rfl (by (try simp only [List.map_toArray, List.map_cons, List.map_nil]); first | done | rfl | (simp only [List.length_drop, List.length_take]; rfl)) ?_; (with_reducible refine (spec_ApplyValues.calls k a0_2 a1_0 a1_1 a1_2 t21005 _ A16.out).mono ?_); rintro e w25 ⟨rfl, hb⟩; refine ⟨_, rfl, ?_⟩; have n0_ := Aside0.mk (blk_below (g := gb21001) (o := .cells #[.int .i64 a0_0, .string a0_1, .string a0_2, .int .i64 a0_3, .string a0_4, .slice A0_5 l0_5.length c0_5, .slice A0_6 l0_6.length c0_6, .int .i64 a0_7] 37 (0, 0)) (by (with_reducible repeat (first | refine blk_drewN ?_ _ | refine blk_drew ?_ | refine blk_alloc ?_ _)); exact BK21001.out) hb); have n1_ := Aside0.mk (blk_below (g := gb21002) (o := .cells #[.string a1_0, .string a1_1, .string a1_2] 39 (0, 0)) (by (with_reducible repeat (first | refine blk_drewN ?_ _ | refine blk_drew ?_ | refine blk_alloc ?_ _)); exact BK21002.out) hb); have n2_ := Aside0.mk (below_step (by repeat (first | (with_reducible first | exact HB.out | apply below_alloc | apply pw_below_drewN | apply below_drew1 | refine below_set ?_ (Aside0.out (by assumption))) | exact HB.out)) hb); clear BK21001; clear BK21002; clear HB; have BK21001 := n0_; have BK21002 := n1_; have HB := n2_; clear n0_ n1_ n2_; (try clear hb); (try clear hb2); (try clear hk); (try clear hi)))
      go_ret
      exact ⟨by first | rfl | (simp [errW_none, errW_some] <;> rfl) | (simp [*, errW_none, errW_some] <;> rfl), by repeat (first | (with_reducible first | exact HB.out | apply below_alloc | apply pw_below_drewN | apply below_drew1 | refine below_set ?_ (Aside0.out (by assumption))) | exact HB.out)⟩)
   | (clear tag1_
      obtain rfl := Option.some.inj H
      go_enter Try.func21, Try.ntmps21
      go_wp2_with (first | ((with_reducible refine gate_dst (N := 2) rfl ?_); refine box_event ?hg (N := 2) ?hd (cs := #[.int .i64 a0_0, .string a0_1, .string a0_2, .int .i64 a0_3, .string a0_4, .slice A0_5 l0_5.length c0_5, .slice A0_6 l0_6.length c0_6, .int .i64 a0_7]) (t := 37) ?hr ?_; (case hd => rfl); (case hg => rfl); (case hr => first | (go_simp; done) | (go_simp; rfl)); intro gb21001 hg w38 hbox hb; have n0_ := Aside0.mk (below_step (by repeat (first | (with_reducible first | exact HB.out | apply below_alloc | apply pw_below_drewN | apply below_drew1 | refine below_set ?_ (Aside0.out (by assumption))) | exact HB.out)) hb); have n1_ := Aside0.mk (hbox); have n2_ := Aside0.mk ((by rw [hg]; exact (below_size (by repeat (first | (with_reducible first | exact HB.out | apply below_alloc | apply pw_below_drewN | apply below_drew1 | refine below_set ?_ (Aside0.out (by assumption))) | exact HB.out))) : w.heap.size ≤ gb21001)); have n3_ := Aside0.mk ((by rw [hg]; exact (below_size (by repeat (first | (with_reducible first | exact HB.out | apply below_alloc | apply pw_below_drewN | apply below_drew1 | refine below_set ?_ (Aside0.out (by assumption))) | exact HB.out))) : w.heap.size ≤ gb21001)); clear HB; have HB := n0_; have BK21001 := n1_; have GW21001 := n2_; have GE21001 := n3_; clear n0_ n1_ n2_ n3_; clear hb hbox hg) | ((with_reducible refine gate_dst (N := 3) rfl ?_); refine box_event ?hg (N := 3) ?hd (cs := #[.string a1_0, .string a1_1, .string a1_2]) (t := 39) ?hr ?_; (case hd => rfl); (case hg => rfl); (case hr => first | (go_simp; done) | (go_simp; rfl)); intro gb21002 hg w39 hbox hb; have n0_ := Aside0.mk (blk_below (g := gb21001) (o := .cells #[.int .i64 a0_0, .string a0_1, .string a0_2, .int .i64 a0_3, .string a0_4, .slice A0_5 l0_5.length c0_5, .slice A0_6 l0_6.length c0_6, .int .i64 a0_7] 37 (0, 0)) (by (with_reducible repeat (first | refine blk_drewN ?_ _ | refine blk_drew ?_ | refine blk_alloc ?_ _)); exact BK21001.out) hb); have n1_ := Aside0.mk (below_step (by repeat (first | (with_reducible first | exact HB.out | apply below_alloc | apply pw_below_drewN | apply below_drew1 | refine below_set ?_ (Aside0.out (by assumption))) | exact HB.out)) hb); have n2_ := Aside0.mk (hbox); have n3_ := Aside0.mk ((by rw [hg]; exact (below_size (by repeat (first | (with_reducible first | exact HB.out | apply below_alloc | apply pw_below_drewN | apply below_drew1 | refine below_set ?_ (Aside0.out (by assumption))) | exact HB.out))) : w.heap.size ≤ gb21002)); have n4_ := Aside0.mk ((by rw [hg]; exact (below_size (by repeat (first | (with_reducible first | exact HB.out | apply below_alloc | apply pw_below_drewN | apply below_drew1 | refine below_set ?_ (Aside0.out (by assumption))) | exact HB.out))) : w.heap.size ≤ gb21002)); have n5_ := Aside0.mk ((by rw [hg]; exact Nat.ne_of_lt (blk_lt (g := gb21001) (o := .cells #[.int .i64 a0_0, .string a0_1, .string a0_2, .int .i64 a0_3, .string a0_4, .slice A0_5 l0_5.length c0_5, .slice A0_6 l0_6.length c0_6, .int .i64 a0_7] 37 (0, 0)) (by (with_reducible repeat (first | refine blk_drewN ?_ _ | refine blk_drew ?_ | refine blk_alloc ?_ _)); exact BK21001.out)) : gb21001 ≠ gb21002)); have n6_ := Aside0.mk ((by rw [hg]; exact Nat.ne_of_gt (blk_lt (g := gb21001) (o := .cells #[.int .i64 a0_0, .string a0_1, .string a0_2, .int .i64 a0_3, .string a0_4, .slice A0_5 l0_5.length c0_5, .slice A0_6 l0_6.length c0_6, .int .i64 a0_7] 37 (0, 0)) (by (with_reducible repeat (first | refine blk_drewN ?_ _ | refine blk_drew ?_ | refine blk_alloc ?_ _)); exact BK21001.out)) : gb21002 ≠ gb21001)); clear BK21001; clear HB; have BK21001 := n0_; have HB := n1_; have BK21002 := n2_; have GW21002 := n3_; have GE21002 := n4_; have NB21001_21002 := n5_; have NB21002_21001 := n6_; clear n0_ n1_ n2_ n3_ n4_ n5_ n6_; clear hb hbox hg; have hnb40 := NB21001_21002.out; have hnc40 := NB21002_21001.out; obtain ⟨hcz41_0, hcz41_1, hcz41_2, hcz41_3, hcz41_4, hcz41_5, hcz41_6, hcz41_7, hfz41_0, hfz41_1, hfz41_2, hfz41_3, hfz41_4, hfz41_5, hfz41_6, hfz41_7⟩ := blk8 BK21001.out; obtain ⟨hcz42_0, hcz42_1, hcz42_2, hfz42_0, hfz42_1, hfz42_2⟩ := blk3 BK21002.out) | ((with_reducible refine gate_callee (f := 48) rfl ?_); refine goesL_ (some 9) rfl rfl Try.func48 (by kernel_rfl) rfl #[.string a0_1, .agg #[.string a1_0, .string a1_1, .string a1_2]] rfl (by (try simp only [List.map_toArray, List.map_cons, List.map_nil]); first | done | rfl | (simp only [List.length_drop, List.length_take]; rfl)) ?_; (with_reducible refine (spec_ApplyValues.calls k a0_1 a1_0 a1_1 a1_2 t21003 _ A3.out).mono ?_); rintro e w11 ⟨rfl, hb⟩; refine ⟨_, rfl, ?_⟩; have n0_ := Aside0.mk (blk_below (g := gb21001) (o := .cells #[.int .i64 a0_0, .string a0_1, .string a0_2, .int .i64 a0_3, .string a0_4, .slice A0_5 l0_5.length c0_5, .slice A0_6 l0_6.length c0_6, .int .i64 a0_7] 37 (0, 0)) (by (with_reducible repeat (first | refine blk_drewN ?_ _ | refine blk_drew ?_ | refine blk_alloc ?_ _)); exact BK21001.out) hb); have n1_ := Aside0.mk (blk_below (g := gb21002) (o := .cells #[.string a1_0, .string a1_1, .string a1_2] 39 (0, 0)) (by (with_reducible repeat (first | refine blk_drewN ?_ _ | refine blk_drew ?_ | refine blk_alloc ?_ _)); exact BK21002.out) hb); have n2_ := Aside0.mk (below_step (by repeat (first | (with_reducible first | exact HB.out | apply below_alloc | apply pw_below_drewN | apply below_drew1 | refine below_set ?_ (Aside0.out (by assumption))) | exact HB.out)) hb); clear BK21001; clear BK21002; clear HB; have BK21001 := n0_; have BK21002 := n1_; have HB := n2_; clear n0_ n1_ n2_; (try clear hb); (try clear hb2); (try clear hk); (try clear hi); obtain ⟨hcz12_0, hcz12_1, hcz12_2, hcz12_3, hcz12_4, hcz12_5, hcz12_6, hcz12_7, hfz12_0, hfz12_1, hfz12_2, hfz12_3, hfz12_4, hfz12_5, hfz12_6, hfz12_7⟩ := blk8 BK21001.out; obtain ⟨hcz13_0, hcz13_1, hcz13_2, hfz13_0, hfz13_1, hfz13_2⟩ := blk3 BK21002.out) | ((with_reducible refine gate_callee (f := 49) rfl ?_); refine goesL_ (some 39) rfl rfl Try.func49 (by kernel_rfl) rfl #[.agg #[.int .i64 a0_3, .string a0_4, .slice A0_5 l0_5.length c0_5], .string t21003] rfl (by (try simp only [List.map_toArray, List.map_cons, List.map_nil]); first | done | rfl | (simp only [List.length_drop, List.length_take]; rfl)) ?_; (with_reducible refine (spec_l4Match.calls a0_3 a0_4 _ _ l0_5 t21003 t21007 _ ?side1 ?side2 A37.out).mono ?_); (case side1 => repeat (first | exact (Kd.C_below HR0_5.out HB.out) | (with_reducible refine Kd.C_alloc ?_ _) | (with_reducible refine Kd.C_drewN ?_ _) | (with_reducible refine Kd.C_drew ?_))); (case side2 => exact HC0_5.out); rintro e w45 ⟨rfl, hb⟩; refine ⟨_, rfl, ?_⟩; have n0_ := Aside0.mk (blk_below (g := gb21001) (o := .cells #[.int .i64 a0_0, .string a0_1, .string a0_2, .int .i64 a0_3, .string a0_4, .slice A0_5 l0_5.length c0_5, .slice A0_6 l0_6.length c0_6, .int .i64 a0_7] 37 (0, 0)) (by (with_reducible repeat (first | refine blk_drewN ?_ _ | refine blk_drew ?_ | refine blk_alloc ?_ _)); exact BK21001.out) hb); have n1_ := Aside0.mk (blk_below (g := gb21002) (o := .cells #[.string a1_0, .string a1_1, .string a1_2] 39 (0, 0)) (by (with_reducible repeat (first | refine blk_drewN ?_ _ | refine blk_drew ?_ | refine blk_alloc ?_ _)); exact BK21002.out) hb); have n2_ := Aside0.mk (below_step (by repeat (first | (with_reducible first | exact HB.out | apply below_alloc | apply pw_below_drewN | apply below_drew1 | refine below_set ?_ (Aside0.out (by assumption))) | exact HB.out)) hb); clear BK21001; clear BK21002; clear HB; have BK21001 := n0_; have BK21002 := n1_; have HB := n2_; clear n0_ n1_ n2_; (try clear hb); (try clear hb2); (try clear hk); (try clear hi)) | ((with_reducible refine gate_callee (f := 48) rfl ?_); refine goesL_ (some 18) rfl rfl Try.func48 (by kernel_rfl) rfl #[.string a0_2, .agg #[.string a1_0, .string a1_1, .string a1_2]] rfl (by (try simp only [List.map_toArray, List.map_cons, List.map_nil]); first | done | rfl | (simp only [List.length_drop, List.length_take]; rfl)) ?_; (with_reducible refine (spec_ApplyValues.calls k a0_2 a1_0 a1_1 a1_2 t21004 _ A5.out).mono ?_); rintro e w14 ⟨rfl, hb⟩; refine ⟨_, rfl, ?_⟩; have n0_ := Aside0.mk (blk_below (g := gb21001) (o := .cells #[.int .i64 a0_0, .string a0_1, .string a0_2, .int .i64 a0_3, .string a0_4, .slice A0_5 l0_5.length c0_5, .slice A0_6 l0_6.length c0_6, .int .i64 a0_7] 37 (0, 0)) (by (with_reducible repeat (first | refine blk_drewN ?_ _ | refine blk_drew ?_ | refine blk_alloc ?_ _)); exact BK21001.out) hb); have n1_ := Aside0.mk (blk_below (g := gb21002) (o := .cells #[.string a1_0, .string a1_1, .string a1_2] 39 (0, 0)) (by (with_reducible repeat (first | refine blk_drewN ?_ _ | refine blk_drew ?_ | refine blk_alloc ?_ _)); exact BK21002.out) hb); have n2_ := Aside0.mk (below_step (by repeat (first | (with_reducible first | exact HB.out | apply below_alloc | apply pw_below_drewN | apply below_drew1 | refine below_set ?_ (Aside0.out (by assumption))) | exact HB.out)) hb); clear BK21001; clear BK21002; clear HB; have BK21001 := n0_; have BK21002 := n1_; have HB := n2_; clear n0_ n1_ n2_; (try clear hb); (try clear hb2); (try clear hk); (try clear hi)))
      go_ret
      exact ⟨by first | rfl | (simp [errW_none, errW_some] <;> rfl) | (simp [*, errW_none, errW_some] <;> rfl), by repeat (first | (with_reducible first | exact HB.out | apply below_alloc | apply pw_below_drewN | apply below_drew1 | refine below_set ?_ (Aside0.out (by assumption))) | exact HB.out)⟩)

end Go.Proofs.Ytffjfdoghofkdaa.A


namespace Go.Proofs.Ytffjfdoghofkdaa.A
open Go.RowKit Go.Proofs.Ytffjfdoghofkdaa.Ext Go.Proofs.YtffjfdoghofkdaaW.PrintWords Go.Proofs.YtffjfdoghofkdaaW.PrintLast Go.Proofs.YtffjfdoghofkdaaW.PrintMore
attribute [local go_sem] max2_int min2_int max_two min_two max_three min_three max_four min_four   -- for this text's walks alone
set_option linter.unusedVariables false
set_option linter.unusedSimpArgs false

/-! ### spec_HoldsFor: function 7 -/
def spec_HoldsFor.f (k : Nat) (a0_0 : Int) (a0_1 : ByteArray) (a0_2 : ByteArray) (a0_3 : Int) (a0_4 : ByteArray) (l0_5 : List (S35)) (l0_6 : List Int) (a0_7 : Int) (a1_0 : ByteArray) (a1_1 : ByteArray) (a1_2 : ByteArray) : Option (Bool) := (spec_IsValidConstraint.f k a0_0 a0_1 a0_2 a0_3 a0_4 l0_5 l0_6 a0_7).bind fun t7003 => (if t7003 = true then ((spec_IsValues.f k a1_0 a1_1 a1_2).bind fun t7004 => (if t7004 = true then ((spec_l9Holds.f k a0_0 a0_1 a0_2 a0_3 a0_4 l0_5 l0_6 a0_7 a1_0 a1_1 a1_2).bind fun t7005 => (some t7005)) else (some false))) else (some false))
theorem spec_HoldsFor.mono : ∀ a0 a1 a2 a3 a4 a5 a6 a7 a8 a9 a10 k, LeO (spec_HoldsFor.f k a0 a1 a2 a3 a4 a5 a6 a7 a8 a9 a10) (spec_HoldsFor.f (k + 1) a0 a1 a2 a3 a4 a5 a6 a7 a8 a9 a10) := by
  intro a0 a1 a2 a3 a4 a5 a6 a7 a8 a9 a10 k
  unfold spec_HoldsFor.f
  repeat' first
      | with_reducible first | exact spec_IsValidConstraint.mono _ _ _ _ _ _ _ _ _ | exact spec_IsValues.mono _ _ _ _ | exact spec_l9Holds.mono _ _ _ _ _ _ _ _ _ _ _ _ | exact LeO.refl _ | exact LeO.none _ | refine LeO.ite ?_ ?_ | refine LeO.bind ?_ (fun _ => ?_)
      | exact spec_IsValidConstraint.mono _ _ _ _ _ _ _ _ _ | exact spec_IsValues.mono _ _ _ _ | exact spec_l9Holds.mono _ _ _ _ _ _ _ _ _ _ _ _ | exact LeO.none _ | refine LeO.ite ?_ ?_ | refine LeO.bind ?_ (fun _ => ?_)
set_option maxHeartbeats 8000000 in
set_option maxRecDepth 100000 in
theorem spec_HoldsFor.calls (k : Nat) (a0_0 : Int) (a0_1 : ByteArray) (a0_2 : ByteArray) (a0_3 : Int) (a0_4 : ByteArray) (A0_5 : Option Addr) (c0_5 : Nat) (l0_5 : List (S35)) (A0_6 : Option Addr) (c0_6 : Nat) (l0_6 : List Int) (a0_7 : Int) (a1_0 : ByteArray) (a1_1 : ByteArray) (a1_2 : ByteArray) (r : Bool) (w : World) (hr0_5 : Kd.C k35 w A0_5 l0_5.length l0_5) (hc0_5 : l0_5.length ≤ c0_5) (hr0_6 : Kd.C (Kd.int .i64) w A0_6 l0_6.length l0_6) (hc0_6 : l0_6.length ≤ c0_6) (h : spec_HoldsFor.f k a0_0 a0_1 a0_2 a0_3 a0_4 l0_5 l0_6 a0_7 a1_0 a1_1 a1_2 = some r) :
    Calls Try.prog 7 #[.agg #[.int .i64 a0_0, .string a0_1, .string a0_2, .int .i64 a0_3, .string a0_4, .slice A0_5 l0_5.length c0_5, .slice A0_6 l0_6.length c0_6, .int .i64 a0_7], .agg #[.string a1_0, .string a1_1, .string a1_2]] w fun e w' => e = .returned (.bool r) ∧ Below w.heap.size w w' := by
  have hu37 := Try.underlying37
  have hu39 := Try.underlying39
  have HR0_5 := Aside0.mk hr0_5
  have HC0_5 := Aside0.mk hc0_5
  clear hr0_5 hc0_5
  have HR0_6 := Aside0.mk hr0_6
  have HC0_6 := Aside0.mk hc0_6
  clear hr0_6 hc0_6
  have HB := Aside0.mk (Below.refl w.heap.size w)
  have H : ((spec_IsValidConstraint.f k a0_0 a0_1 a0_2 a0_3 a0_4 l0_5 l0_6 a0_7).bind fun t7003 => (if t7003 = true then ((spec_IsValues.f k a1_0 a1_1 a1_2).bind fun t7004 => (if t7004 = true then ((spec_l9Holds.f k a0_0 a0_1 a0_2 a0_3 a0_4 l0_5 l0_6 a0_7 a1_0 a1_1 a1_2).bind fun t7005 => (some t7005)) else (some false))) else (some false))) = some r := h
  clear h
  replace H := Option.bind_eq_some_iff.mp H
  obtain ⟨t7003, A30, H⟩ := H
  replace H : (if t7003 = true then ((spec_IsValues.f k a1_0 a1_1 a1_2).bind fun t7004 => (if t7004 = true then ((spec_l9Holds.f k a0_0 a0_1 a0_2 a0_3 a0_4 l0_5 l0_6 a0_7 a1_0 a1_1 a1_2).bind fun t7005 => (some t7005)) else (some false))) else (some false)) = some r := H
  have A3 := Aside0.mk A30
  clear A30
  by_cases c4 : t7003 = true
  subst c4
  have H1 : ((spec_IsValues.f k a1_0 a1_1 a1_2).bind fun t7004 => (if t7004 = true then ((spec_l9Holds.f k a0_0 a0_1 a0_2 a0_3 a0_4 l0_5 l0_6 a0_7 a1_0 a1_1 a1_2).bind fun t7005 => (some t7005)) else (some false))) = some r := by rw [if_pos rfl] at H; exact H
  clear H
  have H := H1
  clear H1
  replace H := Option.bind_eq_some_iff.mp H
  obtain ⟨t7004, A50, H⟩ := H
  replace H : (if t7004 = true then ((spec_l9Holds.f k a0_0 a0_1 a0_2 a0_3 a0_4 l0_5 l0_6 a0_7 a1_0 a1_1 a1_2).bind fun t7005 => (some t7005)) else (some false)) = some r := H
  have A5 := Aside0.mk A50
  clear A50
  by_cases c6 : t7004 = true
  subst c6
  have H1 : ((spec_l9Holds.f k a0_0 a0_1 a0_2 a0_3 a0_4 l0_5 l0_6 a0_7 a1_0 a1_1 a1_2).bind fun t7005 => (some t7005)) = some r := by rw [if_pos rfl] at H; exact H
  clear H
  have H := H1
  clear H1
  replace H := Option.bind_eq_some_iff.mp H
  obtain ⟨t7005, A70, H⟩ := H
  replace H : (some t7005) = some r := H
  have A7 := Aside0.mk A70
  clear A70
  rotate_left
  replace c6 := Bool.eq_false_iff.mpr c6
  subst c6
  have H1 : (some false) = some r := by rw [if_neg (show ¬ (false = true) by decide)] at H; exact H
  clear H
  have H := H1
  clear H1
  rotate_left
  replace c4 := Bool.eq_false_iff.mpr c4
  subst c4
  have H1 : (some false) = some r := by rw [if_neg (show ¬ (false = true) by decide)] at H; exact H
  clear H
  have H := H1
  clear H1
  rotate_left
  all_goals
   obtain rfl := Option.some.inj H
   go_enter Try.func7, Try.ntmps7
   go_wp2_with (first | ((with_reducible refine gate_dst (N := 2) rfl ?_); refine box_event ?hg (N := 2) ?hd (cs := #[.int .i64 a0_0, .string a0_1, .string a0_2, .int .i64 a0_3, .string a0_4, .slice A0_5 l0_5.length c0_5, .slice A0_6 l0_6.length c0_6, .int .i64 a0_7]) (t := 37) ?hr ?_; (case hd => rfl); (case hg => rfl); (case hr => first | (go_simp; done) | (go_simp; rfl)); intro gb7001 hg w18 hbox hb; have n0_ := Aside0.mk (below_step (by repeat (first | (with_reducible first | exact HB.out | apply below_alloc | apply pw_below_drewN | apply below_drew1 | refine below_set ?_ (Aside0.out (by assumption))) | exact HB.out)) hb); have n1_ := Aside0.mk (hbox); have n2_ := Aside0.mk ((by rw [hg]; exact (below_size (by repeat (first | (with_reducible first | exact HB.out | apply below_alloc | apply pw_below_drewN | apply below_drew1 | refine below_set ?_ (Aside0.out (by assumption))) | exact HB.out))) : w.heap.size ≤ gb7001)); have n3_ := Aside0.mk ((by rw [hg]; exact (below_size (by repeat (first | (with_reducible first | exact HB.out | apply below_alloc | apply pw_below_drewN | apply below_drew1 | refine below_set ?_ (Aside0.out (by assumption))) | exact HB.out))) : w.heap.size ≤ gb7001)); clear HB; have HB := n0_; have BK7001 := n1_; have GW7001 := n2_; have GE7001 := n3_; clear n0_ n1_ n2_ n3_; clear hb hbox hg) | ((with_reducible refine gate_dst (N := 3) rfl ?_); refine box_event ?hg (N := 3) ?hd (cs := #[.string a1_0, .string a1_1, .string a1_2]) (t := 39) ?hr ?_; (case hd => rfl); (case hg => rfl); (case hr => first | (go_simp; done) | (go_simp; rfl)); intro gb7002 hg w19 hbox hb; have n0_ := Aside0.mk (blk_below (g := gb7001) (o := .cells #[.int .i64 a0_0, .string a0_1, .string a0_2, .int .i64 a0_3, .string a0_4, .slice A0_5 l0_5.length c0_5, .slice A0_6 l0_6.length c0_6, .int .i64 a0_7] 37 (0, 0)) (by (with_reducible repeat (first | refine blk_drewN ?_ _ | refine blk_drew ?_ | refine blk_alloc ?_ _)); exact BK7001.out) hb); have n1_ := Aside0.mk (below_step (by repeat (first | (with_reducible first | exact HB.out | apply below_alloc | apply pw_below_drewN | apply below_drew1 | refine below_set ?_ (Aside0.out (by assumption))) | exact HB.out)) hb); have n2_ := Aside0.mk (hbox); have n3_ := Aside0.mk ((by rw [hg]; exact (below_size (by repeat (first | (with_reducible first | exact HB.out | apply below_alloc | apply pw_below_drewN | apply below_drew1 | refine below_set ?_ (Aside0.out (by assumption))) | exact HB.out))) : w.heap.size ≤ gb7002)); have n4_ := Aside0.mk ((by rw [hg]; exact (below_size (by repeat (first | (with_reducible first | exact HB.out | apply below_alloc | apply pw_below_drewN | apply below_drew1 | refine below_set ?_ (Aside0.out (by assumption))) | exact HB.out))) : w.heap.size ≤ gb7002)); have n5_ := Aside0.mk ((by rw [hg]; exact Nat.ne_of_lt (blk_lt (g := gb7001) (o := .cells #[.int .i64 a0_0, .string a0_1, .string a0_2, .int .i64 a0_3, .string a0_4, .slice A0_5 l0_5.length c0_5, .slice A0_6 l0_6.length c0_6, .int .i64 a0_7] 37 (0, 0)) (by (with_reducible repeat (first | refine blk_drewN ?_ _ | refine blk_drew ?_ | refine blk_alloc ?_ _)); exact BK7001.out)) : gb7001 ≠ gb7002)); have n6_ := Aside0.mk ((by rw [hg]; exact Nat.ne_of_gt (blk_lt (g := gb7001) (o := .cells #[.int .i64 a0_0, .string a0_1, .string a0_2, .int .i64 a0_3, .string a0_4, .slice A0_5 l0_5.length c0_5, .slice A0_6 l0_6.length c0_6, .int .i64 a0_7] 37 (0, 0)) (by (with_reducible repeat (first | refine blk_drewN ?_ _ | refine blk_drew ?_ | refine blk_alloc ?_ _)); exact BK7001.out)) : gb7002 ≠ gb7001)); clear BK7001; clear HB; have BK7001 := n0_; have HB := n1_; have BK7002 := n2_; have GW7002 := n3_; have GE7002 := n4_; have NB7001_7002 := n5_; have NB7002_7001 := n6_; clear n0_ n1_ n2_ n3_ n4_ n5_ n6_; clear hb hbox hg; have hnb20 := NB7001_7002.out; have hnc20 := NB7002_7001.out; obtain ⟨hcz21_0, hcz21_1, hcz21_2, hcz21_3, hcz21_4, hcz21_5, hcz21_6, hcz21_7, hfz21_0, hfz21_1, hfz21_2, hfz21_3, hfz21_4, hfz21_5, hfz21_6, hfz21_7⟩ := blk8 BK7001.out) | ((with_reducible refine gate_callee (f := 19) rfl ?_); refine goesL_ (some 6) rfl rfl Try.func19 (by kernel_rfl) rfl #[.agg #[.int .i64 a0_0, .string a0_1, .string a0_2, .int .i64 a0_3, .string a0_4, .slice A0_5 l0_5.length c0_5, .slice A0_6 l0_6.length c0_6, .int .i64 a0_7]] rfl (by (try simp only [List.map_toArray, List.map_cons, List.map_nil]); first | done | rfl | (simp only [List.length_drop, List.length_take]; rfl)) ?_; (with_reducible refine (spec_IsValidConstraint.calls k a0_0 a0_1 a0_2 a0_3 a0_4 _ _ l0_5 _ _ l0_6 a0_7 _ _ ?side1 ?side2 ?side3 ?side4 A3.out).mono ?_); (case side1 => repeat (first | exact (Kd.C_below HR0_5.out HB.out) | (with_reducible refine Kd.C_alloc ?_ _) | (with_reducible refine Kd.C_drewN ?_ _) | (with_reducible refine Kd.C_drew ?_))); (case side2 => exact HC0_5.out); (case side3 => repeat (first | exact (Kd.C_below HR0_6.out HB.out) | (with_reducible refine Kd.C_alloc ?_ _) | (with_reducible refine Kd.C_drewN ?_ _) | (with_reducible refine Kd.C_drew ?_))); (case side4 => exact HC0_6.out); rintro e w12 ⟨rfl, hb⟩; refine ⟨_, rfl, ?_⟩; have n0_ := Aside0.mk (blk_below (g := gb7001) (o := .cells #[.int .i64 a0_0, .string a0_1, .string a0_2, .int .i64 a0_3, .string a0_4, .slice A0_5 l0_5.length c0_5, .slice A0_6 l0_6.length c0_6, .int .i64 a0_7] 37 (0, 0)) (by (with_reducible repeat (first | refine blk_drewN ?_ _ | refine blk_drew ?_ | refine blk_alloc ?_ _)); exact BK7001.out) hb); have n1_ := Aside0.mk (blk_below (g := gb7002) (o := .cells #[.string a1_0, .string a1_1, .string a1_2] 39 (0, 0)) (by (with_reducible repeat (first | refine blk_drewN ?_ _ | refine blk_drew ?_ | refine blk_alloc ?_ _)); exact BK7002.out) hb); have n2_ := Aside0.mk (below_step (by repeat (first | (with_reducible first | exact HB.out | apply below_alloc | apply pw_below_drewN | apply below_drew1 | refine below_set ?_ (Aside0.out (by assumption))) | exact HB.out)) hb); clear BK7001; clear BK7002; clear HB; have BK7001 := n0_; have BK7002 := n1_; have HB := n2_; clear n0_ n1_ n2_; (try clear hb); (try clear hb2); (try clear hk); (try clear hi); obtain ⟨hcz13_0, hcz13_1, hcz13_2, hfz13_0, hfz13_1, hfz13_2⟩ := blk3 BK7002.out) | (go_at_call 20; (with_reducible refine (spec_IsValues.calls k a1_0 a1_1 a1_2 _ _ A5.out).mono ?_); rintro e w14 ⟨rfl, hb⟩; have n0_ := Aside0.mk (blk_below (g := gb7001) (o := .cells #[.int .i64 a0_0, .string a0_1, .string a0_2, .int .i64 a0_3, .string a0_4, .slice A0_5 l0_5.length c0_5, .slice A0_6 l0_6.length c0_6, .int .i64 a0_7] 37 (0, 0)) (by (with_reducible repeat (first | refine blk_drewN ?_ _ | refine blk_drew ?_ | refine blk_alloc ?_ _)); exact BK7001.out) hb); have n1_ := Aside0.mk (blk_below (g := gb7002) (o := .cells #[.string a1_0, .string a1_1, .string a1_2] 39 (0, 0)) (by (with_reducible repeat (first | refine blk_drewN ?_ _ | refine blk_drew ?_ | refine blk_alloc ?_ _)); exact BK7002.out) hb); have n2_ := Aside0.mk (below_step (by repeat (first | (with_reducible first | exact HB.out | apply below_alloc | apply pw_below_drewN | apply below_drew1 | refine below_set ?_ (Aside0.out (by assumption))) | exact HB.out)) hb); clear BK7001; clear BK7002; clear HB; have BK7001 := n0_; have BK7002 := n1_; have HB := n2_; clear n0_ n1_ n2_; (try clear hb); (try clear hb2); (try clear hk); (try clear hi); obtain ⟨hcz15_0, hcz15_1, hcz15_2, hcz15_3, hcz15_4, hcz15_5, hcz15_6, hcz15_7, hfz15_0, hfz15_1, hfz15_2, hfz15_3, hfz15_4, hfz15_5, hfz15_6, hfz15_7⟩ := blk8 BK7001.out; obtain ⟨hcz16_0, hcz16_1, hcz16_2, hfz16_0, hfz16_1, hfz16_2⟩ := blk3 BK7002.out) | (go_at_call 21; (with_reducible refine (spec_l9Holds.calls k a0_0 a0_1 a0_2 a0_3 a0_4 _ _ l0_5 _ _ l0_6 a0_7 a1_0 a1_1 a1_2 t7005 _ ?side1 ?side2 ?side3 ?side4 A7.out).mono ?_); (case side1 => repeat (first | exact (Kd.C_below HR0_5.out HB.out) | (with_reducible refine Kd.C_alloc ?_ _) | (with_reducible refine Kd.C_drewN ?_ _) | (with_reducible refine Kd.C_drew ?_))); (case side2 => exact HC0_5.out); (case side3 => repeat (first | exact (Kd.C_below HR0_6.out HB.out) | (with_reducible refine Kd.C_alloc ?_ _) | (with_reducible refine Kd.C_drewN ?_ _) | (with_reducible refine Kd.C_drew ?_))); (case side4 => exact HC0_6.out); rintro e w17 ⟨rfl, hb⟩; have n0_ := Aside0.mk (blk_below (g := gb7001) (o := .cells #[.int .i64 a0_0, .string a0_1, .string a0_2, .int .i64 a0_3, .string a0_4, .slice A0_5 l0_5.length c0_5, .slice A0_6 l0_6.length c0_6, .int .i64 a0_7] 37 (0, 0)) (by (with_reducible repeat (first | refine blk_drewN ?_ _ | refine blk_drew ?_ | refine blk_alloc ?_ _)); exact BK7001.out) hb); have n1_ := Aside0.mk (blk_below (g := gb7002) (o := .cells #[.string a1_0, .string a1_1, .string a1_2] 39 (0, 0)) (by (with_reducible repeat (first | refine blk_drewN ?_ _ | refine blk_drew ?_ | refine blk_alloc ?_ _)); exact BK7002.out) hb); have n2_ := Aside0.mk (below_step (by repeat (first | (with_reducible first | exact HB.out | apply below_alloc | apply pw_below_drewN | apply below_drew1 | refine below_set ?_ (Aside0.out (by assumption))) | exact HB.out)) hb); clear BK7001; clear BK7002; clear HB; have BK7001 := n0_; have BK7002 := n1_; have HB := n2_; clear n0_ n1_ n2_; (try clear hb); (try clear hb2); (try clear hk); (try clear hi)))
   go_ret
   exact ⟨by first | rfl | (simp [errW_none, errW_some] <;> rfl) | (simp [*, errW_none, errW_some] <;> rfl), by repeat (first | (with_reducible first | exact HB.out | apply below_alloc | apply pw_below_drewN | apply below_drew1 | refine below_set ?_ (Aside0.out (by assumption))) | exact HB.out)⟩

end Go.Proofs.Ytffjfdoghofkdaa.A


namespace Go.Proofs.Ytffjfdoghofkdaa.A
open Go.RowKit Go.Proofs.Ytffjfdoghofkdaa.Ext Go.Proofs.YtffjfdoghofkdaaW.PrintWords Go.Proofs.YtffjfdoghofkdaaW.PrintLast Go.Proofs.YtffjfdoghofkdaaW.PrintMore
attribute [local go_sem] max2_int min2_int max_two min_two max_three min_three max_four min_four   -- for this text's walks alone
set_option linter.unusedVariables false
set_option linter.unusedSimpArgs false

/-! ### impl_LetterIndex: function 77 -/
def impl_LetterIndex.f (a0 : Int) : Option (Int) := (strings_IndexByte.f (⟨#[97, 98, 99]⟩ : ByteArray) a0).bind fun t77001 => (some t77001)
set_option maxHeartbeats 8000000 in
set_option maxRecDepth 100000 in
theorem impl_LetterIndex.calls (a0 : Int) (r : Int) (w : World) (h : impl_LetterIndex.f a0 = some r) :
    Calls Try.prog 77 #[.int .u8 a0] w fun e w' => e = .returned (.int .i64 r) ∧ Drawn0 w w' := by
  have H : ((strings_IndexByte.f (⟨#[97, 98, 99]⟩ : ByteArray) a0).bind fun t77001 => (some t77001)) = some r := h
  clear h
  replace H := Option.bind_eq_some_iff.mp H
  obtain ⟨t77001, A20, H⟩ := H
  replace H : (some t77001) = some r := H
  have A2 := Aside0.mk A20
  clear A20
  obtain rfl := Option.some.inj H
  go_enter Try.func77, Try.ntmps77
  go_wp2_with (first | ((with_reducible refine gate_callee (f := 65) rfl ?_); refine goesL_ (some 4) rfl rfl Try.func65 (by kernel_rfl) rfl #[.string (⟨#[97, 98, 99]⟩ : ByteArray), .int .u8 a0] rfl (by (try simp only [List.map_toArray, List.map_cons, List.map_nil]); first | done | rfl | (simp only [List.length_drop, List.length_take]; rfl)) ?_; (with_reducible refine (strings_IndexByte.calls (⟨#[97, 98, 99]⟩ : ByteArray) a0 t77001 _ A2.out).mono ?_); rintro e w' ⟨rfl, ⟨nd, rfl⟩⟩; refine ⟨_, rfl, ?_⟩))
  go_ret
  exact ⟨by first | rfl | (simp; done) | (simp [*]; done), by repeat (first | exact Drawn0.refl _ | apply Drawn0.step)⟩
/-! ### impl_isLetters: function 81 -/
def impl_isLetters.l0 : Nat → ByteArray → Int → Option (Bool)
  | 0, _, _ => none
  | k + 1, x0, x3 => if x3 < (x0.size : Int) then (if 0 ≤ x3 then ((impl_LetterIndex.f (bt x0 x3)).bind fun t81001 => (if t81001 < 0 then (some false) else (impl_isLetters.l0 k x0 (wrap64 (x3 + 1))))) else (none)) else (some true)
def impl_isLetters.f (k : Nat) (a0 : ByteArray) : Option (Bool) := impl_isLetters.l0 k a0 0
theorem impl_isLetters.mono_l : ∀ k, (∀ y0 y1, LeO (impl_isLetters.l0 k y0 y1) (impl_isLetters.l0 (k + 1) y0 y1))
  | 0 => fun _ _ r h => by simp [impl_isLetters.l0] at h
  | k + 1 => by
    have ih0 := impl_isLetters.mono_l k
    · intro y0 y1
      unfold impl_isLetters.l0
      repeat' first
      | with_reducible first | exact ih0 _ _ | exact LeO.refl _ | exact LeO.none _ | refine LeO.ite ?_ ?_ | refine LeO.bind ?_ (fun _ => ?_)
      | exact ih0 _ _ | exact LeO.none _ | refine LeO.ite ?_ ?_ | refine LeO.bind ?_ (fun _ => ?_)
theorem impl_isLetters.mono : ∀ a0 k, LeO (impl_isLetters.f k a0) (impl_isLetters.f (k + 1) a0) := by
  intro a0 k
  have ih0 := impl_isLetters.mono_l k
  unfold impl_isLetters.f
  repeat' first
      | with_reducible first | exact ih0 _ _ | exact LeO.refl _ | exact LeO.none _ | refine LeO.ite ?_ ?_ | refine LeO.bind ?_ (fun _ => ?_)
      | exact ih0 _ _ | exact LeO.none _ | refine LeO.ite ?_ ?_ | refine LeO.bind ?_ (fun _ => ?_)
set_option maxHeartbeats 8000000 in
set_option maxRecDepth 100000 in
theorem impl_isLetters.calls (k : Nat) (a0 : ByteArray) (r : Bool) (w : World) (h : impl_isLetters.f k a0 = some r) :
    Calls Try.prog 81 #[.string a0] w fun e w' => e = .returned (.bool r) ∧ Drawn0 w w' := by
  have H : (impl_isLetters.l0 k a0 0) = some r := h
  clear h
  have H' := Aside0.mk H
  clear H
  go_enter Try.func81, Try.ntmps81
  go_wp2
  first | go_loopg [3] k (fun kq v3 w' => ∃ (x3_1 : Int), v3 = .int .i64 x3_1 ∧ Aside0 (impl_isLetters.l0 kq a0 x3_1 = some r) ∧ Aside0 (kq ≤ k) ∧ Drawn0 w w') | (simp only [Act.put, List.setIfInBounds_toArray, List.set_cons_succ, List.set_cons_zero]; go_loopg [3] k (fun kq v3 w' => ∃ (x3_1 : Int), v3 = .int .i64 x3_1 ∧ Aside0 (impl_isLetters.l0 kq a0 x3_1 = some r) ∧ Aside0 (kq ≤ k) ∧ Drawn0 w w'))
  case atStart => exact ⟨(0), (by first | rfl | (simp; done) | (simp [*]; done)), H', ⟨Nat.le_refl _⟩, by repeat (first | exact Drawn0.refl _ | apply Drawn0.step)⟩
  case round =>
   clear H'
   obtain ⟨x3_1, rfl, HA, HK1, ⟨m1, rfl⟩⟩ := hrel
   cases gk with
   | zero => exact absurd HA.out (by simp [impl_isLetters.l0])
   | succ k1 =>
    have H := HA.out
    clear HA
    simp only [impl_isLetters.l0] at H
    by_cases c2 : x3_1 < (a0.size : Int)
    rw [if_pos c2] at H
    have c2b0 : decide (x3_1 < (a0.size : Int)) = true := decide_eq_true c2
    clear c2
    by_cases c3 : 0 ≤ x3_1
    rw [if_pos c3] at H
    have c3b0 : decide (0 ≤ x3_1) = true := decide_eq_true c3
    clear c3
    replace H := Option.bind_eq_some_iff.mp H
    obtain ⟨t81001, A50, H⟩ := H
    replace H : (if t81001 < 0 then (some false) else (impl_isLetters.l0 k1 a0 (wrap64 (x3_1 + 1)))) = some r := H
    have A5 := Aside0.mk A50
    clear A50
    by_cases c6 : t81001 < 0
    rw [if_pos c6] at H
    have c6b0 : decide (t81001 < 0) = true := decide_eq_true c6
    clear c6
    obtain rfl := Option.some.inj H
    have fin0_ := Aside0.mk trivial
    rotate_left
    rw [if_neg c6] at H
    have c6b0 : decide (t81001 < 0) = false := decide_eq_false c6
    clear c6
    have H' := Aside0.mk H
    clear H
    have fin1_ := Aside0.mk trivial
    rotate_left
    · rw [if_neg c3] at H
      exact absurd H (by simp)
    · rw [if_neg c2] at H
      have c2b0 : decide (x3_1 < (a0.size : Int)) = false := decide_eq_false c2
      clear c2
      obtain rfl := Option.some.inj H
      go_wp2
      go_ret
      exact ⟨by first | rfl | (simp; done) | (simp [*]; done), by repeat (first | exact Drawn0.refl _ | apply Drawn0.step)⟩
    all_goals
     have p4 : 0 ≤ (x3_1 : Int) := of_decide_eq_true (by first | (with_reducible assumption) | assumption)
     have q4 : x3_1 < (a0.size : Int) := of_decide_eq_true (by first | (with_reducible assumption) | assumption)
     have hx4 := bt_at a0 x3_1
     replace p4 := eq_true p4
     replace q4 := eq_true q4
     go_wp2_with (((with_reducible refine gate_callee (f := 77) rfl ?_); refine goesL_ (some 13) rfl rfl Try.func77 (by kernel_rfl) rfl #[.int .u8 (bt a0 x3_1)] rfl (by (try simp only [List.map_toArray, List.map_cons, List.map_nil]); first | done | rfl | (simp only [List.length_drop, List.length_take]; rfl)) ?_; (with_reducible refine (impl_LetterIndex.calls (bt a0 x3_1) t81001 _ A5.out).mono ?_); rintro e w' ⟨rfl, ⟨nd, rfl⟩⟩; refine ⟨_, rfl, ?_⟩))
     first
     | (clear fin0_
        go_ret
        exact ⟨by first | rfl | (simp; done) | (simp [*]; done), by repeat (first | exact Drawn0.refl _ | apply Drawn0.step)⟩)
     | (clear fin1_
        go_roundg k1
        case measure => have := HK1.out; omega
        case rel => exact ⟨(wrap64 (x3_1 + 1)), (by first | rfl | (simp; done) | (simp [*]; done)), H', ⟨by have := HK1.out; omega⟩, by repeat (first | exact Drawn0.refl _ | apply Drawn0.step)⟩)
/-! ### impl_IsWord: function 58 -/
def impl_IsWord.f (k : Nat) (a0 : ByteArray) : Option (Bool) := if (a0.size : Int) ≤ 30 then ((impl_isLetters.f k a0).bind fun t58001 => (some t58001)) else (some false)
theorem impl_IsWord.mono : ∀ a0 k, LeO (impl_IsWord.f k a0) (impl_IsWord.f (k + 1) a0) := by
  intro a0 k
  unfold impl_IsWord.f
  repeat' first
      | with_reducible first | exact impl_isLetters.mono _ _ | exact LeO.refl _ | exact LeO.none _ | refine LeO.ite ?_ ?_ | refine LeO.bind ?_ (fun _ => ?_)
      | exact impl_isLetters.mono _ _ | exact LeO.none _ | refine LeO.ite ?_ ?_ | refine LeO.bind ?_ (fun _ => ?_)
set_option maxHeartbeats 8000000 in
set_option maxRecDepth 100000 in
theorem impl_IsWord.calls (k : Nat) (a0 : ByteArray) (r : Bool) (w : World) (h : impl_IsWord.f k a0 = some r) :
    Calls Try.prog 58 #[.string a0] w fun e w' => e = .returned (.bool r) ∧ Drawn0 w w' := by
  have H : (if (a0.size : Int) ≤ 30 then ((impl_isLetters.f k a0).bind fun t58001 => (some t58001)) else (some false)) = some r := h
  clear h
  by_cases c2 : (a0.size : Int) ≤ 30
  rw [if_pos c2] at H
  have c2b0 : decide ((a0.size : Int) ≤ 30) = true := decide_eq_true c2
  have c2b1 : decide (a0.size ≤ 30) = true := decide_eq_true (by omega)
  clear c2
  replace H := Option.bind_eq_some_iff.mp H
  obtain ⟨t58001, A30, H⟩ := H
  replace H : (some t58001) = some r := H
  have A3 := Aside0.mk A30
  clear A30
  rotate_left
  rw [if_neg c2] at H
  have c2b0 : decide ((a0.size : Int) ≤ 30) = false := decide_eq_false c2
  have c2b1 : decide (a0.size ≤ 30) = false := decide_eq_false (by omega)
  clear c2
  rotate_left
  all_goals
   obtain rfl := Option.some.inj H
   go_enter Try.func58, Try.ntmps58
   go_wp2_with ((go_at_call 81; (with_reducible refine (impl_isLetters.calls k a0 t58001 _ A3.out).mono ?_); rintro e w' ⟨rfl, ⟨nd, rfl⟩⟩))
   go_ret
   exact ⟨by first | rfl | (simp; done) | (simp [*]; done), by repeat (first | exact Drawn0.refl _ | apply Drawn0.step)⟩

end Go.Proofs.Ytffjfdoghofkdaa.A


namespace Go.Proofs.Ytffjfdoghofkdaa.A
open Go.RowKit Go.Proofs.Ytffjfdoghofkdaa.Ext Go.Proofs.YtffjfdoghofkdaaW.PrintWords Go.Proofs.YtffjfdoghofkdaaW.PrintLast Go.Proofs.YtffjfdoghofkdaaW.PrintMore
attribute [local go_sem] max2_int min2_int max_two min_two max_three min_three max_four min_four   -- for this text's walks alone
set_option linter.unusedVariables false
set_option linter.unusedSimpArgs false

/-! ### impl_isVariable: function 78 -/
def impl_isVariable.f (a0 : Int) : Option (Bool) := (strings_IndexByte.f (⟨#[88, 89, 90]⟩ : ByteArray) a0).bind fun t78001 => (some (decide (t78001 ≥ 0)))
set_option maxHeartbeats 8000000 in
set_option maxRecDepth 100000 in
theorem impl_isVariable.calls (a0 : Int) (r : Bool) (w : World) (h : impl_isVariable.f a0 = some r) :
    Calls Try.prog 78 #[.int .u8 a0] w fun e w' => e = .returned (.bool r) ∧ Drawn0 w w' := by
  have H : ((strings_IndexByte.f (⟨#[88, 89, 90]⟩ : ByteArray) a0).bind fun t78001 => (some (decide (t78001 ≥ 0)))) = some r := h
  clear h
  replace H := Option.bind_eq_some_iff.mp H
  obtain ⟨t78001, A20, H⟩ := H
  replace H : (some (decide (t78001 ≥ 0))) = some r := H
  have A2 := Aside0.mk A20
  clear A20
  obtain rfl := Option.some.inj H
  go_enter Try.func78, Try.ntmps78
  go_wp2_with (first | ((with_reducible refine gate_callee (f := 65) rfl ?_); refine goesL_ (some 4) rfl rfl Try.func65 (by kernel_rfl) rfl #[.string (⟨#[88, 89, 90]⟩ : ByteArray), .int .u8 a0] rfl (by (try simp only [List.map_toArray, List.map_cons, List.map_nil]); first | done | rfl | (simp only [List.length_drop, List.length_take]; rfl)) ?_; (with_reducible refine (strings_IndexByte.calls (⟨#[88, 89, 90]⟩ : ByteArray) a0 t78001 _ A2.out).mono ?_); rintro e w' ⟨rfl, ⟨nd, rfl⟩⟩; refine ⟨_, rfl, ?_⟩))
  go_ret
  exact ⟨by first | rfl | (simp; done) | (simp [*]; done), by repeat (first | exact Drawn0.refl _ | apply Drawn0.step)⟩
/-! ### impl_IsTerm: function 52 -/
def impl_IsTerm.l0 : Nat → ByteArray → Int → Option (Bool)
  | 0, _, _ => none
  | k + 1, x0, x3 => if x3 < (x0.size : Int) then (if 0 ≤ x3 then ((impl_LetterIndex.f (bt x0 x3)).bind fun t52001 => (if t52001 < 0 then ((impl_isVariable.f (bt x0 x3)).bind fun t52002 => (if t52002 = true then (impl_IsTerm.l0 k x0 (wrap64 (x3 + 1))) else (some false))) else (impl_IsTerm.l0 k x0 (wrap64 (x3 + 1))))) else (none)) else (some true)
def impl_IsTerm.f (k : Nat) (a0 : ByteArray) : Option (Bool) := if (a0.size : Int) > 12 then (some false) else (impl_IsTerm.l0 k a0 0)
theorem impl_IsTerm.mono_l : ∀ k, (∀ y0 y1, LeO (impl_IsTerm.l0 k y0 y1) (impl_IsTerm.l0 (k + 1) y0 y1))
  | 0 => fun _ _ r h => by simp [impl_IsTerm.l0] at h
  | k + 1 => by
    have ih0 := impl_IsTerm.mono_l k
    · intro y0 y1
      unfold impl_IsTerm.l0
      repeat' first
      | with_reducible first | exact ih0 _ _ | exact LeO.refl _ | exact LeO.none _ | refine LeO.ite ?_ ?_ | refine LeO.bind ?_ (fun _ => ?_)
      | exact ih0 _ _ | exact LeO.none _ | refine LeO.ite ?_ ?_ | refine LeO.bind ?_ (fun _ => ?_)
theorem impl_IsTerm.mono : ∀ a0 k, LeO (impl_IsTerm.f k a0) (impl_IsTerm.f (k + 1) a0) := by
  intro a0 k
  have ih0 := impl_IsTerm.mono_l k
  unfold impl_IsTerm.f
  repeat' first
      | with_reducible first | exact ih0 _ _ | exact LeO.refl _ | exact LeO.none _ | refine LeO.ite ?_ ?_ | refine LeO.bind ?_ (fun _ => ?_)
      | exact ih0 _ _ | exact LeO.none _ | refine LeO.ite ?_ ?_ | refine LeO.bind ?_ (fun _ => ?_)
set_option maxHeartbeats 8000000 in
set_option maxRecDepth 100000 in
theorem impl_IsTerm.calls (k : Nat) (a0 : ByteArray) (r : Bool) (w : World) (h : impl_IsTerm.f k a0 = some r) :
    Calls Try.prog 52 #[.string a0] w fun e w' => e = .returned (.bool r) ∧ Drawn0 w w' := by
  have H : (if (a0.size : Int) > 12 then (some false) else (impl_IsTerm.l0 k a0 0)) = some r := h
  clear h
  by_cases c2 : (a0.size : Int) > 12
  · rw [if_pos c2] at H
    have c2b0 : decide (12 < (a0.size : Int)) = true := decide_eq_true c2
    have c2b1 : decide (12 < a0.size) = true := decide_eq_true (by omega)
    clear c2
    obtain rfl := Option.some.inj H
    go_enter Try.func52, Try.ntmps52
    go_wp2
    go_ret
    exact ⟨by first | rfl | (simp; done) | (simp [*]; done), by repeat (first | exact Drawn0.refl _ | apply Drawn0.step)⟩
  · rw [if_neg c2] at H
    have c2b0 : decide (12 < (a0.size : Int)) = false := decide_eq_false c2
    have c2b1 : decide (12 < a0.size) = false := decide_eq_false (by omega)
    clear c2
    have H' := Aside0.mk H
    clear H
    go_enter Try.func52, Try.ntmps52
    go_wp2
    first | go_loopg [3] k (fun kq v3 w' => ∃ (x3_1 : Int), v3 = .int .i64 x3_1 ∧ Aside0 (impl_IsTerm.l0 kq a0 x3_1 = some r) ∧ Aside0 (kq ≤ k) ∧ Drawn0 w w') | (simp only [Act.put, List.setIfInBounds_toArray, List.set_cons_succ, List.set_cons_zero]; go_loopg [3] k (fun kq v3 w' => ∃ (x3_1 : Int), v3 = .int .i64 x3_1 ∧ Aside0 (impl_IsTerm.l0 kq a0 x3_1 = some r) ∧ Aside0 (kq ≤ k) ∧ Drawn0 w w'))
    case atStart => exact ⟨(0), (by first | rfl | (simp; done) | (simp [*]; done)), H', ⟨Nat.le_refl _⟩, by repeat (first | exact Drawn0.refl _ | apply Drawn0.step)⟩
    case round =>
     clear H'
     try clear c2
     try clear c2b0
     try clear c2b1
     obtain ⟨x3_1, rfl, HA, HK1, ⟨m1, rfl⟩⟩ := hrel
     cases gk with
     | zero => exact absurd HA.out (by simp [impl_IsTerm.l0])
     | succ k1 =>
      have H := HA.out
      clear HA
      simp only [impl_IsTerm.l0] at H
      by_cases c3 : x3_1 < (a0.size : Int)
      rw [if_pos c3] at H
      have c3b0 : decide (x3_1 < (a0.size : Int)) = true := decide_eq_true c3
      clear c3
      by_cases c4 : 0 ≤ x3_1
      rw [if_pos c4] at H
      have c4b0 : decide (0 ≤ x3_1) = true := decide_eq_true c4
      clear c4
      replace H := Option.bind_eq_some_iff.mp H
      obtain ⟨t52001, A60, H⟩ := H
      replace H : (if t52001 < 0 then ((impl_isVariable.f (bt a0 x3_1)).bind fun t52002 => (if t52002 = true then (impl_IsTerm.l0 k1 a0 (wrap64 (x3_1 + 1))) else (some false))) else (impl_IsTerm.l0 k1 a0 (wrap64 (x3_1 + 1)))) = some r := H
      have A6 := Aside0.mk A60
      clear A60
      by_cases c7 : t52001 < 0
      rw [if_pos c7] at H
      have c7b0 : decide (t52001 < 0) = true := decide_eq_true c7
      clear c7
      replace H := Option.bind_eq_some_iff.mp H
      obtain ⟨t52002, A90, H⟩ := H
      replace H : (if t52002 = true then (impl_IsTerm.l0 k1 a0 (wrap64 (x3_1 + 1))) else (some false)) = some r := H
      have A9 := Aside0.mk A90
      clear A90
      by_cases c10 : t52002 = true
      subst c10
      have H1 : (impl_IsTerm.l0 k1 a0 (wrap64 (x3_1 + 1))) = some r := by rw [if_pos rfl] at H; exact H
      clear H
      have H := H1
      clear H1
      have H' := Aside0.mk H
      clear H
      have fin0_ := Aside0.mk trivial
      rotate_left
      replace c10 := Bool.eq_false_iff.mpr c10
      subst c10
      have H1 : (some false) = some r := by rw [if_neg (show ¬ (false = true) by decide)] at H; exact H
      clear H
      have H := H1
      clear H1
      obtain rfl := Option.some.inj H
      have fin1_ := Aside0.mk trivial
      rotate_left
      · rw [if_neg c7] at H
        have c7b0 : decide (t52001 < 0) = false := decide_eq_false c7
        clear c7
        have H' := Aside0.mk H
        clear H
        have p5 : 0 ≤ (x3_1 : Int) := of_decide_eq_true (by first | (with_reducible assumption) | assumption)
        have q5 : x3_1 < (a0.size : Int) := of_decide_eq_true (by first | (with_reducible assumption) | assumption)
        have hx5 := bt_at a0 x3_1
        replace p5 := eq_true p5
        replace q5 := eq_true q5
        go_wp2_with (first | ((with_reducible refine gate_callee (f := 77) rfl ?_); refine goesL_ (some 16) rfl rfl Try.func77 (by kernel_rfl) rfl #[.int .u8 (bt a0 x3_1)] rfl (by (try simp only [List.map_toArray, List.map_cons, List.map_nil]); first | done | rfl | (simp only [List.length_drop, List.length_take]; rfl)) ?_; (with_reducible refine (impl_LetterIndex.calls (bt a0 x3_1) t52001 _ A6.out).mono ?_); rintro e w' ⟨rfl, ⟨nd, rfl⟩⟩; refine ⟨_, rfl, ?_⟩))
        go_roundg k1
        case measure => have := HK1.out; omega
        case rel => exact ⟨(wrap64 (x3_1 + 1)), (by first | rfl | (simp; done) | (simp [*]; done)), H', ⟨by have := HK1.out; omega⟩, by repeat (first | exact Drawn0.refl _ | apply Drawn0.step)⟩
      · rw [if_neg c4] at H
        exact absurd H (by simp)
      · rw [if_neg c3] at H
        have c3b0 : decide (x3_1 < (a0.size : Int)) = false := decide_eq_false c3
        clear c3
        obtain rfl := Option.some.inj H
        go_wp2
        go_ret
        exact ⟨by first | rfl | (simp; done) | (simp [*]; done), by repeat (first | exact Drawn0.refl _ | apply Drawn0.step)⟩
      all_goals
       have p5 : 0 ≤ (x3_1 : Int) := of_decide_eq_true (by first | (with_reducible assumption) | assumption)
       have q5 : x3_1 < (a0.size : Int) := of_decide_eq_true (by first | (with_reducible assumption) | assumption)
       have hx5 := bt_at a0 x3_1
       replace p5 := eq_true p5
       replace q5 := eq_true q5
       go_wp2_with (first | ((with_reducible refine gate_callee (f := 77) rfl ?_); refine goesL_ (some 16) rfl rfl Try.func77 (by kernel_rfl) rfl #[.int .u8 (bt a0 x3_1)] rfl (by (try simp only [List.map_toArray, List.map_cons, List.map_nil]); first | done | rfl | (simp only [List.length_drop, List.length_take]; rfl)) ?_; (with_reducible refine (impl_LetterIndex.calls (bt a0 x3_1) t52001 _ A6.out).mono ?_); rintro e w' ⟨rfl, ⟨nd, rfl⟩⟩; refine ⟨_, rfl, ?_⟩; have p8 : 0 ≤ (x3_1 : Int) := of_decide_eq_true (by first | (with_reducible assumption) | assumption); have q8 : x3_1 < (a0.size : Int) := of_decide_eq_true (by first | (with_reducible assumption) | assumption); have hx8 := bt_at a0 x3_1; replace p8 := eq_true p8; replace q8 := eq_true q8) | (go_at_call 78; (with_reducible refine (impl_isVariable.calls (bt a0 x3_1) _ _ A9.out).mono ?_); rintro e w' ⟨rfl, ⟨nd, rfl⟩⟩))
       first
       | (clear fin0_
          go_roundg k1
          case measure => have := HK1.out; omega
          case rel => exact ⟨(wrap64 (x3_1 + 1)), (by first | rfl | (simp; done) | (simp [*]; done)), H', ⟨by have := HK1.out; omega⟩, by repeat (first | exact Drawn0.refl _ | apply Drawn0.step)⟩)
       | (clear fin1_
          go_ret
          exact ⟨by first | rfl | (simp; done) | (simp [*]; done), by repeat (first | exact Drawn0.refl _ | apply Drawn0.step)⟩)
/-! ### impl_IsValues: function 25 -/
def impl_IsValues.f (k : Nat) (a0_0 : ByteArray) (a0_1 : ByteArray) (a0_2 : ByteArray) : Option (Bool) := (impl_IsWord.f k a0_0).bind fun t25002 => (if t25002 = true then ((impl_IsWord.f k a0_1).bind fun t25003 => (if t25003 = true then ((impl_IsWord.f k a0_2).bind fun t25004 => (some t25004)) else (some false))) else (some false))
theorem impl_IsValues.mono : ∀ a0 a1 a2 k, LeO (impl_IsValues.f k a0 a1 a2) (impl_IsValues.f (k + 1) a0 a1 a2) := by
  intro a0 a1 a2 k
  unfold impl_IsValues.f
  repeat' first
      | with_reducible first | exact impl_IsWord.mono _ _ | exact LeO.refl _ | exact LeO.none _ | refine LeO.ite ?_ ?_ | refine LeO.bind ?_ (fun _ => ?_)
      | exact impl_IsWord.mono _ _ | exact LeO.none _ | refine LeO.ite ?_ ?_ | refine LeO.bind ?_ (fun _ => ?_)
set_option maxHeartbeats 8000000 in
set_option maxRecDepth 100000 in
theorem impl_IsValues.calls (k : Nat) (a0_0 : ByteArray) (a0_1 : ByteArray) (a0_2 : ByteArray) (r : Bool) (w : World) (h : impl_IsValues.f k a0_0 a0_1 a0_2 = some r) :
    Calls Try.prog 25 #[.agg #[.string a0_0, .string a0_1, .string a0_2]] w fun e w' => e = .returned (.bool r) ∧ Below w.heap.size w w' := by
  have hu39 := Try.underlying39
  have HB := Aside0.mk (Below.refl w.heap.size w)
  have H : ((impl_IsWord.f k a0_0).bind fun t25002 => (if t25002 = true then ((impl_IsWord.f k a0_1).bind fun t25003 => (if t25003 = true then ((impl_IsWord.f k a0_2).bind fun t25004 => (some t25004)) else (some false))) else (some false))) = some r := h
  clear h
  replace H := Option.bind_eq_some_iff.mp H
  obtain ⟨t25002, A20, H⟩ := H
  replace H : (if t25002 = true then ((impl_IsWord.f k a0_1).bind fun t25003 => (if t25003 = true then ((impl_IsWord.f k a0_2).bind fun t25004 => (some t25004)) else (some false))) else (some false)) = some r := H
  have A2 := Aside0.mk A20
  clear A20
  by_cases c3 : t25002 = true
  subst c3
  have H1 : ((impl_IsWord.f k a0_1).bind fun t25003 => (if t25003 = true then ((impl_IsWord.f k a0_2).bind fun t25004 => (some t25004)) else (some false))) = some r := by rw [if_pos rfl] at H; exact H
  clear H
  have H := H1
  clear H1
  replace H := Option.bind_eq_some_iff.mp H
  obtain ⟨t25003, A40, H⟩ := H
  replace H : (if t25003 = true then ((impl_IsWord.f k a0_2).bind fun t25004 => (some t25004)) else (some false)) = some r := H
  have A4 := Aside0.mk A40
  clear A40
  by_cases c5 : t25003 = true
  subst c5
  have H1 : ((impl_IsWord.f k a0_2).bind fun t25004 => (some t25004)) = some r := by rw [if_pos rfl] at H; exact H
  clear H
  have H := H1
  clear H1
  replace H := Option.bind_eq_some_iff.mp H
  obtain ⟨t25004, A60, H⟩ := H
  replace H : (some t25004) = some r := H
  have A6 := Aside0.mk A60
  clear A60
  rotate_left
  replace c5 := Bool.eq_false_iff.mpr c5
  subst c5
  have H1 : (some false) = some r := by rw [if_neg (show ¬ (false = true) by decide)] at H; exact H
  clear H
  have H := H1
  clear H1
  rotate_left
  replace c3 := Bool.eq_false_iff.mpr c3
  subst c3
  have H1 : (some false) = some r := by rw [if_neg (show ¬ (false = true) by decide)] at H; exact H
  clear H
  have H := H1
  clear H1
  rotate_left
  all_goals
   obtain rfl := Option.some.inj H
   go_enter Try.func25, Try.ntmps25
   go_wp2_with (first | ((with_reducible refine gate_dst (N := 1) rfl ?_); refine box_event ?hg (N := 1) ?hd (cs := #[.string a0_0, .string a0_1, .string a0_2]) (t := 39) ?hr ?_; (case hd => rfl); (case hg => rfl); (case hr => first | (go_simp; done) | (go_simp; rfl)); intro gb25001 hg w11 hbox hb; have n0_ := Aside0.mk (below_step (by repeat (first | (with_reducible first | exact HB.out | apply below_alloc | apply pw_below_drewN | apply below_drew1 | refine below_set ?_ (Aside0.out (by assumption))) | exact HB.out)) hb); have n1_ := Aside0.mk (hbox); have n2_ := Aside0.mk ((by rw [hg]; exact (below_size (by repeat (first | (with_reducible first | exact HB.out | apply below_alloc | apply pw_below_drewN | apply below_drew1 | refine below_set ?_ (Aside0.out (by assumption))) | exact HB.out))) : w.heap.size ≤ gb25001)); have n3_ := Aside0.mk ((by rw [hg]; exact (below_size (by repeat (first | (with_reducible first | exact HB.out | apply below_alloc | apply pw_below_drewN | apply below_drew1 | refine below_set ?_ (Aside0.out (by assumption))) | exact HB.out))) : w.heap.size ≤ gb25001)); clear HB; have HB := n0_; have BK25001 := n1_; have GW25001 := n2_; have GE25001 := n3_; clear n0_ n1_ n2_ n3_; clear hb hbox hg; obtain ⟨hcz12_0, hcz12_1, hcz12_2, hfz12_0, hfz12_1, hfz12_2⟩ := blk3 BK25001.out) | ((with_reducible refine gate_callee (f := 58) rfl ?_); refine goesL_ (some 5) rfl rfl Try.func58 (by kernel_rfl) rfl #[.string a0_0] rfl (by (try simp only [List.map_toArray, List.map_cons, List.map_nil]); first | done | rfl | (simp only [List.length_drop, List.length_take]; rfl)) ?_; (with_reducible refine (impl_IsWord.calls k a0_0 _ _ A2.out).mono ?_); rintro e w' ⟨rfl, ⟨nd, rfl⟩⟩; refine ⟨_, rfl, ?_⟩) | (go_at_call 58; (with_reducible refine (impl_IsWord.calls k a0_1 _ _ A4.out).mono ?_); rintro e w' ⟨rfl, ⟨nd, rfl⟩⟩) | (go_at_call 58; (with_reducible refine (impl_IsWord.calls k a0_2 t25004 _ A6.out).mono ?_); rintro e w' ⟨rfl, ⟨nd, rfl⟩⟩))
   go_ret
   exact ⟨by first | rfl | (simp [errW_none, errW_some] <;> rfl) | (simp [*, errW_none, errW_some] <;> rfl), by repeat (first | (with_reducible first | exact HB.out | apply below_alloc | apply pw_below_drewN | apply below_drew1 | refine below_set ?_ (Aside0.out (by assumption))) | exact HB.out)⟩
/-! ### impl_ValueOf: function 84 -/
def impl_ValueOf.f (a0_0 : ByteArray) (a0_1 : ByteArray) (a0_2 : ByteArray) (a1 : Int) : Option (ByteArray) := if a1 = 88 then (some a0_0) else (if a1 = 89 then (some a0_1) else (if a1 = 90 then (some a0_2) else (some (⟨#[]⟩ : ByteArray))))
set_option maxHeartbeats 8000000 in
set_option maxRecDepth 100000 in
theorem impl_ValueOf.calls (a0_0 : ByteArray) (a0_1 : ByteArray) (a0_2 : ByteArray) (a1 : Int) (r : ByteArray) (w : World) (h : impl_ValueOf.f a0_0 a0_1 a0_2 a1 = some r) :
    Calls Try.prog 84 #[.agg #[.string a0_0, .string a0_1, .string a0_2], .int .u8 a1] w fun e w' => e = .returned (.string r) ∧ Below w.heap.size w w' := by
  have hu39 := Try.underlying39
  have HB := Aside0.mk (Below.refl w.heap.size w)
  have H : (if a1 = 88 then (some a0_0) else (if a1 = 89 then (some a0_1) else (if a1 = 90 then (some a0_2) else (some (⟨#[]⟩ : ByteArray))))) = some r := h
  clear h
  by_cases c3 : a1 = 88
  rw [if_pos c3] at H
  have c3b0 : (a1 == 88) = true := beq_iff_eq.mpr c3
  have c3b1 : (a1 != 88) = false := bne_eq_false_iff_eq.mpr c3
  clear c3
  rotate_left
  rw [if_neg c3] at H
  have c3b0 : (a1 == 88) = false := beq_eq_false_iff_ne.mpr c3
  have c3b1 : (a1 != 88) = true := bne_iff_ne.mpr c3
  by_cases c6 : a1 = 89
  rw [if_pos c6] at H
  have c6b0 : (a1 == 89) = true := beq_iff_eq.mpr c6
  have c6b1 : (a1 != 89) = false := bne_eq_false_iff_eq.mpr c6
  clear c6
  rotate_left
  rw [if_neg c6] at H
  have c6b0 : (a1 == 89) = false := beq_eq_false_iff_ne.mpr c6
  have c6b1 : (a1 != 89) = true := bne_iff_ne.mpr c6
  by_cases c9 : a1 = 90
  rw [if_pos c9] at H
  have c9b0 : (a1 == 90) = true := beq_iff_eq.mpr c9
  have c9b1 : (a1 != 90) = false := bne_eq_false_iff_eq.mpr c9
  clear c9
  rotate_left
  rw [if_neg c9] at H
  have c9b0 : (a1 == 90) = false := beq_eq_false_iff_ne.mpr c9
  have c9b1 : (a1 != 90) = true := bne_iff_ne.mpr c9
  rotate_left
  all_goals
   obtain rfl := Option.some.inj H
   go_enter Try.func84, Try.ntmps84
   go_wp2_with (((with_reducible refine gate_dst (N := 2) rfl ?_); refine box_event ?hg (N := 2) ?hd (cs := #[.string a0_0, .string a0_1, .string a0_2]) (t := 39) ?hr ?_; (case hd => rfl); (case hg => rfl); (case hr => first | (go_simp; done) | (go_simp; rfl)); intro gb84001 hg w10 hbox hb; have n0_ := Aside0.mk (below_step (by repeat (first | (with_reducible first | exact HB.out | apply below_alloc | apply pw_below_drewN | apply below_drew1 | refine below_set ?_ (Aside0.out (by assumption))) | exact HB.out)) hb); have n1_ := Aside0.mk (hbox); have n2_ := Aside0.mk ((by rw [hg]; exact (below_size (by repeat (first | (with_reducible first | exact HB.out | apply below_alloc | apply pw_below_drewN | apply below_drew1 | refine below_set ?_ (Aside0.out (by assumption))) | exact HB.out))) : w.heap.size ≤ gb84001)); have n3_ := Aside0.mk ((by rw [hg]; exact (below_size (by repeat (first | (with_reducible first | exact HB.out | apply below_alloc | apply pw_below_drewN | apply below_drew1 | refine below_set ?_ (Aside0.out (by assumption))) | exact HB.out))) : w.heap.size ≤ gb84001)); clear HB; have HB := n0_; have BK84001 := n1_; have GW84001 := n2_; have GE84001 := n3_; clear n0_ n1_ n2_ n3_; clear hb hbox hg; obtain ⟨hcz11_0, hcz11_1, hcz11_2, hfz11_0, hfz11_1, hfz11_2⟩ := blk3 BK84001.out))
   go_ret
   exact ⟨by first | rfl | (simp [errW_none, errW_some] <;> rfl) | (simp [*, errW_none, errW_some] <;> rfl), by repeat (first | (with_reducible first | exact HB.out | apply below_alloc | apply pw_below_drewN | apply below_drew1 | refine below_set ?_ (Aside0.out (by assumption))) | exact HB.out)⟩

end Go.Proofs.Ytffjfdoghofkdaa.A


namespace Go.Proofs.Ytffjfdoghofkdaa.A
open Go.RowKit Go.Proofs.Ytffjfdoghofkdaa.Ext Go.Proofs.YtffjfdoghofkdaaW.PrintWords Go.Proofs.YtffjfdoghofkdaaW.PrintLast Go.Proofs.YtffjfdoghofkdaaW.PrintMore
attribute [local go_sem] max2_int min2_int max_two min_two max_three min_three max_four min_four   -- for this text's walks alone
set_option linter.unusedVariables false
set_option linter.unusedSimpArgs false

/-! ### impl_isZeroRegex: function 53 -/
def impl_isZeroRegex.f (a0_0 : Int) (a0_1 : ByteArray) (l0_2 : List (S35)) : Option (Bool) := if a0_0 = 0 then (if a0_1.toList = ([] : List UInt8) then (some ((l0_2.length : Int) == 0)) else (some false)) else (some false)
set_option maxHeartbeats 8000000 in
set_option maxRecDepth 100000 in
theorem impl_isZeroRegex.calls (a0_0 : Int) (a0_1 : ByteArray) (A0_2 : Option Addr) (c0_2 : Nat) (l0_2 : List (S35)) (r : Bool) (w : World) (hr0_2 : Kd.C k35 w A0_2 l0_2.length l0_2) (hc0_2 : l0_2.length ≤ c0_2) (h : impl_isZeroRegex.f a0_0 a0_1 l0_2 = some r) :
    Calls Try.prog 53 #[.agg #[.int .i64 a0_0, .string a0_1, .slice A0_2 l0_2.length c0_2]] w fun e w' => e = .returned (.bool r) ∧ Below w.heap.size w w' := by
  have hu35 := Try.underlying35
  have HR0_2 := Aside0.mk hr0_2
  have HC0_2 := Aside0.mk hc0_2
  clear hr0_2 hc0_2
  have HB := Aside0.mk (Below.refl w.heap.size w)
  have H : (if a0_0 = 0 then (if a0_1.toList = ([] : List UInt8) then (some ((l0_2.length : Int) == 0)) else (some false)) else (some false)) = some r := h
  clear h
  by_cases c2 : a0_0 = 0
  rw [if_pos c2] at H
  have c2b0 : (a0_0 == 0) = true := beq_iff_eq.mpr c2
  have c2b1 : (a0_0 != 0) = false := bne_eq_false_iff_eq.mpr c2
  clear c2
  by_cases c3 : a0_1.toList = ([] : List UInt8)
  rw [if_pos c3] at H
  have c3b0 : (a0_1.toList == ([] : List UInt8)) = true := beq_iff_eq.mpr c3
  have c3b1 : (a0_1.toList != ([] : List UInt8)) = false := bne_eq_false_iff_eq.mpr c3
  clear c3
  rotate_left
  rw [if_neg c3] at H
  have c3b0 : (a0_1.toList == ([] : List UInt8)) = false := beq_eq_false_iff_ne.mpr c3
  have c3b1 : (a0_1.toList != ([] : List UInt8)) = true := bne_iff_ne.mpr c3
  rotate_left
  rw [if_neg c2] at H
  have c2b0 : (a0_0 == 0) = false := beq_eq_false_iff_ne.mpr c2
  have c2b1 : (a0_0 != 0) = true := bne_iff_ne.mpr c2
  rotate_left
  all_goals
   obtain rfl := Option.some.inj H
   go_enter Try.func53, Try.ntmps53
   go_wp2_with (((with_reducible refine gate_dst (N := 1) rfl ?_); (try (refine gate_guard (by rfl) ?_; dsimp only)); refine box_event ?hg (N := 1) ?hd (cs := #[.int .i64 a0_0, .string a0_1, .slice A0_2 l0_2.length c0_2]) (t := 35) ?hr ?_; (case hd => rfl); (case hg => rfl); (case hr => first | (go_simp; done) | (go_simp; rfl)); intro gb53001 hg w4 hbox hb; have n0_ := Aside0.mk (below_step (by repeat (first | (with_reducible first | exact HB.out | apply below_alloc | apply pw_below_drewN | apply below_drew1 | refine below_set ?_ (Aside0.out (by assumption))) | exact HB.out)) hb); have n1_ := Aside0.mk (hbox); have n2_ := Aside0.mk ((by rw [hg]; exact (below_size (by repeat (first | (with_reducible first | exact HB.out | apply below_alloc | apply pw_below_drewN | apply below_drew1 | refine below_set ?_ (Aside0.out (by assumption))) | exact HB.out))) : w.heap.size ≤ gb53001)); have n3_ := Aside0.mk ((by rw [hg]; exact (below_size (by repeat (first | (with_reducible first | exact HB.out | apply below_alloc | apply pw_below_drewN | apply below_drew1 | refine below_set ?_ (Aside0.out (by assumption))) | exact HB.out))) : w.heap.size ≤ gb53001)); clear HB; have HB := n0_; have BK53001 := n1_; have GW53001 := n2_; have GE53001 := n3_; clear n0_ n1_ n2_ n3_; clear hb hbox hg; obtain ⟨hcz5_0, hcz5_1, hcz5_2, hfz5_0, hfz5_1, hfz5_2⟩ := blk3 BK53001.out))
   go_ret
   exact ⟨by first | rfl | (simp [errW_none, errW_some] <;> rfl) | (simp [*, errW_none, errW_some] <;> rfl), by repeat (first | (with_reducible first | exact HB.out | apply below_alloc | apply pw_below_drewN | apply below_drew1 | refine below_set ?_ (Aside0.out (by assumption))) | exact HB.out)⟩
/-! ### impl_argsOf: function 93 -/
mutual
def impl_argsOf.j0 : Nat → Int → Bool → Option (Int)
  | 0, _, _ => none
  | k + 1, x3, x4 => if x4 = true then (some 0) else (if x3 = 8 then (impl_argsOf.j1 k x3 (x3 == 8)) else (impl_argsOf.j1 k x3 (x3 == 9)))
def impl_argsOf.j1 : Nat → Int → Bool → Option (Int)
  | 0, _, _ => none
  | k + 1, x3, x9 => if x9 = true then (some 1) else (if x3 = 5 then (some 2) else (if x3 = 6 then (some 2) else (if x3 = 7 then (some 2) else (some (-1)))))
end
def impl_argsOf.f (k : Nat) (a0 : Int) : Option (Int) := if a0 = 1 then (impl_argsOf.j0 k a0 (a0 == 1)) else (if a0 = 2 then (impl_argsOf.j0 k a0 (a0 == 2)) else (if a0 = 3 then (impl_argsOf.j0 k a0 (a0 == 3)) else (impl_argsOf.j0 k a0 (a0 == 4))))
theorem impl_argsOf.mono_l : ∀ k, (∀ y0 y1, LeO (impl_argsOf.j0 k y0 y1) (impl_argsOf.j0 (k + 1) y0 y1)) ∧ (∀ y0 y1, LeO (impl_argsOf.j1 k y0 y1) (impl_argsOf.j1 (k + 1) y0 y1))
  | 0 => ⟨fun _ _ r h => by simp [impl_argsOf.j0] at h, fun _ _ r h => by simp [impl_argsOf.j1] at h⟩
  | k + 1 => by
    obtain ⟨ih0, ih1⟩ := impl_argsOf.mono_l k
    refine ⟨?_, ?_⟩
    · intro y0 y1
      unfold impl_argsOf.j0
      repeat' first
      | with_reducible first | exact ih0 _ _ | exact ih1 _ _ | exact LeO.refl _ | exact LeO.none _ | refine LeO.ite ?_ ?_ | refine LeO.bind ?_ (fun _ => ?_)
      | exact ih0 _ _ | exact ih1 _ _ | exact LeO.none _ | refine LeO.ite ?_ ?_ | refine LeO.bind ?_ (fun _ => ?_)
    · intro y0 y1
      unfold impl_argsOf.j1
      repeat' first
      | with_reducible first | exact ih0 _ _ | exact ih1 _ _ | exact LeO.refl _ | exact LeO.none _ | refine LeO.ite ?_ ?_ | refine LeO.bind ?_ (fun _ => ?_)
      | exact ih0 _ _ | exact ih1 _ _ | exact LeO.none _ | refine LeO.ite ?_ ?_ | refine LeO.bind ?_ (fun _ => ?_)
theorem impl_argsOf.mono : ∀ a0 k, LeO (impl_argsOf.f k a0) (impl_argsOf.f (k + 1) a0) := by
  intro a0 k
  obtain ⟨ih0, ih1⟩ := impl_argsOf.mono_l k
  unfold impl_argsOf.f
  repeat' first
      | with_reducible first | exact ih0 _ _ | exact ih1 _ _ | exact LeO.refl _ | exact LeO.none _ | refine LeO.ite ?_ ?_ | refine LeO.bind ?_ (fun _ => ?_)
      | exact ih0 _ _ | exact ih1 _ _ | exact LeO.none _ | refine LeO.ite ?_ ?_ | refine LeO.bind ?_ (fun _ => ?_)
set_option maxHeartbeats 8000000 in
set_option maxRecDepth 100000 in
theorem impl_argsOf.calls (k : Nat) (a0 : Int) (r : Int) (w : World) (h : impl_argsOf.f k a0 = some r) :
    Calls Try.prog 93 #[.int .i64 a0] w fun e w' => e = .returned (.int .i64 r) ∧ Drawn0 w w' := by
  have H : (if a0 = 1 then (impl_argsOf.j0 k a0 (a0 == 1)) else (if a0 = 2 then (impl_argsOf.j0 k a0 (a0 == 2)) else (if a0 = 3 then (impl_argsOf.j0 k a0 (a0 == 3)) else (impl_argsOf.j0 k a0 (a0 == 4))))) = some r := h
  clear h
  have HC2 := Aside0.mk H
  clear H
  go_enter Try.func93, Try.ntmps93
  go_upto_if 4 with (fail)
  go_cut [4] (fun v4 wc => ∃ (kq : Nat) (x4_1 : Bool), v4 = .bool x4_1 ∧ Aside0 (impl_argsOf.j0 kq a0 x4_1 = some r) ∧ Aside0 (kq ≤ k) ∧ Drawn0 w wc)
  case first =>
   have H := HC2.out
   clear HC2
   by_cases c3 : a0 = 1
   · rw [if_pos c3] at H
     have c3b0 : (a0 == 1) = true := beq_iff_eq.mpr c3
     have c3b1 : (a0 != 1) = false := bne_eq_false_iff_eq.mpr c3
     clear c3
     (first | rw [c3b0] | (simp only [i64_w, i32_w]; rw [c3b0]) | skip)
     have H' := Aside0.mk H
     clear H
     go_wp2
     go_meet
     case rel => exact ⟨_, ((a0 == 1)), (by first | rfl | (simp; done) | (simp [*]; done)), H', ⟨by first | omega | exact Nat.le_refl _⟩, by repeat (first | exact Drawn0.refl _ | apply Drawn0.step)⟩
   rw [if_neg c3] at H
   have c3b0 : (a0 == 1) = false := beq_eq_false_iff_ne.mpr c3
   have c3b1 : (a0 != 1) = true := bne_iff_ne.mpr c3
   (first | rw [c3b0] | (simp only [i64_w, i32_w]; rw [c3b0]) | skip)
   by_cases c4 : a0 = 2
   · rw [if_pos c4] at H
     have c4b0 : (a0 == 2) = true := beq_iff_eq.mpr c4
     have c4b1 : (a0 != 2) = false := bne_eq_false_iff_eq.mpr c4
     clear c4
     have H' := Aside0.mk H
     clear H
     go_wp2
     go_meet
     case rel => exact ⟨_, ((a0 == 2)), (by first | rfl | (simp; done) | (simp [*]; done)), H', ⟨by first | omega | exact Nat.le_refl _⟩, by repeat (first | exact Drawn0.refl _ | apply Drawn0.step)⟩
   rw [if_neg c4] at H
   have c4b0 : (a0 == 2) = false := beq_eq_false_iff_ne.mpr c4
   have c4b1 : (a0 != 2) = true := bne_iff_ne.mpr c4
   by_cases c5 : a0 = 3
   · rw [if_pos c5] at H
     have c5b0 : (a0 == 3) = true := beq_iff_eq.mpr c5
     have c5b1 : (a0 != 3) = false := bne_eq_false_iff_eq.mpr c5
     clear c5
     have H' := Aside0.mk H
     clear H
     go_wp2
     go_meet
     case rel => exact ⟨_, ((a0 == 3)), (by first | rfl | (simp; done) | (simp [*]; done)), H', ⟨by first | omega | exact Nat.le_refl _⟩, by repeat (first | exact Drawn0.refl _ | apply Drawn0.step)⟩
   · rw [if_neg c5] at H
     have c5b0 : (a0 == 3) = false := beq_eq_false_iff_ne.mpr c5
     have c5b1 : (a0 != 3) = true := bne_iff_ne.mpr c5
     have H' := Aside0.mk H
     clear H
     go_wp2
     go_meet
     case rel => exact ⟨_, ((a0 == 4)), (by first | rfl | (simp; done) | (simp [*]; done)), H', ⟨by first | omega | exact Nat.le_refl _⟩, by repeat (first | exact Drawn0.refl _ | apply Drawn0.step)⟩
  case rest =>
   clear HC2
   obtain ⟨kq, x4_1, rfl, HA, HJ1, ⟨mc1, rfl⟩⟩ := hcut
   cases kq with
   | zero => exact absurd HA.out (by simp [impl_argsOf.j0])
   | succ kj1 =>
    have H := HA.out
    clear HA
    simp only [impl_argsOf.j0] at H
    by_cases c6 : x4_1 = true
    · subst c6
      have H1 : (some 0) = some r := by rw [if_pos rfl] at H; exact H
      clear H
      have H := H1
      clear H1
      obtain rfl := Option.some.inj H
      go_wp2
      go_ret
      exact ⟨by first | rfl | (simp; done) | (simp [*]; done), by repeat (first | exact Drawn0.refl _ | apply Drawn0.step)⟩
    · replace c6 := Bool.eq_false_iff.mpr c6
      subst c6
      have H1 : (if a0 = 8 then (impl_argsOf.j1 kj1 a0 (a0 == 8)) else (impl_argsOf.j1 kj1 a0 (a0 == 9))) = some r := by rw [if_neg (show ¬ (false = true) by decide)] at H; exact H
      clear H
      have H := H1
      clear H1
      have HC7 := Aside0.mk H
      clear H
      go_upto_if 9 with (fail)
      go_cut [9] (fun v9 wc => ∃ (kq : Nat) (x9_6 : Bool), v9 = .bool x9_6 ∧ Aside0 (impl_argsOf.j1 kq a0 x9_6 = some r) ∧ Aside0 (kq ≤ kj1) ∧ Drawn0 w wc)
      case first =>
       have H := HC7.out
       clear HC7
       by_cases c8 : a0 = 8
       · rw [if_pos c8] at H
         have c8b0 : (a0 == 8) = true := beq_iff_eq.mpr c8
         have c8b1 : (a0 != 8) = false := bne_eq_false_iff_eq.mpr c8
         clear c8
         (first | rw [c8b0] | (simp only [i64_w, i32_w]; rw [c8b0]) | skip)
         have H' := Aside0.mk H
         clear H
         go_wp2
         go_meet
         case rel => exact ⟨_, ((a0 == 8)), (by first | rfl | (simp; done) | (simp [*]; done)), H', ⟨by have := HJ1.out; first | omega | exact Nat.le_refl _⟩, by repeat (first | exact Drawn0.refl _ | apply Drawn0.step)⟩
       · rw [if_neg c8] at H
         have c8b0 : (a0 == 8) = false := beq_eq_false_iff_ne.mpr c8
         have c8b1 : (a0 != 8) = true := bne_iff_ne.mpr c8
         (first | rw [c8b0] | (simp only [i64_w, i32_w]; rw [c8b0]) | skip)
         have H' := Aside0.mk H
         clear H
         go_wp2
         go_meet
         case rel => exact ⟨_, ((a0 == 9)), (by first | rfl | (simp; done) | (simp [*]; done)), H', ⟨by have := HJ1.out; first | omega | exact Nat.le_refl _⟩, by repeat (first | exact Drawn0.refl _ | apply Drawn0.step)⟩
      case rest =>
       clear HC7
       try clear c6
       obtain ⟨kq, x9_6, rfl, HA, HJ6, ⟨mc6, rfl⟩⟩ := hcut
       cases kq with
       | zero => exact absurd HA.out (by simp [impl_argsOf.j1])
       | succ kj6 =>
        have H := HA.out
        clear HA
        simp only [impl_argsOf.j1] at H
        by_cases c9 : x9_6 = true
        subst c9
        have H1 : (some 1) = some r := by rw [if_pos rfl] at H; exact H
        clear H
        have H := H1
        clear H1
        rotate_left
        replace c9 := Bool.eq_false_iff.mpr c9
        subst c9
        have H1 : (if a0 = 5 then (some 2) else (if a0 = 6 then (some 2) else (if a0 = 7 then (some 2) else (some (-1))))) = some r := by rw [if_neg (show ¬ (false = true) by decide)] at H; exact H
        clear H
        have H := H1
        clear H1
        by_cases c10 : a0 = 5
        rw [if_pos c10] at H
        have c10b0 : (a0 == 5) = true := beq_iff_eq.mpr c10
        have c10b1 : (a0 != 5) = false := bne_eq_false_iff_eq.mpr c10
        clear c10
        rotate_left
        rw [if_neg c10] at H
        have c10b0 : (a0 == 5) = false := beq_eq_false_iff_ne.mpr c10
        have c10b1 : (a0 != 5) = true := bne_iff_ne.mpr c10
        by_cases c11 : a0 = 6
        rw [if_pos c11] at H
        have c11b0 : (a0 == 6) = true := beq_iff_eq.mpr c11
        have c11b1 : (a0 != 6) = false := bne_eq_false_iff_eq.mpr c11
        clear c11
        rotate_left
        rw [if_neg c11] at H
        have c11b0 : (a0 == 6) = false := beq_eq_false_iff_ne.mpr c11
        have c11b1 : (a0 != 6) = true := bne_iff_ne.mpr c11
        by_cases c12 : a0 = 7
        rw [if_pos c12] at H
        have c12b0 : (a0 == 7) = true := beq_iff_eq.mpr c12
        have c12b1 : (a0 != 7) = false := bne_eq_false_iff_eq.mpr c12
        clear c12
        rotate_left
        rw [if_neg c12] at H
        have c12b0 : (a0 == 7) = false := beq_eq_false_iff_ne.mpr c12
        have c12b1 : (a0 != 7) = true := bne_iff_ne.mpr c12
        rotate_left
        all_goals
         obtain rfl := Option.some.inj H
         go_wp2
         go_ret
         exact ⟨by first | rfl | (simp; done) | (simp [*]; done), by repeat (first | exact Drawn0.refl _ | apply Drawn0.step)⟩
/-! ### impl_nodesOf: function 79 -/
mutual
def impl_nodesOf.j0 : Nat → Int → Bool → Int → ByteArray → List (S35) → Option (Int)
  | 0, _, _, _, _, _ => none
  | k + 1, x1, x18, x79002000, x79002001, x79002002 => if x18 = true then (some 17) else (if x79002000 = 3 then (if (x79002001.size : Int) = 1 then ((impl_IsWord.f k x79002001).bind fun t79003 => (if t79003 = true then (impl_nodesOf.j1 k x1 x79002000 x79002001 x79002002) else (some 17))) else (some 17)) else (if x79002001.toList = ([] : List UInt8) then (impl_nodesOf.j1 k x1 x79002000 x79002001 x79002002) else (some 17)))
def impl_nodesOf.j1 : Nat → Int → Int → ByteArray → List (S35) → Option (Int)
  | 0, _, _, _, _ => none
  | k + 1, x1, x79002000, x79002001, x79002002 => impl_nodesOf.l0 k x1 1 x79002002 (x79002002.length : Int) 0
def impl_nodesOf.l0 : Nat → Int → Int → List (S35) → Int → Int → Option (Int)
  | 0, _, _, _, _, _ => none
  | k + 1, x1, x5, x36, x37, x38 => if x38 < x37 then (if 0 ≤ x38 then (if x38 < (x36.length : Int) then ((impl_nodesOf.f k ((rd_T35 x36 x38).f0) ((rd_T35 x36 x38).f1) ((rd_T35 x36 x38).f2) (wrap64 (x1 - 1))).bind fun t79006 => (impl_nodesOf.l0 k x1 (wrap64 (x5 + t79006)) x36 x37 (wrap64 (x38 + 1)))) else (none)) else (none)) else (some (mn x5 17))
def impl_nodesOf.f : Nat → Int → ByteArray → List (S35) → Int → Option (Int)
  | 0, _, _, _, _ => none
  | k + 1, a0_0, a0_1, l0_2, a1 => if a1 = 0 then (impl_nodesOf.j0 k a1 true a0_0 a0_1 l0_2) else ((impl_argsOf.f k a0_0).bind fun t79002 => (impl_nodesOf.j0 k a1 ((l0_2.length : Int) != t79002) a0_0 a0_1 l0_2))
end
theorem impl_nodesOf.mono_l : ∀ k, (∀ y0 y1 y2 y3, LeO (impl_nodesOf.f k y0 y1 y2 y3) (impl_nodesOf.f (k + 1) y0 y1 y2 y3)) ∧ (∀ y0 y1 y2 y3 y4, LeO (impl_nodesOf.j0 k y0 y1 y2 y3 y4) (impl_nodesOf.j0 (k + 1) y0 y1 y2 y3 y4)) ∧ (∀ y0 y1 y2 y3, LeO (impl_nodesOf.j1 k y0 y1 y2 y3) (impl_nodesOf.j1 (k + 1) y0 y1 y2 y3)) ∧ (∀ y0 y1 y2 y3 y4, LeO (impl_nodesOf.l0 k y0 y1 y2 y3 y4) (impl_nodesOf.l0 (k + 1) y0 y1 y2 y3 y4))
  | 0 => ⟨fun _ _ _ _ r h => by simp [impl_nodesOf.f] at h, fun _ _ _ _ _ r h => by simp [impl_nodesOf.j0] at h, fun _ _ _ _ r h => by simp [impl_nodesOf.j1] at h, fun _ _ _ _ _ r h => by simp [impl_nodesOf.l0] at h⟩
  | k + 1 => by
    obtain ⟨ih0, ih1, ih2, ih3⟩ := impl_nodesOf.mono_l k
    refine ⟨?_, ?_, ?_, ?_⟩
    · intro y0 y1 y2 y3
      unfold impl_nodesOf.f
      repeat' first
      | with_reducible first | exact ih0 _ _ _ _ | exact ih1 _ _ _ _ _ | exact ih2 _ _ _ _ | exact ih3 _ _ _ _ _ | exact impl_IsWord.mono _ _ | exact impl_argsOf.mono _ _ | exact LeO.refl _ | exact LeO.none _ | refine LeO.ite ?_ ?_ | refine LeO.bind ?_ (fun _ => ?_)
      | exact ih0 _ _ _ _ | exact ih1 _ _ _ _ _ | exact ih2 _ _ _ _ | exact ih3 _ _ _ _ _ | exact impl_IsWord.mono _ _ | exact impl_argsOf.mono _ _ | exact LeO.none _ | refine LeO.ite ?_ ?_ | refine LeO.bind ?_ (fun _ => ?_)
    · intro y0 y1 y2 y3 y4
      unfold impl_nodesOf.j0
      repeat' first
      | with_reducible first | exact ih0 _ _ _ _ | exact ih1 _ _ _ _ _ | exact ih2 _ _ _ _ | exact ih3 _ _ _ _ _ | exact impl_IsWord.mono _ _ | exact impl_argsOf.mono _ _ | exact LeO.refl _ | exact LeO.none _ | refine LeO.ite ?_ ?_ | refine LeO.bind ?_ (fun _ => ?_)
      | exact ih0 _ _ _ _ | exact ih1 _ _ _ _ _ | exact ih2 _ _ _ _ | exact ih3 _ _ _ _ _ | exact impl_IsWord.mono _ _ | exact impl_argsOf.mono _ _ | exact LeO.none _ | refine LeO.ite ?_ ?_ | refine LeO.bind ?_ (fun _ => ?_)
    · intro y0 y1 y2 y3
      unfold impl_nodesOf.j1
      repeat' first
      | with_reducible first | exact ih0 _ _ _ _ | exact ih1 _ _ _ _ _ | exact ih2 _ _ _ _ | exact ih3 _ _ _ _ _ | exact impl_IsWord.mono _ _ | exact impl_argsOf.mono _ _ | exact LeO.refl _ | exact LeO.none _ | refine LeO.ite ?_ ?_ | refine LeO.bind ?_ (fun _ => ?_)
      | exact ih0 _ _ _ _ | exact ih1 _ _ _ _ _ | exact ih2 _ _ _ _ | exact ih3 _ _ _ _ _ | exact impl_IsWord.mono _ _ | exact impl_argsOf.mono _ _ | exact LeO.none _ | refine LeO.ite ?_ ?_ | refine LeO.bind ?_ (fun _ => ?_)
    · intro y0 y1 y2 y3 y4
      unfold impl_nodesOf.l0
      repeat' first
      | with_reducible first | exact ih0 _ _ _ _ | exact ih1 _ _ _ _ _ | exact ih2 _ _ _ _ | exact ih3 _ _ _ _ _ | exact impl_IsWord.mono _ _ | exact impl_argsOf.mono _ _ | exact LeO.refl _ | exact LeO.none _ | refine LeO.ite ?_ ?_ | refine LeO.bind ?_ (fun _ => ?_)
      | exact ih0 _ _ _ _ | exact ih1 _ _ _ _ _ | exact ih2 _ _ _ _ | exact ih3 _ _ _ _ _ | exact impl_IsWord.mono _ _ | exact impl_argsOf.mono _ _ | exact LeO.none _ | refine LeO.ite ?_ ?_ | refine LeO.bind ?_ (fun _ => ?_)
theorem impl_nodesOf.mono : ∀ a0 a1 a2 a3 k, LeO (impl_nodesOf.f k a0 a1 a2 a3) (impl_nodesOf.f (k + 1) a0 a1 a2 a3) := by
  intro a0 a1 a2 a3 k
  obtain ⟨ih0, ih1, ih2, ih3⟩ := impl_nodesOf.mono_l k
  exact ih0 a0 a1 a2 a3
set_option maxHeartbeats 8000000 in
set_option maxRecDepth 100000 in
theorem impl_nodesOf.calls (k : Nat) : ∀ (a0_0 : Int) (a0_1 : ByteArray) (A0_2 : Option Addr) (c0_2 : Nat) (l0_2 : List (S35)) (a1 : Int) (r : Int) (w : World) (hr0_2 : Kd.C k35 w A0_2 l0_2.length l0_2) (hc0_2 : l0_2.length ≤ c0_2) (h : impl_nodesOf.f k a0_0 a0_1 l0_2 a1 = some r),
    Calls Try.prog 79 #[.agg #[.int .i64 a0_0, .string a0_1, .slice A0_2 l0_2.length c0_2], .int .i64 a1] w fun e w' => e = .returned (.int .i64 r) ∧ Below w.heap.size w w' := by
  induction k using Nat.strongRecOn with
  | _ k ih =>
  intro a0_0 a0_1 A0_2 c0_2 l0_2 a1 r w hr0_2 hc0_2 h
  cases k with
  | zero => exact absurd h (by simp [impl_nodesOf.f])
  | succ k =>
  simp only [impl_nodesOf.f] at h
  have hu35 := Try.underlying35
  have HR0_2 := Aside0.mk hr0_2
  have HC0_2 := Aside0.mk hc0_2
  clear hr0_2 hc0_2
  have HB := Aside0.mk (Below.refl w.heap.size w)
  have H : (if a1 = 0 then (impl_nodesOf.j0 k a1 true a0_0 a0_1 l0_2) else ((impl_argsOf.f k a0_0).bind fun t79002 => (impl_nodesOf.j0 k a1 ((l0_2.length : Int) != t79002) a0_0 a0_1 l0_2))) = some r := h
  clear h
  have HC3 := Aside0.mk H
  clear H
  go_enter Try.func79, Try.ntmps79
  go_upto_region 1 with (first | ((with_reducible refine gate_dst (N := 2) rfl ?_); (try (refine gate_guard (by rfl) ?_; dsimp only)); refine box_event ?hg (N := 2) ?hd (cs := #[.int .i64 a0_0, .string a0_1, .slice A0_2 l0_2.length c0_2]) (t := 35) ?hr ?_; (case hd => rfl); (case hg => rfl); (case hr => first | (go_simp; done) | (go_simp; rfl)); intro gb79001 hg w4 hbox hb; have n0_ := Aside0.mk (below_step (by repeat (first | (with_reducible first | exact HB.out | apply below_alloc | apply pw_below_drewN | apply below_drew1 | refine below_set ?_ (Aside0.out (by assumption))) | exact HB.out)) hb); have n1_ := Aside0.mk (hbox); have n2_ := Aside0.mk ((by rw [hg]; exact (below_size (by repeat (first | (with_reducible first | exact HB.out | apply below_alloc | apply pw_below_drewN | apply below_drew1 | refine below_set ?_ (Aside0.out (by assumption))) | exact HB.out))) : w.heap.size ≤ gb79001)); have n3_ := Aside0.mk ((by rw [hg]; exact (below_size (by repeat (first | (with_reducible first | exact HB.out | apply below_alloc | apply pw_below_drewN | apply below_drew1 | refine below_set ?_ (Aside0.out (by assumption))) | exact HB.out))) : w.heap.size ≤ gb79001)); clear HB; have HB := n0_; have BK79001 := n1_; have GW79001 := n2_; have GE79001 := n3_; clear n0_ n1_ n2_ n3_; clear hb hbox hg))
  repeat (go_quiet (first | ((with_reducible refine gate_dst (N := 2) rfl ?_); (try (refine gate_guard (by rfl) ?_; dsimp only)); refine box_event ?hg (N := 2) ?hd (cs := #[.int .i64 a0_0, .string a0_1, .slice A0_2 l0_2.length c0_2]) (t := 35) ?hr ?_; (case hd => rfl); (case hg => rfl); (case hr => first | (go_simp; done) | (go_simp; rfl)); intro gb79001 hg w4 hbox hb; have n0_ := Aside0.mk (below_step (by repeat (first | (with_reducible first | exact HB.out | apply below_alloc | apply pw_below_drewN | apply below_drew1 | refine below_set ?_ (Aside0.out (by assumption))) | exact HB.out)) hb); have n1_ := Aside0.mk (hbox); have n2_ := Aside0.mk ((by rw [hg]; exact (below_size (by repeat (first | (with_reducible first | exact HB.out | apply below_alloc | apply pw_below_drewN | apply below_drew1 | refine below_set ?_ (Aside0.out (by assumption))) | exact HB.out))) : w.heap.size ≤ gb79001)); have n3_ := Aside0.mk ((by rw [hg]; exact (below_size (by repeat (first | (with_reducible first | exact HB.out | apply below_alloc | apply pw_below_drewN | apply below_drew1 | refine below_set ?_ (Aside0.out (by assumption))) | exact HB.out))) : w.heap.size ≤ gb79001)); clear HB; have HB := n0_; have BK79001 := n1_; have GW79001 := n2_; have GE79001 := n3_; clear n0_ n1_ n2_ n3_; clear hb hbox hg)); go_upto_region 1 with (first | ((with_reducible refine gate_dst (N := 2) rfl ?_); (try (refine gate_guard (by rfl) ?_; dsimp only)); refine box_event ?hg (N := 2) ?hd (cs := #[.int .i64 a0_0, .string a0_1, .slice A0_2 l0_2.length c0_2]) (t := 35) ?hr ?_; (case hd => rfl); (case hg => rfl); (case hr => first | (go_simp; done) | (go_simp; rfl)); intro gb79001 hg w4 hbox hb; have n0_ := Aside0.mk (below_step (by repeat (first | (with_reducible first | exact HB.out | apply below_alloc | apply pw_below_drewN | apply below_drew1 | refine below_set ?_ (Aside0.out (by assumption))) | exact HB.out)) hb); have n1_ := Aside0.mk (hbox); have n2_ := Aside0.mk ((by rw [hg]; exact (below_size (by repeat (first | (with_reducible first | exact HB.out | apply below_alloc | apply pw_below_drewN | apply below_drew1 | refine below_set ?_ (Aside0.out (by assumption))) | exact HB.out))) : w.heap.size ≤ gb79001)); have n3_ := Aside0.mk ((by rw [hg]; exact (below_size (by repeat (first | (with_reducible first | exact HB.out | apply below_alloc | apply pw_below_drewN | apply below_drew1 | refine below_set ?_ (Aside0.out (by assumption))) | exact HB.out))) : w.heap.size ≤ gb79001)); clear HB; have HB := n0_; have BK79001 := n1_; have GW79001 := n2_; have GE79001 := n3_; clear n0_ n1_ n2_ n3_; clear hb hbox hg)))
  (try simp only [Act.put, List.setIfInBounds_toArray, List.set_cons_zero, List.set_cons_succ])
  go_cut [18] (fun v18 wc => ∃ (kq : Nat) (x18_2 : Bool), v18 = .bool x18_2 ∧ Aside0 (impl_nodesOf.j0 kq a1 x18_2 a0_0 a0_1 l0_2 = some r) ∧ Aside0 (kq ≤ k) ∧ Aside0 (wc.heap[gb79001]? = some (.cells #[.int .i64 a0_0, .string a0_1, (.slice A0_2 l0_2.length c0_2)] 35 (0, 0))) ∧ Aside0 (Below w.heap.size w wc))
  case first =>
   have H := HC3.out
   clear HC3
   by_cases c5 : a1 = 0
   · rw [if_pos c5] at H
     have c5b0 : (a1 == 0) = true := beq_iff_eq.mpr c5
     have c5b1 : (a1 != 0) = false := bne_eq_false_iff_eq.mpr c5
     clear c5
     (first | rw [c5b0] | (simp only [i64_w, i32_w]; rw [c5b0]) | skip)
     have H' := Aside0.mk H
     clear H
     go_wp2
     repeat (go_quiet (fail); try go_wp2)
     go_meet
     case rel => exact ⟨_, (true), (by first | rfl | (simp; done) | (simp [*]; done)), H', ⟨by first | omega | exact Nat.le_refl _⟩, ⟨by (with_reducible repeat (first | refine blk_drewN ?_ _ | refine blk_drew ?_ | refine blk_alloc ?_ _)); exact BK79001.out⟩, ⟨by repeat (first | (with_reducible first | exact HB.out | apply below_alloc | apply pw_below_drewN | apply below_drew1 | refine below_set ?_ (Aside0.out (by assumption))) | exact HB.out)⟩⟩
   · rw [if_neg c5] at H
     have c5b0 : (a1 == 0) = false := beq_eq_false_iff_ne.mpr c5
     have c5b1 : (a1 != 0) = true := bne_iff_ne.mpr c5
     (first | rw [c5b0] | (simp only [i64_w, i32_w]; rw [c5b0]) | skip)
     replace H := Option.bind_eq_some_iff.mp H
     obtain ⟨t79002, A60, H⟩ := H
     replace H : (impl_nodesOf.j0 k a1 ((l0_2.length : Int) != t79002) a0_0 a0_1 l0_2) = some r := H
     have A6 := Aside0.mk A60
     clear A60
     have H' := Aside0.mk H
     clear H
     obtain ⟨hcz7_0, hcz7_1, hcz7_2, hfz7_0, hfz7_1, hfz7_2⟩ := blk3 BK79001.out
     go_wp2_with (first | (go_at_call 93; (with_reducible refine (impl_argsOf.calls k a0_0 t79002 _ A6.out).mono ?_); rintro e w' ⟨rfl, ⟨nd, rfl⟩⟩; (try first | exact ⟨rfl, _, World.drewN_drewN _ _ _⟩ | exact ⟨rfl, _, Eq.trans (World.drewN_drewN _ _ _) (congrArg (World.drewN _) (Nat.add_assoc _ _ _))⟩)))
     repeat (go_quiet (first | (go_at_call 93; (with_reducible refine (impl_argsOf.calls k a0_0 t79002 _ A6.out).mono ?_); rintro e w' ⟨rfl, ⟨nd, rfl⟩⟩; (try first | exact ⟨rfl, _, World.drewN_drewN _ _ _⟩ | exact ⟨rfl, _, Eq.trans (World.drewN_drewN _ _ _) (congrArg (World.drewN _) (Nat.add_assoc _ _ _))⟩))); try go_wp2_with (first | (go_at_call 93; (with_reducible refine (impl_argsOf.calls k a0_0 t79002 _ A6.out).mono ?_); rintro e w' ⟨rfl, ⟨nd, rfl⟩⟩; (try first | exact ⟨rfl, _, World.drewN_drewN _ _ _⟩ | exact ⟨rfl, _, Eq.trans (World.drewN_drewN _ _ _) (congrArg (World.drewN _) (Nat.add_assoc _ _ _))⟩))))
     go_meet
     case rel => exact ⟨_, (((l0_2.length : Int) != t79002)), (by first | rfl | (simp; done) | (simp [*]; done)), H', ⟨by first | omega | exact Nat.le_refl _⟩, ⟨by (with_reducible repeat (first | refine blk_drewN ?_ _ | refine blk_drew ?_ | refine blk_alloc ?_ _)); exact BK79001.out⟩, ⟨by repeat (first | (with_reducible first | exact HB.out | apply below_alloc | apply pw_below_drewN | apply below_drew1 | refine below_set ?_ (Aside0.out (by assumption))) | exact HB.out)⟩⟩
  case rest =>
   clear HC3
   obtain ⟨kq, x18_2, rfl, HA, HJ2, BK79001, HB⟩ := hcut
   cases kq with
   | zero => exact absurd HA.out (by simp [impl_nodesOf.j0])
   | succ kj2 =>
    have H := HA.out
    clear HA
    simp only [impl_nodesOf.j0] at H
    by_cases c8 : x18_2 = true
    · subst c8
      have H1 : (some 17) = some r := by rw [if_pos rfl] at H; exact H
      clear H
      have H := H1
      clear H1
      obtain rfl := Option.some.inj H
      go_wp2
      repeat (go_quiet (fail); try go_wp2)
      go_ret
      exact ⟨by first | rfl | (simp [errW_none, errW_some] <;> rfl) | (simp [*, errW_none, errW_some] <;> rfl), by repeat (first | (with_reducible first | exact HB.out | apply below_alloc | apply pw_below_drewN | apply below_drew1 | refine below_set ?_ (Aside0.out (by assumption))) | exact HB.out)⟩
    · replace c8 := Bool.eq_false_iff.mpr c8
      subst c8
      have H1 : (if a0_0 = 3 then (if (a0_1.size : Int) = 1 then ((impl_IsWord.f kj2 a0_1).bind fun t79003 => (if t79003 = true then (impl_nodesOf.j1 kj2 a1 a0_0 a0_1 l0_2) else (some 17))) else (some 17)) else (if a0_1.toList = ([] : List UInt8) then (impl_nodesOf.j1 kj2 a1 a0_0 a0_1 l0_2) else (some 17))) = some r := by rw [if_neg (show ¬ (false = true) by decide)] at H; exact H
      clear H
      have H := H1
      clear H1
      have HC9 := Aside0.mk H
      clear H
      obtain ⟨hcz10_0, hcz10_1, hcz10_2, hfz10_0, hfz10_1, hfz10_2⟩ := blk3 BK79001.out
      go_upto_if 21 with (fail)
      repeat (go_quiet (fail); go_upto_if 21 with (fail))
      go_cut [] (fun wc => ∃ (kq : Nat), Aside0 (impl_nodesOf.j1 kq a1 a0_0 a0_1 l0_2 = some r) ∧ Aside0 (kq ≤ kj2) ∧ Aside0 (wc.heap[gb79001]? = some (.cells #[.int .i64 a0_0, .string a0_1, (.slice A0_2 l0_2.length c0_2)] 35 (0, 0))) ∧ Aside0 (Below w.heap.size w wc))
      case first =>
       have H := HC9.out
       clear HC9
       by_cases c11 : a0_0 = 3
       rw [if_pos c11] at H
       have c11b0 : (a0_0 == 3) = true := beq_iff_eq.mpr c11
       have c11b1 : (a0_0 != 3) = false := bne_eq_false_iff_eq.mpr c11
       clear c11
       (first | rw [c11b0] | (simp only [i64_w, i32_w]; rw [c11b0]) | skip)
       by_cases c12 : (a0_1.size : Int) = 1
       rw [if_pos c12] at H
       have c12b0 : ((a0_1.size : Int) == 1) = true := beq_iff_eq.mpr c12
       have c12b1 : ((a0_1.size : Int) != 1) = false := bne_eq_false_iff_eq.mpr c12
       clear c12
       replace H := Option.bind_eq_some_iff.mp H
       obtain ⟨t79003, A130, H⟩ := H
       replace H : (if t79003 = true then (impl_nodesOf.j1 kj2 a1 a0_0 a0_1 l0_2) else (some 17)) = some r := H
       have A13 := Aside0.mk A130
       clear A130
       by_cases c14 : t79003 = true
       subst c14
       have H1 : (impl_nodesOf.j1 kj2 a1 a0_0 a0_1 l0_2) = some r := by rw [if_pos rfl] at H; exact H
       clear H
       have H := H1
       clear H1
       have H' := Aside0.mk H
       clear H
       have fin0_ := Aside0.mk trivial
       rotate_left
       replace c14 := Bool.eq_false_iff.mpr c14
       subst c14
       have H1 : (some 17) = some r := by rw [if_neg (show ¬ (false = true) by decide)] at H; exact H
       clear H
       have H := H1
       clear H1
       obtain rfl := Option.some.inj H
       have fin1_ := Aside0.mk trivial
       rotate_left
       rw [if_neg c12] at H
       have c12b0 : ((a0_1.size : Int) == 1) = false := beq_eq_false_iff_ne.mpr c12
       have c12b1 : ((a0_1.size : Int) != 1) = true := bne_iff_ne.mpr c12
       obtain rfl := Option.some.inj H
       have fin1_ := Aside0.mk trivial
       rotate_left
       rw [if_neg c11] at H
       have c11b0 : (a0_0 == 3) = false := beq_eq_false_iff_ne.mpr c11
       have c11b1 : (a0_0 != 3) = true := bne_iff_ne.mpr c11
       (first | rw [c11b0] | (simp only [i64_w, i32_w]; rw [c11b0]) | skip)
       by_cases c18 : a0_1.toList = ([] : List UInt8)
       rw [if_pos c18] at H
       have c18b0 : (a0_1.toList == ([] : List UInt8)) = true := beq_iff_eq.mpr c18
       have c18b1 : (a0_1.toList != ([] : List UInt8)) = false := bne_eq_false_iff_eq.mpr c18
       clear c18
       have H' := Aside0.mk H
       clear H
       have fin0_ := Aside0.mk trivial
       rotate_left
       rw [if_neg c18] at H
       have c18b0 : (a0_1.toList == ([] : List UInt8)) = false := beq_eq_false_iff_ne.mpr c18
       have c18b1 : (a0_1.toList != ([] : List UInt8)) = true := bne_iff_ne.mpr c18
       obtain rfl := Option.some.inj H
       have fin1_ := Aside0.mk trivial
       rotate_left
       all_goals
        obtain ⟨hcz15_0, hcz15_1, hcz15_2, hfz15_0, hfz15_1, hfz15_2⟩ := blk3 BK79001.out
        go_wp2_with ((go_at_call 58; (with_reducible refine (impl_IsWord.calls kj2 a0_1 _ _ A13.out).mono ?_); rintro e w' ⟨rfl, ⟨nd, rfl⟩⟩; (try first | exact ⟨rfl, _, World.drewN_drewN _ _ _⟩ | exact ⟨rfl, _, Eq.trans (World.drewN_drewN _ _ _) (congrArg (World.drewN _) (Nat.add_assoc _ _ _))⟩)))
        repeat (go_quiet ((go_at_call 58; (with_reducible refine (impl_IsWord.calls kj2 a0_1 _ _ A13.out).mono ?_); rintro e w' ⟨rfl, ⟨nd, rfl⟩⟩; (try first | exact ⟨rfl, _, World.drewN_drewN _ _ _⟩ | exact ⟨rfl, _, Eq.trans (World.drewN_drewN _ _ _) (congrArg (World.drewN _) (Nat.add_assoc _ _ _))⟩))); try go_wp2_with ((go_at_call 58; (with_reducible refine (impl_IsWord.calls kj2 a0_1 _ _ A13.out).mono ?_); rintro e w' ⟨rfl, ⟨nd, rfl⟩⟩; (try first | exact ⟨rfl, _, World.drewN_drewN _ _ _⟩ | exact ⟨rfl, _, Eq.trans (World.drewN_drewN _ _ _) (congrArg (World.drewN _) (Nat.add_assoc _ _ _))⟩))))
        first
        | (clear fin0_
           go_meet
           case rel => exact ⟨_, H', ⟨by have := HJ2.out; first | omega | exact Nat.le_refl _⟩, ⟨by (with_reducible repeat (first | refine blk_drewN ?_ _ | refine blk_drew ?_ | refine blk_alloc ?_ _)); exact BK79001.out⟩, ⟨by repeat (first | (with_reducible first | exact HB.out | apply below_alloc | apply pw_below_drewN | apply below_drew1 | refine below_set ?_ (Aside0.out (by assumption))) | exact HB.out)⟩⟩)
        | (clear fin1_
           go_ret
           exact ⟨by first | rfl | (simp [errW_none, errW_some] <;> rfl) | (simp [*, errW_none, errW_some] <;> rfl), by repeat (first | (with_reducible first | exact HB.out | apply below_alloc | apply pw_below_drewN | apply below_drew1 | refine below_set ?_ (Aside0.out (by assumption))) | exact HB.out)⟩)
      case rest =>
       clear HC9
       try clear c8
       try clear hcz10_0
       try clear hcz10_1
       try clear hcz10_2
       try clear hfz10_0
       try clear hfz10_1
       try clear hfz10_2
       obtain ⟨kq, HA, HJ8, BK79001, HB⟩ := hcut
       cases kq with
       | zero => exact absurd HA.out (by simp [impl_nodesOf.j1])
       | succ kj8 =>
        have H := HA.out
        clear HA
        simp only [impl_nodesOf.j1] at H
        have H' := Aside0.mk H
        clear H
        obtain ⟨hcz21_0, hcz21_1, hcz21_2, hfz21_0, hfz21_1, hfz21_2⟩ := blk3 BK79001.out
        go_wp2
        repeat (go_quiet (fail); try go_wp2)
        first | go_loopg [5, 38] kj8 (fun kq v5 v38 w' => ∃ (x5_3 : Int) (x38_3 : Int), v5 = .int .i64 x5_3 ∧ v38 = .int .i64 x38_3 ∧ Aside0 (impl_nodesOf.l0 kq a1 x5_3 l0_2 (l0_2.length : Int) x38_3 = some r) ∧ Aside0 (kq ≤ kj8) ∧ Aside0 (w'.heap[gb79001]? = some (.cells #[.int .i64 a0_0, .string a0_1, (.slice A0_2 l0_2.length c0_2)] 35 (0, 0))) ∧ Aside0 (Below w.heap.size w w')) | (simp only [Act.put, List.setIfInBounds_toArray, List.set_cons_succ, List.set_cons_zero]; go_loopg [5, 38] kj8 (fun kq v5 v38 w' => ∃ (x5_3 : Int) (x38_3 : Int), v5 = .int .i64 x5_3 ∧ v38 = .int .i64 x38_3 ∧ Aside0 (impl_nodesOf.l0 kq a1 x5_3 l0_2 (l0_2.length : Int) x38_3 = some r) ∧ Aside0 (kq ≤ kj8) ∧ Aside0 (w'.heap[gb79001]? = some (.cells #[.int .i64 a0_0, .string a0_1, (.slice A0_2 l0_2.length c0_2)] 35 (0, 0))) ∧ Aside0 (Below w.heap.size w w')))
        case atStart => exact ⟨(1), (0), (by first | rfl | (simp; done) | (simp [*]; done)), (by first | rfl | (simp; done) | (simp [*]; done)), H', ⟨Nat.le_refl _⟩, ⟨by (with_reducible repeat (first | refine blk_drewN ?_ _ | refine blk_drew ?_ | refine blk_alloc ?_ _)); exact BK79001.out⟩, ⟨by repeat (first | (with_reducible first | exact HB.out | apply below_alloc | apply pw_below_drewN | apply below_drew1 | refine below_set ?_ (Aside0.out (by assumption))) | exact HB.out)⟩⟩
        case round =>
         clear H'
         try clear c8
         try clear hcz10_0
         try clear hcz10_1
         try clear hcz10_2
         try clear hcz21_0
         try clear hcz21_1
         try clear hcz21_2
         try clear hfz10_0
         try clear hfz10_1
         try clear hfz10_2
         try clear hfz21_0
         try clear hfz21_1
         try clear hfz21_2
         obtain ⟨x5_3, x38_3, rfl, rfl, HA, HK3, BK79001, HB⟩ := hrel
         cases gk with
         | zero => exact absurd HA.out (by simp [impl_nodesOf.l0])
         | succ k3 =>
          have H := HA.out
          clear HA
          simp only [impl_nodesOf.l0] at H
          by_cases c22 : x38_3 < (l0_2.length : Int)
          rw [if_pos c22] at H
          have c22b0 : decide (x38_3 < (l0_2.length : Int)) = true := decide_eq_true c22
          clear c22
          by_cases c23 : 0 ≤ x38_3
          rw [if_pos c23] at H
          have c23b0 : decide (0 ≤ x38_3) = true := decide_eq_true c23
          clear c23
          by_cases c24 : x38_3 < (l0_2.length : Int)
          · rw [if_pos c24] at H
            have c24b0 : decide (x38_3 < (l0_2.length : Int)) = true := decide_eq_true c24
            clear c24
            replace H := Option.bind_eq_some_iff.mp H
            obtain ⟨t79006, A250, H⟩ := H
            replace H : (impl_nodesOf.l0 k3 a1 (wrap64 (x5_3 + t79006)) l0_2 (l0_2.length : Int) (wrap64 (x38_3 + 1))) = some r := H
            have A25 := Aside0.mk A250
            clear A250
            have H' := Aside0.mk H
            clear H
            have p79004 : 0 ≤ (x38_3 : Int) := of_decide_eq_true (by first | (with_reducible assumption) | assumption)
            have q79004 : x38_3 < (l0_2.length : Int) := of_decide_eq_true (by first | (with_reducible assumption) | assumption)
            obtain ⟨ad79004, A79004_2, c79004_2, e79004, hx79004_0, hx79004_1, hx79004_2, hl79004_2, hi79004_2⟩ := at_T35 HR0_2.out x38_3 p79004 q79004
            cases e79004
            replace hx79004_0 := (HB.out.cell (World.block_lt_of_cell? w _ hx79004_0)).trans hx79004_0
            replace hx79004_1 := (HB.out.cell (World.block_lt_of_cell? w _ hx79004_1)).trans hx79004_1
            replace hx79004_2 := (HB.out.cell (World.block_lt_of_cell? w _ hx79004_2)).trans hx79004_2
            have HR79004_2 := Aside0.mk hi79004_2
            have HC79004_2 := Aside0.mk hl79004_2
            clear hi79004_2 hl79004_2
            replace p79004 := eq_true p79004
            replace q79004 := eq_true q79004
            go_wp2_with (first | ((with_reducible refine gate_dst (N := 7) rfl ?_); (try (refine gate_guard (by rfl) ?_; dsimp only)); refine box_event ?hg (N := 7) ?hd (cs := #[.int .i64 0, .string (⟨#[]⟩ : ByteArray), .slice none 0 0]) (t := 35) ?hr ?_; (case hd => rfl); (case hg => rfl); (case hr => first | (go_simp; done) | (go_simp; rfl)); intro gb79005 hg w26 hbox hb; have n0_ := Aside0.mk (blk_below (g := gb79001) (o := .cells #[.int .i64 a0_0, .string a0_1, .slice (some ad79004) l0_2.length c0_2] 35 (0, 0)) (by (with_reducible repeat (first | refine blk_drewN ?_ _ | refine blk_drew ?_ | refine blk_alloc ?_ _)); exact BK79001.out) hb); have n1_ := Aside0.mk (below_step (by repeat (first | (with_reducible first | exact HB.out | apply below_alloc | apply pw_below_drewN | apply below_drew1 | refine below_set ?_ (Aside0.out (by assumption))) | exact HB.out)) hb); have n2_ := Aside0.mk (hbox); have n3_ := Aside0.mk ((by rw [hg]; exact (below_size (by repeat (first | (with_reducible first | exact HB.out | apply below_alloc | apply pw_below_drewN | apply below_drew1 | refine below_set ?_ (Aside0.out (by assumption))) | exact HB.out))) : w.heap.size ≤ gb79005)); have n4_ := Aside0.mk ((by rw [hg]; exact (below_size (by repeat (first | (with_reducible first | exact HB.out | apply below_alloc | apply pw_below_drewN | apply below_drew1 | refine below_set ?_ (Aside0.out (by assumption))) | exact HB.out))) : w.heap.size ≤ gb79005)); have n5_ := Aside0.mk ((by rw [hg]; exact Nat.ne_of_lt (blk_lt (g := gb79001) (o := .cells #[.int .i64 a0_0, .string a0_1, .slice (some ad79004) l0_2.length c0_2] 35 (0, 0)) (by (with_reducible repeat (first | refine blk_drewN ?_ _ | refine blk_drew ?_ | refine blk_alloc ?_ _)); exact BK79001.out)) : gb79001 ≠ gb79005)); have n6_ := Aside0.mk ((by rw [hg]; exact Nat.ne_of_gt (blk_lt (g := gb79001) (o := .cells #[.int .i64 a0_0, .string a0_1, .slice (some ad79004) l0_2.length c0_2] 35 (0, 0)) (by (with_reducible repeat (first | refine blk_drewN ?_ _ | refine blk_drew ?_ | refine blk_alloc ?_ _)); exact BK79001.out)) : gb79005 ≠ gb79001)); clear BK79001; clear HB; have BK79001 := n0_; have HB := n1_; have BK79005 := n2_; have GW79005 := n3_; have GE79005 := n4_; have NB79001_79005 := n5_; have NB79005_79001 := n6_; clear n0_ n1_ n2_ n3_ n4_ n5_ n6_; clear hb hbox hg; have hnb27 := NB79005_79001.out; have hnc27 := NB79001_79005.out; obtain ⟨hcz28_0, hcz28_1, hcz28_2, hfz28_0, hfz28_1, hfz28_2⟩ := blk3 BK79005.out) | (go_at_call 79; (with_reducible refine (ih k3 (by have := HJ2.out; have := HJ8.out; have := HK3.out; omega) ((rd_T35 l0_2 x38_3).f0) ((rd_T35 l0_2 x38_3).f1) _ _ ((rd_T35 l0_2 x38_3).f2) (wrap64 (a1 - 1)) t79006 _ ?side1 ?side2 A25.out).mono ?_); (case side1 => exact Kd.C_below HR79004_2.out (by repeat (first | (with_reducible first | exact HB.out | apply below_alloc | apply pw_below_drewN | apply below_drew1 | refine below_set ?_ (Aside0.out (by assumption))) | exact HB.out))); (case side2 => exact HC79004_2.out); rintro e w29 ⟨rfl, hb⟩; have n0_ := Aside0.mk (blk_below (g := gb79001) (o := .cells #[.int .i64 a0_0, .string a0_1, .slice (some ad79004) l0_2.length c0_2] 35 (0, 0)) (by (with_reducible repeat (first | refine blk_drewN ?_ _ | refine blk_drew ?_ | refine blk_alloc ?_ _)); refine blk_far ?_ NB79001_79005.out _; (with_reducible repeat (first | refine blk_drewN ?_ _ | refine blk_drew ?_ | refine blk_alloc ?_ _)); refine blk_far ?_ NB79001_79005.out _; (with_reducible repeat (first | refine blk_drewN ?_ _ | refine blk_drew ?_ | refine blk_alloc ?_ _)); refine blk_far ?_ NB79001_79005.out _; (with_reducible repeat (first | refine blk_drewN ?_ _ | refine blk_drew ?_ | refine blk_alloc ?_ _)); exact BK79001.out) hb); have n1_ := Aside0.mk (blk_below (g := gb79005) (o := .cells #[.int .i64 ((rd_T35 l0_2 x38_3).f0), .string ((rd_T35 l0_2 x38_3).f1), .slice A79004_2 ((rd_T35 l0_2 x38_3).f2).length c79004_2] 35 (0, 0)) (by (with_reducible repeat (first | refine blk_drewN ?_ _ | refine blk_drew ?_ | refine blk_alloc ?_ _)); refine blk_put (cs := #[.int .i64 ((rd_T35 l0_2 x38_3).f0), .string ((rd_T35 l0_2 x38_3).f1), .slice none 0 0]) ?_ 2 _ rfl; (with_reducible repeat (first | refine blk_drewN ?_ _ | refine blk_drew ?_ | refine blk_alloc ?_ _)); refine blk_put (cs := #[.int .i64 ((rd_T35 l0_2 x38_3).f0), .string (⟨#[]⟩ : ByteArray), .slice none 0 0]) ?_ 1 _ rfl; (with_reducible repeat (first | refine blk_drewN ?_ _ | refine blk_drew ?_ | refine blk_alloc ?_ _)); refine blk_put (cs := #[.int .i64 0, .string (⟨#[]⟩ : ByteArray), .slice none 0 0]) ?_ 0 _ rfl; (with_reducible repeat (first | refine blk_drewN ?_ _ | refine blk_drew ?_ | refine blk_alloc ?_ _)); exact BK79005.out) hb); have n2_ := Aside0.mk (below_step (by repeat (first | (with_reducible first | exact HB.out | apply below_alloc | apply pw_below_drewN | apply below_drew1 | refine below_set ?_ (Aside0.out (by assumption))) | exact HB.out)) hb); clear BK79001; clear BK79005; clear HB; have BK79001 := n0_; have BK79005 := n1_; have HB := n2_; clear n0_ n1_ n2_; (try clear hb); (try clear hb2); (try clear hk); (try clear hi)))
            repeat (go_quiet (first | ((with_reducible refine gate_dst (N := 7) rfl ?_); (try (refine gate_guard (by rfl) ?_; dsimp only)); refine box_event ?hg (N := 7) ?hd (cs := #[.int .i64 0, .string (⟨#[]⟩ : ByteArray), .slice none 0 0]) (t := 35) ?hr ?_; (case hd => rfl); (case hg => rfl); (case hr => first | (go_simp; done) | (go_simp; rfl)); intro gb79005 hg w26 hbox hb; have n0_ := Aside0.mk (blk_below (g := gb79001) (o := .cells #[.int .i64 a0_0, .string a0_1, .slice (some ad79004) l0_2.length c0_2] 35 (0, 0)) (by (with_reducible repeat (first | refine blk_drewN ?_ _ | refine blk_drew ?_ | refine blk_alloc ?_ _)); exact BK79001.out) hb); have n1_ := Aside0.mk (below_step (by repeat (first | (with_reducible first | exact HB.out | apply below_alloc | apply pw_below_drewN | apply below_drew1 | refine below_set ?_ (Aside0.out (by assumption))) | exact HB.out)) hb); have n2_ := Aside0.mk (hbox); have n3_ := Aside0.mk ((by rw [hg]; exact (below_size (by repeat (first | (with_reducible first | exact HB.out | apply below_alloc | apply pw_below_drewN | apply below_drew1 | refine below_set ?_ (Aside0.out (by assumption))) | exact HB.out))) : w.heap.size ≤ gb79005)); have n4_ := Aside0.mk ((by rw [hg]; exact (below_size (by repeat (first | (with_reducible first | exact HB.out | apply below_alloc | apply pw_below_drewN | apply below_drew1 | refine below_set ?_ (Aside0.out (by assumption))) | exact HB.out))) : w.heap.size ≤ gb79005)); have n5_ := Aside0.mk ((by rw [hg]; exact Nat.ne_of_lt (blk_lt (g := gb79001) (o := .cells #[.int .i64 a0_0, .string a0_1, .slice (some ad79004) l0_2.length c0_2] 35 (0, 0)) (by (with_reducible repeat (first | refine blk_drewN ?_ _ | refine blk_drew ?_ | refine blk_alloc ?_ _)); exact BK79001.out)) : gb79001 ≠ gb79005)); have n6_ := Aside0.mk ((by rw [hg]; exact Nat.ne_of_gt (blk_lt (g := gb79001) (o := .cells #[.int .i64 a0_0, .string a0_1, .slice (some ad79004) l0_2.length c0_2] 35 (0, 0)) (by (with_reducible repeat (first | refine blk_drewN ?_ _ | refine blk_drew ?_ | refine blk_alloc ?_ _)); exact BK79001.out)) : gb79005 ≠ gb79001)); clear BK79001; clear HB; have BK79001 := n0_; have HB := n1_; have BK79005 := n2_; have GW79005 := n3_; have GE79005 := n4_; have NB79001_79005 := n5_; have NB79005_79001 := n6_; clear n0_ n1_ n2_ n3_ n4_ n5_ n6_; clear hb hbox hg; have hnb27 := NB79005_79001.out; have hnc27 := NB79001_79005.out; obtain ⟨hcz28_0, hcz28_1, hcz28_2, hfz28_0, hfz28_1, hfz28_2⟩ := blk3 BK79005.out) | (go_at_call 79; (with_reducible refine (ih k3 (by have := HJ2.out; have := HJ8.out; have := HK3.out; omega) ((rd_T35 l0_2 x38_3).f0) ((rd_T35 l0_2 x38_3).f1) _ _ ((rd_T35 l0_2 x38_3).f2) (wrap64 (a1 - 1)) t79006 _ ?side1 ?side2 A25.out).mono ?_); (case side1 => exact Kd.C_below HR79004_2.out (by repeat (first | (with_reducible first | exact HB.out | apply below_alloc | apply pw_below_drewN | apply below_drew1 | refine below_set ?_ (Aside0.out (by assumption))) | exact HB.out))); (case side2 => exact HC79004_2.out); rintro e w29 ⟨rfl, hb⟩; have n0_ := Aside0.mk (blk_below (g := gb79001) (o := .cells #[.int .i64 a0_0, .string a0_1, .slice (some ad79004) l0_2.length c0_2] 35 (0, 0)) (by (with_reducible repeat (first | refine blk_drewN ?_ _ | refine blk_drew ?_ | refine blk_alloc ?_ _)); refine blk_far ?_ NB79001_79005.out _; (with_reducible repeat (first | refine blk_drewN ?_ _ | refine blk_drew ?_ | refine blk_alloc ?_ _)); refine blk_far ?_ NB79001_79005.out _; (with_reducible repeat (first | refine blk_drewN ?_ _ | refine blk_drew ?_ | refine blk_alloc ?_ _)); refine blk_far ?_ NB79001_79005.out _; (with_reducible repeat (first | refine blk_drewN ?_ _ | refine blk_drew ?_ | refine blk_alloc ?_ _)); exact BK79001.out) hb); have n1_ := Aside0.mk (blk_below (g := gb79005) (o := .cells #[.int .i64 ((rd_T35 l0_2 x38_3).f0), .string ((rd_T35 l0_2 x38_3).f1), .slice A79004_2 ((rd_T35 l0_2 x38_3).f2).length c79004_2] 35 (0, 0)) (by (with_reducible repeat (first | refine blk_drewN ?_ _ | refine blk_drew ?_ | refine blk_alloc ?_ _)); refine blk_put (cs := #[.int .i64 ((rd_T35 l0_2 x38_3).f0), .string ((rd_T35 l0_2 x38_3).f1), .slice none 0 0]) ?_ 2 _ rfl; (with_reducible repeat (first | refine blk_drewN ?_ _ | refine blk_drew ?_ | refine blk_alloc ?_ _)); refine blk_put (cs := #[.int .i64 ((rd_T35 l0_2 x38_3).f0), .string (⟨#[]⟩ : ByteArray), .slice none 0 0]) ?_ 1 _ rfl; (with_reducible repeat (first | refine blk_drewN ?_ _ | refine blk_drew ?_ | refine blk_alloc ?_ _)); refine blk_put (cs := #[.int .i64 0, .string (⟨#[]⟩ : ByteArray), .slice none 0 0]) ?_ 0 _ rfl; (with_reducible repeat (first | refine blk_drewN ?_ _ | refine blk_drew ?_ | refine blk_alloc ?_ _)); exact BK79005.out) hb); have n2_ := Aside0.mk (below_step (by repeat (first | (with_reducible first | exact HB.out | apply below_alloc | apply pw_below_drewN | apply below_drew1 | refine below_set ?_ (Aside0.out (by assumption))) | exact HB.out)) hb); clear BK79001; clear BK79005; clear HB; have BK79001 := n0_; have BK79005 := n1_; have HB := n2_; clear n0_ n1_ n2_; (try clear hb); (try clear hb2); (try clear hk); (try clear hi))); try go_wp2_with (first | ((with_reducible refine gate_dst (N := 7) rfl ?_); (try (refine gate_guard (by rfl) ?_; dsimp only)); refine box_event ?hg (N := 7) ?hd (cs := #[.int .i64 0, .string (⟨#[]⟩ : ByteArray), .slice none 0 0]) (t := 35) ?hr ?_; (case hd => rfl); (case hg => rfl); (case hr => first | (go_simp; done) | (go_simp; rfl)); intro gb79005 hg w26 hbox hb; have n0_ := Aside0.mk (blk_below (g := gb79001) (o := .cells #[.int .i64 a0_0, .string a0_1, .slice (some ad79004) l0_2.length c0_2] 35 (0, 0)) (by (with_reducible repeat (first | refine blk_drewN ?_ _ | refine blk_drew ?_ | refine blk_alloc ?_ _)); exact BK79001.out) hb); have n1_ := Aside0.mk (below_step (by repeat (first | (with_reducible first | exact HB.out | apply below_alloc | apply pw_below_drewN | apply below_drew1 | refine below_set ?_ (Aside0.out (by assumption))) | exact HB.out)) hb); have n2_ := Aside0.mk (hbox); have n3_ := Aside0.mk ((by rw [hg]; exact (below_size (by repeat (first | (with_reducible first | exact HB.out | apply below_alloc | apply pw_below_drewN | apply below_drew1 | refine below_set ?_ (Aside0.out (by assumption))) | exact HB.out))) : w.heap.size ≤ gb79005)); have n4_ := Aside0.mk ((by rw [hg]; exact (below_size (by repeat (first | (with_reducible first | exact HB.out | apply below_alloc | apply pw_below_drewN | apply below_drew1 | refine below_set ?_ (Aside0.out (by assumption))) | exact HB.out))) : w.heap.size ≤ gb79005)); have n5_ := Aside0.mk ((by rw [hg]; exact Nat.ne_of_lt (blk_lt (g := gb79001) (o := .cells #[.int .i64 a0_0, .string a0_1, .slice (some ad79004) l0_2.length c0_2] 35 (0, 0)) (by (with_reducible repeat (first | refine blk_drewN ?_ _ | refine blk_drew ?_ | refine blk_alloc ?_ _)); exact BK79001.out)) : gb79001 ≠ gb79005)); have n6_ := Aside0.mk ((by rw [hg]; exact Nat.ne_of_gt (blk_lt (g := gb79001) (o := .cells #[.int .i64 a0_0, .string a0_1, .slice (some ad79004) l0_2.length c0_2] 35 (0, 0)) (by (with_reducible repeat (first | refine blk_drewN ?_ _ | refine blk_drew ?_ | refine blk_alloc ?_ _)); exact BK79001.out)) : gb79005 ≠ gb79001)); clear BK79001; clear HB; have BK79001 := n0_; have HB := n1_; have BK79005 := n2_; have GW79005 := n3_; have GE79005 := n4_; have NB79001_79005 := n5_; have NB79005_79001 := n6_; clear n0_ n1_ n2_ n3_ n4_ n5_ n6_; clear hb hbox hg; have hnb27 := NB79005_79001.out; have hnc27 := NB79001_79005.out; obtain ⟨hcz28_0, hcz28_1, hcz28_2, hfz28_0, hfz28_1, hfz28_2⟩ := blk3 BK79005.out) | (go_at_call 79; (with_reducible refine (ih k3 (by have := HJ2.out; have := HJ8.out; have := HK3.out; omega) ((rd_T35 l0_2 x38_3).f0) ((rd_T35 l0_2 x38_3).f1) _ _ ((rd_T35 l0_2 x38_3).f2) (wrap64 (a1 - 1)) t79006 _ ?side1 ?side2 A25.out).mono ?_); (case side1 => exact Kd.C_below HR79004_2.out (by repeat (first | (with_reducible first | exact HB.out | apply below_alloc | apply pw_below_drewN | apply below_drew1 | refine below_set ?_ (Aside0.out (by assumption))) | exact HB.out))); (case side2 => exact HC79004_2.out); rintro e w29 ⟨rfl, hb⟩; have n0_ := Aside0.mk (blk_below (g := gb79001) (o := .cells #[.int .i64 a0_0, .string a0_1, .slice (some ad79004) l0_2.length c0_2] 35 (0, 0)) (by (with_reducible repeat (first | refine blk_drewN ?_ _ | refine blk_drew ?_ | refine blk_alloc ?_ _)); refine blk_far ?_ NB79001_79005.out _; (with_reducible repeat (first | refine blk_drewN ?_ _ | refine blk_drew ?_ | refine blk_alloc ?_ _)); refine blk_far ?_ NB79001_79005.out _; (with_reducible repeat (first | refine blk_drewN ?_ _ | refine blk_drew ?_ | refine blk_alloc ?_ _)); refine blk_far ?_ NB79001_79005.out _; (with_reducible repeat (first | refine blk_drewN ?_ _ | refine blk_drew ?_ | refine blk_alloc ?_ _)); exact BK79001.out) hb); have n1_ := Aside0.mk (blk_below (g := gb79005) (o := .cells #[.int .i64 ((rd_T35 l0_2 x38_3).f0), .string ((rd_T35 l0_2 x38_3).f1), .slice A79004_2 ((rd_T35 l0_2 x38_3).f2).length c79004_2] 35 (0, 0)) (by (with_reducible repeat (first | refine blk_drewN ?_ _ | refine blk_drew ?_ | refine blk_alloc ?_ _)); refine blk_put (cs := #[.int .i64 ((rd_T35 l0_2 x38_3).f0), .string ((rd_T35 l0_2 x38_3).f1), .slice none 0 0]) ?_ 2 _ rfl; (with_reducible repeat (first | refine blk_drewN ?_ _ | refine blk_drew ?_ | refine blk_alloc ?_ _)); refine blk_put (cs := #[.int .i64 ((rd_T35 l0_2 x38_3).f0), .string (⟨#[]⟩ : ByteArray), .slice none 0 0]) ?_ 1 _ rfl; (with_reducible repeat (first | refine blk_drewN ?_ _ | refine blk_drew ?_ | refine blk_alloc ?_ _)); refine blk_put (cs := #[.int .i64 0, .string (⟨#[]⟩ : ByteArray), .slice none 0 0]) ?_ 0 _ rfl; (with_reducible repeat (first | refine blk_drewN ?_ _ | refine blk_drew ?_ | refine blk_alloc ?_ _)); exact BK79005.out) hb); have n2_ := Aside0.mk (below_step (by repeat (first | (with_reducible first | exact HB.out | apply below_alloc | apply pw_below_drewN | apply below_drew1 | refine below_set ?_ (Aside0.out (by assumption))) | exact HB.out)) hb); clear BK79001; clear BK79005; clear HB; have BK79001 := n0_; have BK79005 := n1_; have HB := n2_; clear n0_ n1_ n2_; (try clear hb); (try clear hb2); (try clear hk); (try clear hi))))
            go_roundg k3
            case measure => have := HJ2.out; have := HJ8.out; have := HK3.out; omega
            case rel => exact ⟨(wrap64 (x5_3 + t79006)), (wrap64 (x38_3 + 1)), (by first | rfl | (simp; done) | (simp [*]; done)), (by first | rfl | (simp; done) | (simp [*]; done)), H', ⟨by have := HJ2.out; have := HJ8.out; have := HK3.out; omega⟩, ⟨by (with_reducible repeat (first | refine blk_drewN ?_ _ | refine blk_drew ?_ | refine blk_alloc ?_ _)); exact BK79001.out⟩, ⟨by repeat (first | (with_reducible first | exact HB.out | apply below_alloc | apply pw_below_drewN | apply below_drew1 | refine below_set ?_ (Aside0.out (by assumption))) | exact HB.out)⟩⟩
          · rw [if_neg c24] at H
            exact absurd H (by simp)
          · rw [if_neg c23] at H
            exact absurd H (by simp)
          · rw [if_neg c22] at H
            have c22b0 : decide (x38_3 < (l0_2.length : Int)) = false := decide_eq_false c22
            clear c22
            obtain ⟨ji30, hji30⟩ : ∃ j_ : Int, (mn x5_3 17) = j_ := ⟨_, rfl⟩
            replace H : (some ji30) = some r := by first | (rw [hji30] at H; exact H) | (simp only [hji30] at H ⊢; exact H)
            have hji30_ : (if 17 < x5_3 then 17 else x5_3) = ji30 := hji30
            obtain rfl := Option.some.inj H
            go_wp2
            repeat (go_quiet (fail); try go_wp2)
            go_ret
            exact ⟨by first | rfl | (simp [errW_none, errW_some] <;> rfl) | (simp only [← hji30]; first | rfl | (simp [errW_none, errW_some] <;> rfl)) | (simp [*, errW_none, errW_some] <;> rfl), by repeat (first | (with_reducible first | exact HB.out | apply below_alloc | apply pw_below_drewN | apply below_drew1 | refine below_set ?_ (Aside0.out (by assumption))) | exact HB.out)⟩
/-! ### impl_IsValidRegex: function 54 -/
def impl_IsValidRegex.f (k : Nat) (a0_0 : Int) (a0_1 : ByteArray) (l0_2 : List (S35)) : Option (Bool) := (impl_nodesOf.f k a0_0 a0_1 l0_2 6).bind fun t54002 => (some (decide (t54002 ≤ 16)))
theorem impl_IsValidRegex.mono : ∀ a0 a1 a2 k, LeO (impl_IsValidRegex.f k a0 a1 a2) (impl_IsValidRegex.f (k + 1) a0 a1 a2) := by
  intro a0 a1 a2 k
  unfold impl_IsValidRegex.f
  repeat' first
      | with_reducible first | exact impl_nodesOf.mono _ _ _ _ _ | exact LeO.refl _ | exact LeO.none _ | refine LeO.ite ?_ ?_ | refine LeO.bind ?_ (fun _ => ?_)
      | exact impl_nodesOf.mono _ _ _ _ _ | exact LeO.none _ | refine LeO.ite ?_ ?_ | refine LeO.bind ?_ (fun _ => ?_)
set_option maxHeartbeats 8000000 in
set_option maxRecDepth 100000 in
theorem impl_IsValidRegex.calls (k : Nat) (a0_0 : Int) (a0_1 : ByteArray) (A0_2 : Option Addr) (c0_2 : Nat) (l0_2 : List (S35)) (r : Bool) (w : World) (hr0_2 : Kd.C k35 w A0_2 l0_2.length l0_2) (hc0_2 : l0_2.length ≤ c0_2) (h : impl_IsValidRegex.f k a0_0 a0_1 l0_2 = some r) :
    Calls Try.prog 54 #[.agg #[.int .i64 a0_0, .string a0_1, .slice A0_2 l0_2.length c0_2]] w fun e w' => e = .returned (.bool r) ∧ Below w.heap.size w w' := by
  have hu35 := Try.underlying35
  have HR0_2 := Aside0.mk hr0_2
  have HC0_2 := Aside0.mk hc0_2
  clear hr0_2 hc0_2
  have HB := Aside0.mk (Below.refl w.heap.size w)
  have H : ((impl_nodesOf.f k a0_0 a0_1 l0_2 6).bind fun t54002 => (some (decide (t54002 ≤ 16)))) = some r := h
  clear h
  replace H := Option.bind_eq_some_iff.mp H
  obtain ⟨t54002, A20, H⟩ := H
  replace H : (some (decide (t54002 ≤ 16))) = some r := H
  have A2 := Aside0.mk A20
  clear A20
  obtain rfl := Option.some.inj H
  go_enter Try.func54, Try.ntmps54
  go_wp2_with (first | ((with_reducible refine gate_dst (N := 1) rfl ?_); refine box_event ?hg (N := 1) ?hd (cs := #[.int .i64 a0_0, .string a0_1, .slice A0_2 l0_2.length c0_2]) (t := 35) ?hr ?_; (case hd => rfl); (case hg => rfl); (case hr => first | (go_simp; done) | (go_simp; rfl)); intro gb54001 hg w3 hbox hb; have n0_ := Aside0.mk (below_step (by repeat (first | (with_reducible first | exact HB.out | apply below_alloc | apply pw_below_drewN | apply below_drew1 | refine below_set ?_ (Aside0.out (by assumption))) | exact HB.out)) hb); have n1_ := Aside0.mk (hbox); have n2_ := Aside0.mk ((by rw [hg]; exact (below_size (by repeat (first | (with_reducible first | exact HB.out | apply below_alloc | apply pw_below_drewN | apply below_drew1 | refine below_set ?_ (Aside0.out (by assumption))) | exact HB.out))) : w.heap.size ≤ gb54001)); have n3_ := Aside0.mk ((by rw [hg]; exact (below_size (by repeat (first | (with_reducible first | exact HB.out | apply below_alloc | apply pw_below_drewN | apply below_drew1 | refine below_set ?_ (Aside0.out (by assumption))) | exact HB.out))) : w.heap.size ≤ gb54001)); clear HB; have HB := n0_; have BK54001 := n1_; have GW54001 := n2_; have GE54001 := n3_; clear n0_ n1_ n2_ n3_; clear hb hbox hg; obtain ⟨hcz4_0, hcz4_1, hcz4_2, hfz4_0, hfz4_1, hfz4_2⟩ := blk3 BK54001.out) | ((with_reducible refine gate_callee (f := 79) rfl ?_); refine goesL_ (some 4) rfl rfl Try.func79 (by kernel_rfl) rfl #[.agg #[.int .i64 a0_0, .string a0_1, .slice A0_2 l0_2.length c0_2], .int .i64 6] rfl (by (try simp only [List.map_toArray, List.map_cons, List.map_nil]); first | done | rfl | (simp only [List.length_drop, List.length_take]; rfl)) ?_; (with_reducible refine (impl_nodesOf.calls k a0_0 a0_1 _ _ l0_2 6 t54002 _ ?side1 ?side2 A2.out).mono ?_); (case side1 => repeat (first | exact (Kd.C_below HR0_2.out HB.out) | (with_reducible refine Kd.C_alloc ?_ _) | (with_reducible refine Kd.C_drewN ?_ _) | (with_reducible refine Kd.C_drew ?_))); (case side2 => exact HC0_2.out); rintro e w5 ⟨rfl, hb⟩; refine ⟨_, rfl, ?_⟩; have n0_ := Aside0.mk (blk_below (g := gb54001) (o := .cells #[.int .i64 a0_0, .string a0_1, .slice A0_2 l0_2.length c0_2] 35 (0, 0)) (by (with_reducible repeat (first | refine blk_drewN ?_ _ | refine blk_drew ?_ | refine blk_alloc ?_ _)); exact BK54001.out) hb); have n1_ := Aside0.mk (below_step (by repeat (first | (with_reducible first | exact HB.out | apply below_alloc | apply pw_below_drewN | apply below_drew1 | refine below_set ?_ (Aside0.out (by assumption))) | exact HB.out)) hb); clear BK54001; clear HB; have BK54001 := n0_; have HB := n1_; clear n0_ n1_; (try clear hb); (try clear hb2); (try clear hk); (try clear hi)))
  go_ret
  exact ⟨by first | rfl | (simp [errW_none, errW_some] <;> rfl) | (simp [*, errW_none, errW_some] <;> rfl), by repeat (first | (with_reducible first | exact HB.out | apply below_alloc | apply pw_below_drewN | apply below_drew1 | refine below_set ?_ (Aside0.out (by assumption))) | exact HB.out)⟩

end Go.Proofs.Ytffjfdoghofkdaa.A


namespace Go.Proofs.Ytffjfdoghofkdaa.A
open Go.RowKit Go.Proofs.Ytffjfdoghofkdaa.Ext Go.Proofs.YtffjfdoghofkdaaW.PrintWords Go.Proofs.YtffjfdoghofkdaaW.PrintLast Go.Proofs.YtffjfdoghofkdaaW.PrintMore
attribute [local go_sem] max2_int min2_int max_two min_two max_three min_three max_four min_four   -- for this text's walks alone
set_option linter.unusedVariables false
set_option linter.unusedSimpArgs false

/-! ### impl_within: function 55 -/
def impl_within.f (a0 : Int) (a1 : Int) (a2 : Int) : Option (Bool) := if a0 ≥ a1 then (some (decide (a0 ≤ a2))) else (some false)
set_option maxHeartbeats 8000000 in
set_option maxRecDepth 100000 in
theorem impl_within.calls (a0 : Int) (a1 : Int) (a2 : Int) (r : Bool) (w : World) (h : impl_within.f a0 a1 a2 = some r) :
    Calls Try.prog 55 #[.int .i64 a0, .int .i64 a1, .int .i64 a2] w fun e w' => e = .returned (.bool r) ∧ Drawn0 w w' := by
  have H : (if a0 ≥ a1 then (some (decide (a0 ≤ a2))) else (some false)) = some r := h
  clear h
  by_cases c4 : a0 ≥ a1
  rw [if_pos c4] at H
  have c4b0 : decide (a1 ≤ a0) = true := decide_eq_true c4
  rotate_left
  rw [if_neg c4] at H
  have c4b0 : decide (a1 ≤ a0) = false := decide_eq_false c4
  rotate_left
  all_goals
   clear c4
   obtain rfl := Option.some.inj H
   go_enter Try.func55, Try.ntmps55
   go_wp2
   go_ret
   exact ⟨by first | rfl | (simp; done) | (simp [*]; done), by repeat (first | exact Drawn0.refl _ | apply Drawn0.step)⟩

end Go.Proofs.Ytffjfdoghofkdaa.A


namespace Go.Proofs.Ytffjfdoghofkdaa.A
open Go.RowKit Go.Proofs.Ytffjfdoghofkdaa.Ext Go.Proofs.YtffjfdoghofkdaaW.PrintWords Go.Proofs.YtffjfdoghofkdaaW.PrintLast Go.Proofs.YtffjfdoghofkdaaW.PrintMore
attribute [local go_sem] max2_int min2_int max_two min_two max_three min_three max_four min_four   -- for this text's walks alone
set_option linter.unusedVariables false
set_option linter.unusedSimpArgs false

/-! ### impl_IsValidConstraint_1: function 57 -/
def impl_IsValidConstraint_1.f (a0 : Int) : Option (Bool) := (impl_within.f a0 (-9) 9).bind fun t57001 => (some (!t57001))
set_option maxHeartbeats 8000000 in
set_option maxRecDepth 100000 in
theorem impl_IsValidConstraint_1.calls (a0 : Int) (r : Bool) (w : World) (h : impl_IsValidConstraint_1.f a0 = some r) :
    Calls Try.prog 57 #[.int .i64 a0] w fun e w' => e = .returned (.bool r) ∧ Drawn0 w w' := by
  have H : ((impl_within.f a0 (-9) 9).bind fun t57001 => (some (!t57001))) = some r := h
  clear h
  replace H := Option.bind_eq_some_iff.mp H
  obtain ⟨t57001, A20, H⟩ := H
  replace H : (some (!t57001)) = some r := H
  have A2 := Aside0.mk A20
  clear A20
  obtain rfl := Option.some.inj H
  go_enter Try.func57, Try.ntmps57
  go_wp2_with (first | ((with_reducible refine gate_callee (f := 55) rfl ?_); refine goesL_ (some 4) rfl rfl Try.func55 (by kernel_rfl) rfl #[.int .i64 a0, .int .i64 (-9), .int .i64 9] rfl (by (try simp only [List.map_toArray, List.map_cons, List.map_nil]); first | done | rfl | (simp only [List.length_drop, List.length_take]; rfl)) ?_; (with_reducible refine (impl_within.calls a0 (-9) 9 t57001 _ A2.out).mono ?_); rintro e w' ⟨rfl, ⟨nd, rfl⟩⟩; refine ⟨_, rfl, ?_⟩))
  go_ret
  exact ⟨by first | rfl | (simp; done) | (simp [*]; done), by repeat (first | exact Drawn0.refl _ | apply Drawn0.step)⟩

end Go.Proofs.Ytffjfdoghofkdaa.A


namespace Go.Proofs.Ytffjfdoghofkdaa.Ext
set_option linter.unusedVariables false
set_option linter.unusedSimpArgs false
open Go.RowKit Go.Proofs.YtffjfdoghofkdaaW.PrintWords Go.Proofs.YtffjfdoghofkdaaW.PrintLast

theorem goesF_ {P : Program} {ops : Array Oper} {Q : Exit → Act → World → Prop} {rest : List Oper} {oi : Oper} {a : Act} {w : World} (N : Option Tmp) (hd : oi.dst = N) (hg : oi.guard = none) {f : FuncId} {fn : Func} {as_ : Array Operand} {ts : Array TypeId} {c : Operand} (hf : P.funcs[f]? = some fn) (hname : (fn.name == "runtime.NumGoroutine") = false) (hb : fn.body.isSome = true) (args : Array Value)
    (hop : oi.op = .call { callee := .value c, args := as_, argTypes := ts }) (hc : a.eval c = .func (.func f) #[] #[]) (hargs : as_.map a.eval = args)
    (h : Calls P f args w fun e w' => ∃ v, e = .returned v ∧ wpList P ops Q rest (a.put N v) w') : wpList P ops Q (oi :: rest) a w := by
  refine wpList_plain hg fun K hK => ?_
  have he := enters_ hf hname hb args w
  have hrun : (execOp a.eval oi).run P w = .ok (.enter f args) w := by
    unfold execOp
    rw [hop]
    simp [hc, resolve, Deferred.ofValue, invoke, hargs, he]
  unfold Oper.wp
  rw [hrun, Oper.upon_enter]
  refine h.mono fun e w'' hh => ?_
  obtain ⟨v, rfl, hk⟩ := hh
  subst hd
  exact hK _ _ hk

end Go.Proofs.Ytffjfdoghofkdaa.Ext


namespace Go.Proofs.Ytffjfdoghofkdaa.A
open Go.RowKit Go.Proofs.Ytffjfdoghofkdaa.Ext Go.Proofs.YtffjfdoghofkdaaW.PrintWords Go.Proofs.YtffjfdoghofkdaaW.PrintLast Go.Proofs.YtffjfdoghofkdaaW.PrintMore
attribute [local go_sem] max2_int min2_int max_two min_two max_three min_three max_four min_four   -- for this text's walks alone
set_option linter.unusedVariables false
set_option linter.unusedSimpArgs false

/-! ### slices_IndexFunc_int_int: function 80 -/
def slices_IndexFunc_int_int.l0 : Nat → List Int → Int → Int → Option (Int)
  | 0, _, _, _ => none
  | k + 1, x0, x7, x8 => if x8 < x7 then (if 0 ≤ x8 then (if x8 < (x0.length : Int) then ((impl_IsValidConstraint_1.f (rd x0 x8)).bind fun t80002 => (if t80002 = true then (some x8) else (slices_IndexFunc_int_int.l0 k x0 x7 (wrap64 (x8 + 1))))) else (none)) else (none)) else (some (-1))
def slices_IndexFunc_int_int.f (k : Nat) (l0 : List Int) : Option (Int) := slices_IndexFunc_int_int.l0 k l0 (l0.length : Int) 0
theorem slices_IndexFunc_int_int.mono_l : ∀ k, (∀ y0 y1 y2, LeO (slices_IndexFunc_int_int.l0 k y0 y1 y2) (slices_IndexFunc_int_int.l0 (k + 1) y0 y1 y2))
  | 0 => fun _ _ _ r h => by simp [slices_IndexFunc_int_int.l0] at h
  | k + 1 => by
    have ih0 := slices_IndexFunc_int_int.mono_l k
    · intro y0 y1 y2
      unfold slices_IndexFunc_int_int.l0
      repeat' first
      | with_reducible first | exact ih0 _ _ _ | exact LeO.refl _ | exact LeO.none _ | refine LeO.ite ?_ ?_ | refine LeO.bind ?_ (fun _ => ?_)
      | exact ih0 _ _ _ | exact LeO.none _ | refine LeO.ite ?_ ?_ | refine LeO.bind ?_ (fun _ => ?_)
theorem slices_IndexFunc_int_int.mono : ∀ a0 k, LeO (slices_IndexFunc_int_int.f k a0) (slices_IndexFunc_int_int.f (k + 1) a0) := by
  intro a0 k
  have ih0 := slices_IndexFunc_int_int.mono_l k
  unfold slices_IndexFunc_int_int.f
  repeat' first
      | with_reducible first | exact ih0 _ _ _ | exact LeO.refl _ | exact LeO.none _ | refine LeO.ite ?_ ?_ | refine LeO.bind ?_ (fun _ => ?_)
      | exact ih0 _ _ _ | exact LeO.none _ | refine LeO.ite ?_ ?_ | refine LeO.bind ?_ (fun _ => ?_)
set_option maxHeartbeats 8000000 in
set_option maxRecDepth 100000 in
theorem slices_IndexFunc_int_int.calls (k : Nat) (A0 : Option Addr) (c0 : Nat) (l0 : List Int) (r : Int) (w : World) (hr0 : Kd.C (Kd.int .i64) w A0 l0.length l0) (hc0 : l0.length ≤ c0) (h : slices_IndexFunc_int_int.f k l0 = some r) :
    Calls Try.prog 80 #[.slice A0 l0.length c0, .func (.func 57) #[] #[]] w fun e w' => e = .returned (.int .i64 r) ∧ Drawn0 w w' := by
  have HR0 := Aside0.mk hr0
  have HC0 := Aside0.mk hc0
  clear hr0 hc0
  have H : (slices_IndexFunc_int_int.l0 k l0 (l0.length : Int) 0) = some r := h
  clear h
  have H' := Aside0.mk H
  clear H
  go_enter Try.func80, Try.ntmps80
  go_wp2
  first | go_loopg [8] k (fun kq v8 w' => ∃ (x8_1 : Int), v8 = .int .i64 x8_1 ∧ Aside0 (slices_IndexFunc_int_int.l0 kq l0 (l0.length : Int) x8_1 = some r) ∧ Aside0 (kq ≤ k) ∧ Drawn0 w w') | (simp only [Act.put, List.setIfInBounds_toArray, List.set_cons_succ, List.set_cons_zero]; go_loopg [8] k (fun kq v8 w' => ∃ (x8_1 : Int), v8 = .int .i64 x8_1 ∧ Aside0 (slices_IndexFunc_int_int.l0 kq l0 (l0.length : Int) x8_1 = some r) ∧ Aside0 (kq ≤ k) ∧ Drawn0 w w'))
  case atStart => exact ⟨(0), (by first | rfl | (simp; done) | (simp [*]; done)), H', ⟨Nat.le_refl _⟩, by repeat (first | exact Drawn0.refl _ | apply Drawn0.step)⟩
  case round =>
   clear H'
   obtain ⟨x8_1, rfl, HA, HK1, ⟨m1, rfl⟩⟩ := hrel
   cases gk with
   | zero => exact absurd HA.out (by simp [slices_IndexFunc_int_int.l0])
   | succ k1 =>
    have H := HA.out
    clear HA
    simp only [slices_IndexFunc_int_int.l0] at H
    by_cases c2 : x8_1 < (l0.length : Int)
    rw [if_pos c2] at H
    have c2b0 : decide (x8_1 < (l0.length : Int)) = true := decide_eq_true c2
    clear c2
    by_cases c3 : 0 ≤ x8_1
    rw [if_pos c3] at H
    have c3b0 : decide (0 ≤ x8_1) = true := decide_eq_true c3
    clear c3
    by_cases c4 : x8_1 < (l0.length : Int)
    rw [if_pos c4] at H
    have c4b0 : decide (x8_1 < (l0.length : Int)) = true := decide_eq_true c4
    clear c4
    replace H := Option.bind_eq_some_iff.mp H
    obtain ⟨t80002, A50, H⟩ := H
    replace H : (if t80002 = true then (some x8_1) else (slices_IndexFunc_int_int.l0 k1 l0 (l0.length : Int) (wrap64 (x8_1 + 1)))) = some r := H
    have A5 := Aside0.mk A50
    clear A50
    by_cases c6 : t80002 = true
    subst c6
    have H1 : (some x8_1) = some r := by rw [if_pos rfl] at H; exact H
    clear H
    have H := H1
    clear H1
    obtain rfl := Option.some.inj H
    have fin0_ := Aside0.mk trivial
    rotate_left
    replace c6 := Bool.eq_false_iff.mpr c6
    subst c6
    have H1 : (slices_IndexFunc_int_int.l0 k1 l0 (l0.length : Int) (wrap64 (x8_1 + 1))) = some r := by rw [if_neg (show ¬ (false = true) by decide)] at H; exact H
    clear H
    have H := H1
    clear H1
    have H' := Aside0.mk H
    clear H
    have fin1_ := Aside0.mk trivial
    rotate_left
    · rw [if_neg c4] at H
      exact absurd H (by simp)
    · rw [if_neg c3] at H
      exact absurd H (by simp)
    · rw [if_neg c2] at H
      have c2b0 : decide (x8_1 < (l0.length : Int)) = false := decide_eq_false c2
      clear c2
      obtain rfl := Option.some.inj H
      go_wp2
      go_ret
      exact ⟨by first | rfl | (simp; done) | (simp [*]; done), by repeat (first | exact Drawn0.refl _ | apply Drawn0.step)⟩
    all_goals
     have p80001 : 0 ≤ (x8_1 : Int) := of_decide_eq_true (by first | (with_reducible assumption) | assumption)
     have q80001 : x8_1 < (l0.length : Int) := of_decide_eq_true (by first | (with_reducible assumption) | assumption)
     obtain ⟨ad80001, e80001, hx80001_0⟩ := Kd.at_int HR0.out x8_1 p80001 q80001
     cases e80001
     replace p80001 := eq_true p80001
     replace q80001 := eq_true q80001
     go_wp2_with (((with_reducible refine gate_dst (N := 16) rfl ?_); refine goesF_ (some 16) rfl rfl Try.func57 (by kernel_rfl) rfl #[.int .i64 (rd l0 x8_1)] rfl (by first | rfl | (go_simp; done)) (by (try simp only [List.map_toArray, List.map_cons, List.map_nil]); first | done | rfl | (simp only [List.length_drop, List.length_take]; rfl)) ?_; (with_reducible refine (impl_IsValidConstraint_1.calls (rd l0 x8_1) _ _ A5.out).mono ?_); rintro e w' ⟨rfl, ⟨nd, rfl⟩⟩; refine ⟨_, rfl, ?_⟩))
     first
     | (clear fin0_
        go_ret
        exact ⟨by first | rfl | (simp; done) | (simp [*]; done), by repeat (first | exact Drawn0.refl _ | apply Drawn0.step)⟩)
     | (clear fin1_
        go_roundg k1
        case measure => have := HK1.out; omega
        case rel => exact ⟨(wrap64 (x8_1 + 1)), (by first | rfl | (simp; done) | (simp [*]; done)), H', ⟨by have := HK1.out; omega⟩, by repeat (first | exact Drawn0.refl _ | apply Drawn0.step)⟩)

end Go.Proofs.Ytffjfdoghofkdaa.A


namespace Go.Proofs.Ytffjfdoghofkdaa.A
open Go.RowKit Go.Proofs.Ytffjfdoghofkdaa.Ext Go.Proofs.YtffjfdoghofkdaaW.PrintWords Go.Proofs.YtffjfdoghofkdaaW.PrintLast Go.Proofs.YtffjfdoghofkdaaW.PrintMore
attribute [local go_sem] max2_int min2_int max_two min_two max_three min_three max_four min_four   -- for this text's walks alone
set_option linter.unusedVariables false
set_option linter.unusedSimpArgs false

/-! ### slices_ContainsFunc_int_int: function 56 -/
def slices_ContainsFunc_int_int.f (k : Nat) (l0 : List Int) : Option (Bool) := (slices_IndexFunc_int_int.f k l0).bind fun t56001 => (some (decide (t56001 ≥ 0)))
theorem slices_ContainsFunc_int_int.mono : ∀ a0 k, LeO (slices_ContainsFunc_int_int.f k a0) (slices_ContainsFunc_int_int.f (k + 1) a0) := by
  intro a0 k
  unfold slices_ContainsFunc_int_int.f
  repeat' first
      | with_reducible first | exact slices_IndexFunc_int_int.mono _ _ | exact LeO.refl _ | exact LeO.none _ | refine LeO.ite ?_ ?_ | refine LeO.bind ?_ (fun _ => ?_)
      | exact slices_IndexFunc_int_int.mono _ _ | exact LeO.none _ | refine LeO.ite ?_ ?_ | refine LeO.bind ?_ (fun _ => ?_)
set_option maxHeartbeats 8000000 in
set_option maxRecDepth 100000 in
theorem slices_ContainsFunc_int_int.calls (k : Nat) (A0 : Option Addr) (c0 : Nat) (l0 : List Int) (r : Bool) (w : World) (hr0 : Kd.C (Kd.int .i64) w A0 l0.length l0) (hc0 : l0.length ≤ c0) (h : slices_ContainsFunc_int_int.f k l0 = some r) :
    Calls Try.prog 56 #[.slice A0 l0.length c0, .func (.func 57) #[] #[]] w fun e w' => e = .returned (.bool r) ∧ Drawn0 w w' := by
  have HR0 := Aside0.mk hr0
  have HC0 := Aside0.mk hc0
  clear hr0 hc0
  have H : ((slices_IndexFunc_int_int.f k l0).bind fun t56001 => (some (decide (t56001 ≥ 0)))) = some r := h
  clear h
  replace H := Option.bind_eq_some_iff.mp H
  obtain ⟨t56001, A20, H⟩ := H
  replace H : (some (decide (t56001 ≥ 0))) = some r := H
  have A2 := Aside0.mk A20
  clear A20
  obtain rfl := Option.some.inj H
  go_enter Try.func56, Try.ntmps56
  go_wp2_with (first | ((with_reducible refine gate_callee (f := 80) rfl ?_); refine goesL_ (some 7) rfl rfl Try.func80 (by kernel_rfl) rfl #[.slice A0 l0.length c0, .func (.func 57) #[] #[]] rfl (by (try simp only [List.map_toArray, List.map_cons, List.map_nil]); first | done | rfl | (simp only [List.length_drop, List.length_take]; rfl)) ?_; (with_reducible refine (slices_IndexFunc_int_int.calls k _ _ l0 t56001 _ ?side1 ?side2 A2.out).mono ?_); (case side1 => repeat (first | exact HR0.out | (with_reducible refine Kd.C_alloc ?_ _) | (with_reducible refine Kd.C_drewN ?_ _) | (with_reducible refine Kd.C_drew ?_))); (case side2 => exact HC0.out); rintro e w' ⟨rfl, ⟨nd, rfl⟩⟩; refine ⟨_, rfl, ?_⟩))
  go_ret
  exact ⟨by first | rfl | (simp; done) | (simp [*]; done), by repeat (first | exact Drawn0.refl _ | apply Drawn0.step)⟩

end Go.Proofs.Ytffjfdoghofkdaa.A


namespace Go.Proofs.Ytffjfdoghofkdaa.Ext
set_option linter.unusedVariables false
set_option linter.unusedSimpArgs false
open Go Go.RowKit Go.Proofs.YtffjfdoghofkdaaW.PrintWords Go.Proofs.YtffjfdoghofkdaaW.PrintLast Go.Proofs.Ytffjfdoghofkdaa.A
theorem two_new (w : World) (o1 o2 : Obj) : ((w.alloc o1).alloc o2).drew.heap[w.heap.size]? = some o1 ∧ ((w.alloc o1).alloc o2).drew.heap[w.heap.size + 1]? = some o2 ∧ Below w.heap.size w ((w.alloc o1).alloc o2).drew := by
  refine ⟨blk_drew (blk_alloc (blk_new w o1) o2), ?_, below_drew (below_alloc (below_alloc (Below.refl _ _) _) _)⟩
  have := blk_new (w.alloc o1) o2
  rw [show (w.alloc o1).heap.size = w.heap.size + 1 by simp] at this
  exact blk_drew this
section
variable (w0 : World) (g b : Nat) (hgb : g ≠ b) (hg : w0.heap.size ≤ g) (hb : w0.heap.size ≤ b) (s : ByteArray) (n : Nat) (hn : n ≤ 401) (hsn : s.size + 1 = n) (z : Nat) (hz : z ≤ 16) (T : Nat → Nat → Nat → Bool)
  (bs : ByteArray) (A : Option Addr) (c id i j : Nat) (hij : i ≤ j) (hj : j < n) (m : List Int) (W : World) (hl : m.length = z * n * n) (hM : MSt g b s n m W) (hB : Below w0.heap.size w0 W)
include hgb hg hb hn hsn hz hij hj hl hM hB
set_option linter.unusedSectionVars false
set_option maxHeartbeats 4000000 in
set_option maxRecDepth 100000 in
theorem find_not (y : S35) (u : Rx) (hC : Kd.C k35 w0 A 1 [y]) (hid : id + 1 + u.size ≤ z)
    (hc : ∀ A2 c2, y.f2.length ≤ c2 → Kd.C k35 w0 A2 y.f2.length y.f2 → MC w0 g b s n z T u y.f0 y.f1 A2 y.f2.length c2 (id + 1) n)
    (hG : Gd n T m (RgF id (1 + u.size) (j - i))) :
    Calls Try.prog 94 #[.pointer (some ⟨g, 0, none⟩), .agg #[.int .i64 9, .string bs, .slice A 1 c], .int .i64 (id : Int), .int .i64 (i : Int), .int .i64 (j : Int)] W (MPost w0 W g b s n T m (RgF id (1 + u.size) (j - i)) (!mt s u i j)) := by
  obtain ⟨ad, A2, c2, rfl, e0, e1, e2, h3, h4⟩ := arg0_at hC hB
  have hsub : ∀ a' i' j', RgM (id + 1) u.size (j - i) a' i' j' → RgF id (1 + u.size) (j - i) a' i' j' := fun a' i' j' h => ⟨by have := h.1; omega, by have := h.2.1; omega, fun e => by have := h.1; omega⟩
  have HC := Aside0.mk (fun (W' : World) (hM' : MSt g b s n m W') (hB' : Below w0.heap.size w0 W') => hc A2 c2 h3 h4 i j ((id : Int) + 1) i j m W' (by omega) rfl rfl hij hj (by omega) hl hM' (hG.sub hsub) hB')
  have HS := Aside0.mk hsub
  have HM := Aside0.mk hM
  have HB := Aside0.mk hB
  have HG := Aside0.mk hG
  clear hM hB hG hl hsub hc h3 h4 hC
  go_enter Try.func94, Try.ntmps94
  go_wp2_with (first | ((with_reducible refine gate_dst (N := 6) rfl ?_); refine box_event ?hg (N := 6) ?hd (cs := #[.int .i64 9, .string bs, .slice (some ad) 1 c]) (t := 35) ?hr ?_; (case hd => rfl); (case hg => rfl); (case hr => first | (go_simp; done) | (go_simp; rfl)); intro gx hgx w3 hbox hb3; have M3 := Aside0.mk (HM.out.below hb3); have K3 := Aside0.mk (KeepBut.of_below hb3 b none); have B3 := Aside0.mk (below_step HB.out hb3 : Below w0.heap.size w0 w3); have X3 := Aside0.mk hbox; have G3 := Aside0.mk (show W.heap.size ≤ gx by omega); have N3 := Aside0.mk (show b < W.heap.size from blk_lt HM.out.hb); have e0 := pw_cell_below hb3 e0; have e1 := pw_cell_below hb3 e1; have e2 := pw_cell_below hb3 e2; clear hb3 hbox hgx; obtain ⟨y0, y1, y2, g0, g1, g2⟩ := blk3 X3.out; obtain ⟨z0, z1, z2, f0, f1, f2⟩ := blk3 M3.out.hm) | (go_at_call 86; (with_reducible refine (HC.out _ M3.out B3.out).mono ?_); rintro e w5 ⟨rfl, m5, hl5, M5, G5, S5, K5, B5⟩; have n0_ := Aside0.mk hl5; have n1_ := Aside0.mk G5; have n2_ := Aside0.mk S5; have n3_ := Aside0.mk K5; have n4_ := Aside0.mk B5; have n5_ := Aside0.mk M5; clear hl5 G5 S5 K5 B5 M5))
  go_ret
  exact ⟨rfl, m5, n0_.out, n5_.out, HG.out.next n1_.out n2_.out, Sm3.next (Sm3.refl _ _ _) n2_.out HS.out, K3.out.trans n3_.out (.inl rfl), n4_.out⟩
set_option maxHeartbeats 4000000 in
set_option maxRecDepth 100000 in
theorem find_or (x y : S35) (t u : Rx) (hC : Kd.C k35 w0 A 2 [x, y]) (hid : id + 1 + t.size + u.size ≤ z)
    (hx : ∀ A2 c2, x.f2.length ≤ c2 → Kd.C k35 w0 A2 x.f2.length x.f2 → MC w0 g b s n z T t x.f0 x.f1 A2 x.f2.length c2 (id + 1) n)
    (hy : ∀ A2 c2, y.f2.length ≤ c2 → Kd.C k35 w0 A2 y.f2.length y.f2 → MC w0 g b s n z T u y.f0 y.f1 A2 y.f2.length c2 (id + 1 + t.size) n)
    (hsz : ∀ A2 c2 W', x.f2.length ≤ c2 → Kd.C k35 W' A2 x.f2.length x.f2 → Calls Try.prog 85 #[.agg #[.int .i64 x.f0, .string x.f1, .slice A2 x.f2.length c2]] W' fun e w' => e = .returned (.int .i64 (t.size : Int)) ∧ Below W'.heap.size W' w')
    (hG : Gd n T m (RgF id (1 + t.size + u.size) (j - i))) :
    Calls Try.prog 94 #[.pointer (some ⟨g, 0, none⟩), .agg #[.int .i64 6, .string bs, .slice A 2 c], .int .i64 (id : Int), .int .i64 (i : Int), .int .i64 (j : Int)] W (MPost w0 W g b s n T m (RgF id (1 + t.size + u.size) (j - i)) (mt s t i j || mt s u i j)) := by
  obtain ⟨ad, A2, c2, rfl, e0, e1, e2, h3, h4⟩ := arg0_at hC hB
  obtain ⟨A3, c3, e3, e4, e5, h5, h6⟩ := arg1_at hC hB
  have HM := Aside0.mk hM
  have HB := Aside0.mk hB
  have HG := Aside0.mk hG
  have hs1 : ∀ a' i' j', RgM (id + 1) t.size (j - i) a' i' j' → RgF id (1 + t.size + u.size) (j - i) a' i' j' := fun a' i' j' h => ⟨by have := h.1; omega, by have := h.2.1; omega, fun e => by have := h.1; omega⟩
  have hs2 : ∀ a' i' j', RgM (id + 1 + t.size) u.size (j - i) a' i' j' → RgF id (1 + t.size + u.size) (j - i) a' i' j' := fun a' i' j' h => ⟨by have := h.1; omega, by have := h.2.1; omega, fun e => by have := h.1; omega⟩
  have HX := Aside0.mk (fun (W' : World) (hM' : MSt g b s n m W') (hB' : Below w0.heap.size w0 W') => hx A2 c2 h3 h4 i j ((id : Int) + 1) i j m W' (by omega) rfl rfl hij hj (by omega) hl hM' (hG.sub hs1) hB')
  have HY := Aside0.mk (fun (m' : List Int) (W' : World) (hl' : m'.length = m.length) (hM' : MSt g b s n m' W') (hG' : Gd n T m' (RgF id (1 + t.size + u.size) (j - i))) (hB' : Below w0.heap.size w0 W') => hy A3 c3 h5 h6 i j ((id : Int) + 1 + (t.size : Int)) i j m' W' (by omega) rfl rfl hij hj (by omega) (hl'.trans hl) hM' (hG'.sub hs2) hB')
  have HZ := Aside0.mk (fun (W' : World) (hB' : Below w0.heap.size w0 W') => hsz A2 c2 W' h3 (Kd.C_below h4 hB'))
  have HS1 := Aside0.mk hs1
  have HS2 := Aside0.mk hs2
  have ht0 : 0 < t.size := t.size_pos
  clear hM hB hG hl hx hy h3 h4 h5 h6 hC hsz hs1 hs2
  go_enter Try.func94, Try.ntmps94
  go_upto_region 22 with ((with_reducible refine gate_dst (N := 6) rfl ?_); refine box_event ?hg (N := 6) ?hd (cs := #[.int .i64 6, .string bs, .slice (some ad) 2 c]) (t := 35) ?hr ?_; (case hd => rfl); (case hg => rfl); (case hr => first | (go_simp; done) | (go_simp; rfl)); intro gx hgx w3 hbox hb3; have M3 := Aside0.mk (HM.out.below hb3); have K3 := Aside0.mk (KeepBut.of_below hb3 b none); have B3 := Aside0.mk (below_step HB.out hb3 : Below w0.heap.size w0 w3); have X3 := Aside0.mk hbox; have G3 := Aside0.mk (show W.heap.size ≤ gx by omega); have N3 := Aside0.mk (show b < W.heap.size from blk_lt HM.out.hb); have e0 := pw_cell_below hb3 e0; have e1 := pw_cell_below hb3 e1; have e2 := pw_cell_below hb3 e2; have e3 := pw_cell_below hb3 e3; have e4 := pw_cell_below hb3 e4; have e5 := pw_cell_below hb3 e5; clear hb3 hbox hgx; obtain ⟨y0, y1, y2, g0, g1, g2⟩ := blk3 X3.out; obtain ⟨z0, z1, z2, f0, f1, f2⟩ := blk3 M3.out.hm)
  have l1 : gx < w3.heap.size := blk_lt X3.out
  have l2 : ad.block < w3.heap.size := World.block_lt_of_cell? w3 _ e0
  go_cut [12, 13] (fun v12 v13 wc => ∃ (L R : Nat), v12 = .pointer (some ⟨L, 0, none⟩) ∧ v13 = .pointer (some ⟨R, 0, none⟩) ∧ Aside0 (wc.heap[L]? = some (.cells #[.int .i64 x.f0, .string x.f1, .slice A2 x.f2.length c2] 35 (0, 0))) ∧ Aside0 (wc.heap[R]? = some (.cells #[.int .i64 y.f0, .string y.f1, .slice A3 y.f2.length c3] 35 (0, 0))) ∧ Aside0 (wc.heap[gx]? = some (.cells #[.int .i64 6, .string bs, .slice (some ad) 2 c] 35 (0, 0))) ∧ Aside0 (MSt g b s n m wc) ∧ Aside0 (KeepBut W wc b none) ∧ Aside0 (Below w0.heap.size w0 wc) ∧ Aside0 (W.heap.size ≤ L ∧ W.heap.size ≤ R ∧ W.heap.size ≤ gx))
  case first =>
    have hw3 : Aside0 (W.heap.size ≤ w3.heap.size) := ⟨K3.out.1⟩
    go_region
    all_goals
      try go_wp2
      go_meet
      case rel =>
        first
        | exact ⟨_, _, rfl, rfl, ⟨(two_new w3 _ _).2.1⟩, ⟨(two_new w3 _ _).1⟩, ⟨blk_below X3.out (two_new w3 _ _).2.2⟩, ⟨M3.out.below (two_new w3 _ _).2.2⟩, ⟨K3.out.trans (KeepBut.of_below (two_new w3 _ _).2.2 b none) (.inl rfl)⟩, ⟨below_step B3.out (two_new w3 _ _).2.2⟩, ⟨by have := hw3.out; omega, hw3.out, G3.out⟩⟩
        | exact ⟨_, _, rfl, rfl, ⟨(two_new w3 _ _).1⟩, ⟨(two_new w3 _ _).2.1⟩, ⟨blk_below X3.out (two_new w3 _ _).2.2⟩, ⟨M3.out.below (two_new w3 _ _).2.2⟩, ⟨K3.out.trans (KeepBut.of_below (two_new w3 _ _).2.2 b none) (.inl rfl)⟩, ⟨below_step B3.out (two_new w3 _ _).2.2⟩, ⟨hw3.out, by have := hw3.out; omega, G3.out⟩⟩
  case rest =>
    clear M3 K3 B3 X3 HM HB e0 e1 e2 e3 e4 e5 y0 y1 y2 g0 g1 g2 z0 z1 z2 f0 f1 f2 l1 l2
    obtain ⟨L, R, rfl, rfl, XL, XR, XG, HM, HK, HB, HW⟩ := hcut
    obtain ⟨y0, y1, y2, g0, g1, g2⟩ := blk3 XL.out
    go_upto_region 24 with (go_at_call 85; (with_reducible refine (HZ.out _ HB.out).mono ?_); rintro e w6 ⟨rfl, hb6⟩; have n0_ := Aside0.mk (blk_below XL.out hb6); have n1_ := Aside0.mk (blk_below XR.out hb6); have n2_ := Aside0.mk (blk_below XG.out hb6); have n3_ := Aside0.mk (HM.out.below hb6); have n4_ := Aside0.mk (HK.out.trans (KeepBut.of_below hb6 b none) (.inl rfl)); have n5_ := Aside0.mk (below_step HB.out hb6); clear XL XR XG HM HK HB hb6 y0 y1 y2 g0 g1 g2; have XL := n0_; have XR := n1_; have XG := n2_; have HM := n3_; have HK := n4_; have HB := n5_; clear n0_ n1_ n2_ n3_ n4_ n5_; obtain ⟨y0, y1, y2, g0, g1, g2⟩ := blk3 XL.out; obtain ⟨x0, x1, x2, h0, h1, h2⟩ := blk3 XR.out; obtain ⟨z0, z1, z2, f0, f1, f2⟩ := blk3 XG.out)
    cases hv : mt s t i j
    · go_wp2_with (first | (go_at_call 86; (with_reducible refine (HX.out _ HM.out HB.out).mono ?_); rintro e w7 ⟨he, m7, hl7, M7, G7, S7, K7, B7⟩; rw [hv] at he; subst he; have L7 := Aside0.mk hl7; have D7 := Aside0.mk (HG.out.next G7 S7); have S7' := Aside0.mk (Sm3.next (Sm3.refl n m _) S7 HS1.out); have Q7 := Aside0.mk (HK.out.trans K7 (.inl rfl)); have XR7 := Aside0.mk (K7.blk XR.out (by have := HW.out; have := N3.out; omega) (by simp)); have B7' := Aside0.mk B7; have M7' := Aside0.mk M7; clear hl7 M7 G7 S7 K7 B7 x0 x1 x2 h0 h1 h2 y0 y1 y2 g0 g1 g2 z0 z1 z2 f0 f1 f2; obtain ⟨x0, x1, x2, h0, h1, h2⟩ := blk3 XR7.out) | (go_at_call 86; (with_reducible refine (HY.out m7 _ L7.out M7'.out D7.out B7'.out).mono ?_); rintro e w8 ⟨rfl, m8, hl8, M8, G8, S8, K8, B8⟩; have L8 := Aside0.mk (hl8.trans L7.out); have D8 := Aside0.mk (D7.out.next G8 S8); have S8' := Aside0.mk (Sm3.next S7'.out S8 HS2.out); have Q8 := Aside0.mk (Q7.out.trans K8 (.inl rfl)); have B8' := Aside0.mk B8; have M8' := Aside0.mk M8; clear hl8 M8 G8 S8 K8 B8))
      go_ret
      exact ⟨by rw [hv]; rfl, m8, L8.out, M8'.out, D8.out, S8'.out, Q8.out, B8'.out⟩
    · go_wp2_with (go_at_call 86; (with_reducible refine (HX.out _ HM.out HB.out).mono ?_); rintro e w7 ⟨he, m7, hl7, M7, G7, S7, K7, B7⟩; rw [hv] at he; subst he; have L7 := Aside0.mk hl7; have D7 := Aside0.mk (HG.out.next G7 S7); have S7' := Aside0.mk (Sm3.next (Sm3.refl n m _) S7 HS1.out); have Q7 := Aside0.mk (HK.out.trans K7 (.inl rfl)); have XR7 := Aside0.mk (K7.blk XR.out (by have := HW.out; have := N3.out; omega) (by simp)); have B7' := Aside0.mk B7; have M7' := Aside0.mk M7; clear hl7 M7 G7 S7 K7 B7 x0 x1 x2 h0 h1 h2 y0 y1 y2 g0 g1 g2 z0 z1 z2 f0 f1 f2; obtain ⟨x0, x1, x2, h0, h1, h2⟩ := blk3 XR7.out)
      go_ret
      exact ⟨by rw [hv]; rfl, m7, L7.out, M7'.out, D7.out, S7'.out, Q7.out, B7'.out⟩
set_option maxHeartbeats 4000000 in
set_option maxRecDepth 100000 in
theorem find_and (x y : S35) (t u : Rx) (hC : Kd.C k35 w0 A 2 [x, y]) (hid : id + 1 + t.size + u.size ≤ z)
    (hx : ∀ A2 c2, x.f2.length ≤ c2 → Kd.C k35 w0 A2 x.f2.length x.f2 → MC w0 g b s n z T t x.f0 x.f1 A2 x.f2.length c2 (id + 1) n)
    (hy : ∀ A2 c2, y.f2.length ≤ c2 → Kd.C k35 w0 A2 y.f2.length y.f2 → MC w0 g b s n z T u y.f0 y.f1 A2 y.f2.length c2 (id + 1 + t.size) n)
    (hsz : ∀ A2 c2 W', x.f2.length ≤ c2 → Kd.C k35 W' A2 x.f2.length x.f2 → Calls Try.prog 85 #[.agg #[.int .i64 x.f0, .string x.f1, .slice A2 x.f2.length c2]] W' fun e w' => e = .returned (.int .i64 (t.size : Int)) ∧ Below W'.heap.size W' w')
    (hG : Gd n T m (RgF id (1 + t.size + u.size) (j - i))) :
    Calls Try.prog 94 #[.pointer (some ⟨g, 0, none⟩), .agg #[.int .i64 7, .string bs, .slice A 2 c], .int .i64 (id : Int), .int .i64 (i : Int), .int .i64 (j : Int)] W (MPost w0 W g b s n T m (RgF id (1 + t.size + u.size) (j - i)) (mt s t i j && mt s u i j)) := by
  obtain ⟨ad, A2, c2, rfl, e0, e1, e2, h3, h4⟩ := arg0_at hC hB
  obtain ⟨A3, c3, e3, e4, e5, h5, h6⟩ := arg1_at hC hB
  have HM := Aside0.mk hM
  have HB := Aside0.mk hB
  have HG := Aside0.mk hG
  have hs1 : ∀ a' i' j', RgM (id + 1) t.size (j - i) a' i' j' → RgF id (1 + t.size + u.size) (j - i) a' i' j' := fun a' i' j' h => ⟨by have := h.1; omega, by have := h.2.1; omega, fun e => by have := h.1; omega⟩
  have hs2 : ∀ a' i' j', RgM (id + 1 + t.size) u.size (j - i) a' i' j' → RgF id (1 + t.size + u.size) (j - i) a' i' j' := fun a' i' j' h => ⟨by have := h.1; omega, by have := h.2.1; omega, fun e => by have := h.1; omega⟩
  have HX := Aside0.mk (fun (W' : World) (hM' : MSt g b s n m W') (hB' : Below w0.heap.size w0 W') => hx A2 c2 h3 h4 i j ((id : Int) + 1) i j m W' (by omega) rfl rfl hij hj (by omega) hl hM' (hG.sub hs1) hB')
  have HY := Aside0.mk (fun (m' : List Int) (W' : World) (hl' : m'.length = m.length) (hM' : MSt g b s n m' W') (hG' : Gd n T m' (RgF id (1 + t.size + u.size) (j - i))) (hB' : Below w0.heap.size w0 W') => hy A3 c3 h5 h6 i j ((id : Int) + 1 + (t.size : Int)) i j m' W' (by omega) rfl rfl hij hj (by omega) (hl'.trans hl) hM' (hG'.sub hs2) hB')
  have HZ := Aside0.mk (fun (W' : World) (hB' : Below w0.heap.size w0 W') => hsz A2 c2 W' h3 (Kd.C_below h4 hB'))
  have HS1 := Aside0.mk hs1
  have HS2 := Aside0.mk hs2
  have ht0 : 0 < t.size := t.size_pos
  clear hM hB hG hl hx hy h3 h4 h5 h6 hC hsz hs1 hs2
  go_enter Try.func94, Try.ntmps94
  go_upto_region 22 with ((with_reducible refine gate_dst (N := 6) rfl ?_); refine box_event ?hg (N := 6) ?hd (cs := #[.int .i64 7, .string bs, .slice (some ad) 2 c]) (t := 35) ?hr ?_; (case hd => rfl); (case hg => rfl); (case hr => first | (go_simp; done) | (go_simp; rfl)); intro gx hgx w3 hbox hb3; have M3 := Aside0.mk (HM.out.below hb3); have K3 := Aside0.mk (KeepBut.of_below hb3 b none); have B3 := Aside0.mk (below_step HB.out hb3 : Below w0.heap.size w0 w3); have X3 := Aside0.mk hbox; have G3 := Aside0.mk (show W.heap.size ≤ gx by omega); have N3 := Aside0.mk (show b < W.heap.size from blk_lt HM.out.hb); have e0 := pw_cell_below hb3 e0; have e1 := pw_cell_below hb3 e1; have e2 := pw_cell_below hb3 e2; have e3 := pw_cell_below hb3 e3; have e4 := pw_cell_below hb3 e4; have e5 := pw_cell_below hb3 e5; clear hb3 hbox hgx; obtain ⟨y0, y1, y2, g0, g1, g2⟩ := blk3 X3.out; obtain ⟨z0, z1, z2, f0, f1, f2⟩ := blk3 M3.out.hm)
  have l1 : gx < w3.heap.size := blk_lt X3.out
  have l2 : ad.block < w3.heap.size := World.block_lt_of_cell? w3 _ e0
  go_cut [12, 13] (fun v12 v13 wc => ∃ (L R : Nat), v12 = .pointer (some ⟨L, 0, none⟩) ∧ v13 = .pointer (some ⟨R, 0, none⟩) ∧ Aside0 (wc.heap[L]? = some (.cells #[.int .i64 x.f0, .string x.f1, .slice A2 x.f2.length c2] 35 (0, 0))) ∧ Aside0 (wc.heap[R]? = some (.cells #[.int .i64 y.f0, .string y.f1, .slice A3 y.f2.length c3] 35 (0, 0))) ∧ Aside0 (wc.heap[gx]? = some (.cells #[.int .i64 7, .string bs, .slice (some ad) 2 c] 35 (0, 0))) ∧ Aside0 (MSt g b s n m wc) ∧ Aside0 (KeepBut W wc b none) ∧ Aside0 (Below w0.heap.size w0 wc) ∧ Aside0 (W.heap.size ≤ L ∧ W.heap.size ≤ R ∧ W.heap.size ≤ gx))
  case first =>
    have hw3 : Aside0 (W.heap.size ≤ w3.heap.size) := ⟨K3.out.1⟩
    go_region
    all_goals
      try go_wp2
      go_meet
      case rel =>
        first
        | exact ⟨_, _, rfl, rfl, ⟨(two_new w3 _ _).2.1⟩, ⟨(two_new w3 _ _).1⟩, ⟨blk_below X3.out (two_new w3 _ _).2.2⟩, ⟨M3.out.below (two_new w3 _ _).2.2⟩, ⟨K3.out.trans (KeepBut.of_below (two_new w3 _ _).2.2 b none) (.inl rfl)⟩, ⟨below_step B3.out (two_new w3 _ _).2.2⟩, ⟨by have := hw3.out; omega, hw3.out, G3.out⟩⟩
        | exact ⟨_, _, rfl, rfl, ⟨(two_new w3 _ _).1⟩, ⟨(two_new w3 _ _).2.1⟩, ⟨blk_below X3.out (two_new w3 _ _).2.2⟩, ⟨M3.out.below (two_new w3 _ _).2.2⟩, ⟨K3.out.trans (KeepBut.of_below (two_new w3 _ _).2.2 b none) (.inl rfl)⟩, ⟨below_step B3.out (two_new w3 _ _).2.2⟩, ⟨hw3.out, by have := hw3.out; omega, G3.out⟩⟩
  case rest =>
    clear M3 K3 B3 X3 HM HB e0 e1 e2 e3 e4 e5 y0 y1 y2 g0 g1 g2 z0 z1 z2 f0 f1 f2 l1 l2
    obtain ⟨L, R, rfl, rfl, XL, XR, XG, HM, HK, HB, HW⟩ := hcut
    obtain ⟨y0, y1, y2, g0, g1, g2⟩ := blk3 XL.out
    go_upto_region 24 with (go_at_call 85; (with_reducible refine (HZ.out _ HB.out).mono ?_); rintro e w6 ⟨rfl, hb6⟩; have n0_ := Aside0.mk (blk_below XL.out hb6); have n1_ := Aside0.mk (blk_below XR.out hb6); have n2_ := Aside0.mk (blk_below XG.out hb6); have n3_ := Aside0.mk (HM.out.below hb6); have n4_ := Aside0.mk (HK.out.trans (KeepBut.of_below hb6 b none) (.inl rfl)); have n5_ := Aside0.mk (below_step HB.out hb6); clear XL XR XG HM HK HB hb6 y0 y1 y2 g0 g1 g2; have XL := n0_; have XR := n1_; have XG := n2_; have HM := n3_; have HK := n4_; have HB := n5_; clear n0_ n1_ n2_ n3_ n4_ n5_; obtain ⟨y0, y1, y2, g0, g1, g2⟩ := blk3 XL.out; obtain ⟨x0, x1, x2, h0, h1, h2⟩ := blk3 XR.out; obtain ⟨z0, z1, z2, f0, f1, f2⟩ := blk3 XG.out)
    cases hv : mt s t i j
    · go_wp2_with (go_at_call 86; (with_reducible refine (HX.out _ HM.out HB.out).mono ?_); rintro e w7 ⟨he, m7, hl7, M7, G7, S7, K7, B7⟩; rw [hv] at he; subst he; have L7 := Aside0.mk hl7; have D7 := Aside0.mk (HG.out.next G7 S7); have S7' := Aside0.mk (Sm3.next (Sm3.refl n m _) S7 HS1.out); have Q7 := Aside0.mk (HK.out.trans K7 (.inl rfl)); have XR7 := Aside0.mk (K7.blk XR.out (by have := HW.out; have := N3.out; omega) (by simp)); have B7' := Aside0.mk B7; have M7' := Aside0.mk M7; clear hl7 M7 G7 S7 K7 B7 x0 x1 x2 h0 h1 h2 y0 y1 y2 g0 g1 g2 z0 z1 z2 f0 f1 f2; obtain ⟨x0, x1, x2, h0, h1, h2⟩ := blk3 XR7.out)
      go_ret
      exact ⟨by rw [hv]; rfl, m7, L7.out, M7'.out, D7.out, S7'.out, Q7.out, B7'.out⟩
    · go_wp2_with (first | (go_at_call 86; (with_reducible refine (HX.out _ HM.out HB.out).mono ?_); rintro e w7 ⟨he, m7, hl7, M7, G7, S7, K7, B7⟩; rw [hv] at he; subst he; have L7 := Aside0.mk hl7; have D7 := Aside0.mk (HG.out.next G7 S7); have S7' := Aside0.mk (Sm3.next (Sm3.refl n m _) S7 HS1.out); have Q7 := Aside0.mk (HK.out.trans K7 (.inl rfl)); have XR7 := Aside0.mk (K7.blk XR.out (by have := HW.out; have := N3.out; omega) (by simp)); have B7' := Aside0.mk B7; have M7' := Aside0.mk M7; clear hl7 M7 G7 S7 K7 B7 x0 x1 x2 h0 h1 h2 y0 y1 y2 g0 g1 g2 z0 z1 z2 f0 f1 f2; obtain ⟨x0, x1, x2, h0, h1, h2⟩ := blk3 XR7.out) | (go_at_call 86; (with_reducible refine (HY.out m7 _ L7.out M7'.out D7.out B7'.out).mono ?_); rintro e w8 ⟨rfl, m8, hl8, M8, G8, S8, K8, B8⟩; have L8 := Aside0.mk (hl8.trans L7.out); have D8 := Aside0.mk (D7.out.next G8 S8); have S8' := Aside0.mk (Sm3.next S7'.out S8 HS2.out); have Q8 := Aside0.mk (Q7.out.trans K8 (.inl rfl)); have B8' := Aside0.mk B8; have M8' := Aside0.mk M8; clear hl8 M8 G8 S8 K8 B8))
      go_ret
      exact ⟨by rw [hv]; rfl, m8, L8.out, M8'.out, D8.out, S8'.out, Q8.out, B8'.out⟩
end
end Go.Proofs.Ytffjfdoghofkdaa.Ext

namespace Go.Proofs.Ytffjfdoghofkdaa.Ext
set_option linter.unusedVariables false
set_option linter.unusedSimpArgs false
open Go Go.RowKit Go.Proofs.YtffjfdoghofkdaaW.PrintWords Go.Proofs.YtffjfdoghofkdaaW.PrintLast Go.Proofs.Ytffjfdoghofkdaa.A
section
variable (w0 : World) (g b : Nat) (hgb : g ≠ b) (hg : w0.heap.size ≤ g) (hb : w0.heap.size ≤ b) (s : ByteArray) (n : Nat) (hn : n ≤ 401) (hsn : s.size + 1 = n) (z : Nat) (hz : z ≤ 16) (T : Nat → Nat → Nat → Bool)
  (bs : ByteArray) (A : Option Addr) (c id i j : Nat) (hij : i ≤ j) (hj : j < n) (m : List Int) (W : World) (hl : m.length = z * n * n) (hM : MSt g b s n m W) (hB : Below w0.heap.size w0 W)
include hgb hg hb hn hsn hz hij hj hl hM hB
set_option linter.unusedSectionVars false
set_option maxHeartbeats 4000000 in
set_option maxRecDepth 100000 in
theorem find_cat (x y : S35) (t u : Rx) (hC : Kd.C k35 w0 A 2 [x, y]) (hid : id + 1 + t.size + u.size ≤ z)
    (hx : ∀ A2 c2, x.f2.length ≤ c2 → Kd.C k35 w0 A2 x.f2.length x.f2 → MC w0 g b s n z T t x.f0 x.f1 A2 x.f2.length c2 (id + 1) n)
    (hy : ∀ A2 c2, y.f2.length ≤ c2 → Kd.C k35 w0 A2 y.f2.length y.f2 → MC w0 g b s n z T u y.f0 y.f1 A2 y.f2.length c2 (id + 1 + t.size) n)
    (hsz : ∀ A2 c2 W', x.f2.length ≤ c2 → Kd.C k35 W' A2 x.f2.length x.f2 → Calls Try.prog 85 #[.agg #[.int .i64 x.f0, .string x.f1, .slice A2 x.f2.length c2]] W' fun e w' => e = .returned (.int .i64 (t.size : Int)) ∧ Below W'.heap.size W' w')
    (hG : Gd n T m (RgF id (1 + t.size + u.size) (j - i))) :
    Calls Try.prog 94 #[.pointer (some ⟨g, 0, none⟩), .agg #[.int .i64 5, .string bs, .slice A 2 c], .int .i64 (id : Int), .int .i64 (i : Int), .int .i64 (j : Int)] W (MPost w0 W g b s n T m (RgF id (1 + t.size + u.size) (j - i)) (exIn (fun k => mt s t i k && mt s u k j) i j)) := by
  obtain ⟨ad, A2, c2, rfl, e0, e1, e2, h3, h4⟩ := arg0_at hC hB
  obtain ⟨A3, c3, e3, e4, e5, h5, h6⟩ := arg1_at hC hB
  have HM := Aside0.mk hM
  have HB := Aside0.mk hB
  have HG := Aside0.mk hG
  have hs1 : ∀ l' a' i' j', RgM (id + 1) t.size l' a' i' j' → RgF id (1 + t.size + u.size) (j - i) a' i' j' := fun l' a' i' j' h => ⟨by have := h.1; omega, by have := h.2.1; omega, fun e => by have := h.1; omega⟩
  have hs2 : ∀ l' a' i' j', RgM (id + 1 + t.size) u.size l' a' i' j' → RgF id (1 + t.size + u.size) (j - i) a' i' j' := fun l' a' i' j' h => ⟨by have := h.1; omega, by have := h.2.1; omega, fun e => by have := h.1; omega⟩
  have HX := Aside0.mk (fun (kk : Nat) (m' : List Int) (W' : World) (h1 : i ≤ kk) (h2 : kk ≤ j) (hl' : m'.length = m.length) (hM' : MSt g b s n m' W') (hG' : Gd n T m' (RgF id (1 + t.size + u.size) (j - i))) (hB' : Below w0.heap.size w0 W') => hx A2 c2 h3 h4 i kk ((id : Int) + 1) i kk m' W' (by omega) rfl rfl h1 (by omega) (by omega) (hl'.trans hl) hM' (hG'.sub (hs1 _)) hB')
  have HY := Aside0.mk (fun (kk : Nat) (m' : List Int) (W' : World) (h1 : i ≤ kk) (h2 : kk ≤ j) (hl' : m'.length = m.length) (hM' : MSt g b s n m' W') (hG' : Gd n T m' (RgF id (1 + t.size + u.size) (j - i))) (hB' : Below w0.heap.size w0 W') => hy A3 c3 h5 h6 kk j ((id : Int) + 1 + (t.size : Int)) kk j m' W' (by omega) rfl rfl h2 hj (by omega) (hl'.trans hl) hM' (hG'.sub (hs2 _)) hB')
  have HZ := Aside0.mk (fun (W' : World) (hB' : Below w0.heap.size w0 W') => hsz A2 c2 W' h3 (Kd.C_below h4 hB'))
  have HS1 := Aside0.mk hs1
  have HS2 := Aside0.mk hs2
  have ht0 : 0 < t.size := t.size_pos
  clear hM hB hG hl hx hy h3 h4 h5 h6 hC hsz hs1 hs2
  go_enter Try.func94, Try.ntmps94
  go_upto_region 22 with ((with_reducible refine gate_dst (N := 6) rfl ?_); refine box_event ?hg (N := 6) ?hd (cs := #[.int .i64 5, .string bs, .slice (some ad) 2 c]) (t := 35) ?hr ?_; (case hd => rfl); (case hg => rfl); (case hr => first | (go_simp; done) | (go_simp; rfl)); intro gx hgx w3 hbox hb3; have M3 := Aside0.mk (HM.out.below hb3); have K3 := Aside0.mk (KeepBut.of_below hb3 b none); have B3 := Aside0.mk (below_step HB.out hb3 : Below w0.heap.size w0 w3); have X3 := Aside0.mk hbox; have G3 := Aside0.mk (show W.heap.size ≤ gx by omega); have N3 := Aside0.mk (show b < W.heap.size from blk_lt HM.out.hb); have e0 := pw_cell_below hb3 e0; have e1 := pw_cell_below hb3 e1; have e2 := pw_cell_below hb3 e2; have e3 := pw_cell_below hb3 e3; have e4 := pw_cell_below hb3 e4; have e5 := pw_cell_below hb3 e5; clear hb3 hbox hgx; obtain ⟨y0, y1, y2, g0, g1, g2⟩ := blk3 X3.out; obtain ⟨z0, z1, z2, f0, f1, f2⟩ := blk3 M3.out.hm)
  have l1 : gx < w3.heap.size := blk_lt X3.out
  have l2 : ad.block < w3.heap.size := World.block_lt_of_cell? w3 _ e0
  go_cut [12, 13] (fun v12 v13 wc => ∃ (L R : Nat), v12 = .pointer (some ⟨L, 0, none⟩) ∧ v13 = .pointer (some ⟨R, 0, none⟩) ∧ Aside0 (wc.heap[L]? = some (.cells #[.int .i64 x.f0, .string x.f1, .slice A2 x.f2.length c2] 35 (0, 0))) ∧ Aside0 (wc.heap[R]? = some (.cells #[.int .i64 y.f0, .string y.f1, .slice A3 y.f2.length c3] 35 (0, 0))) ∧ Aside0 (wc.heap[gx]? = some (.cells #[.int .i64 5, .string bs, .slice (some ad) 2 c] 35 (0, 0))) ∧ Aside0 (MSt g b s n m wc) ∧ Aside0 (KeepBut W wc b none) ∧ Aside0 (Below w0.heap.size w0 wc) ∧ Aside0 (W.heap.size ≤ L ∧ W.heap.size ≤ R ∧ W.heap.size ≤ gx))
  case first =>
    have hw3 : Aside0 (W.heap.size ≤ w3.heap.size) := ⟨K3.out.1⟩
    go_region
    all_goals
      try go_wp2
      go_meet
      case rel =>
        first
        | exact ⟨_, _, rfl, rfl, ⟨(two_new w3 _ _).2.1⟩, ⟨(two_new w3 _ _).1⟩, ⟨blk_below X3.out (two_new w3 _ _).2.2⟩, ⟨M3.out.below (two_new w3 _ _).2.2⟩, ⟨K3.out.trans (KeepBut.of_below (two_new w3 _ _).2.2 b none) (.inl rfl)⟩, ⟨below_step B3.out (two_new w3 _ _).2.2⟩, ⟨by have := hw3.out; omega, hw3.out, G3.out⟩⟩
        | exact ⟨_, _, rfl, rfl, ⟨(two_new w3 _ _).1⟩, ⟨(two_new w3 _ _).2.1⟩, ⟨blk_below X3.out (two_new w3 _ _).2.2⟩, ⟨M3.out.below (two_new w3 _ _).2.2⟩, ⟨K3.out.trans (KeepBut.of_below (two_new w3 _ _).2.2 b none) (.inl rfl)⟩, ⟨below_step B3.out (two_new w3 _ _).2.2⟩, ⟨hw3.out, by have := hw3.out; omega, G3.out⟩⟩
  case rest =>
    clear M3 K3 B3 X3 HM HB e0 e1 e2 e3 e4 e5 y0 y1 y2 g0 g1 g2 z0 z1 z2 f0 f1 f2 l1 l2
    obtain ⟨L, R, rfl, rfl, XL, XR, XG, HM, HK, HB, HW⟩ := hcut
    obtain ⟨y0, y1, y2, g0, g1, g2⟩ := blk3 XL.out
    go_upto_region 24 with (go_at_call 85; (with_reducible refine (HZ.out _ HB.out).mono ?_); rintro e w6 ⟨rfl, hb6⟩; have n0_ := Aside0.mk (blk_below XL.out hb6); have n1_ := Aside0.mk (blk_below XR.out hb6); have n2_ := Aside0.mk (blk_below XG.out hb6); have n3_ := Aside0.mk (HM.out.below hb6); have n4_ := Aside0.mk (HK.out.trans (KeepBut.of_below hb6 b none) (.inl rfl)); have n5_ := Aside0.mk (below_step HB.out hb6); clear XL XR XG HM HK HB hb6 y0 y1 y2 g0 g1 g2; have XL := n0_; have XR := n1_; have XG := n2_; have HM := n3_; have HK := n4_; have HB := n5_; clear n0_ n1_ n2_ n3_ n4_ n5_; obtain ⟨y0, y1, y2, g0, g1, g2⟩ := blk3 XL.out; obtain ⟨x0, x1, x2, h0, h1, h2⟩ := blk3 XR.out; obtain ⟨z0, z1, z2, f0, f1, f2⟩ := blk3 XG.out)
    go_wp2
    clear x0 x1 x2 h0 h1 h2 y0 y1 y2 g0 g1 g2 z0 z1 z2 f0 f1 f2
    go_loopg [15] (j + 1 - i) (fun kq v15 w' => ∃ (kk : Nat) (mm : List Int), v15 = .int .i64 (kk : Int) ∧ Aside0 (kk + kq = j + 1) ∧ Aside0 (i ≤ kk) ∧ Aside0 (∀ k', i ≤ k' → k' < kk → (mt s t i k' && mt s u k' j) = false) ∧ Aside0 (mm.length = m.length) ∧ Aside0 (MSt g b s n mm w') ∧ Aside0 (Gd n T mm (RgF id (1 + t.size + u.size) (j - i))) ∧ Aside0 (Sm3 n m mm (RgF id (1 + t.size + u.size) (j - i))) ∧ Aside0 (KeepBut W w' b none) ∧ Aside0 (Below w0.heap.size w0 w') ∧ Aside0 (w'.heap[L]? = some (.cells #[.int .i64 x.f0, .string x.f1, .slice A2 x.f2.length c2] 35 (0, 0))) ∧ Aside0 (w'.heap[R]? = some (.cells #[.int .i64 y.f0, .string y.f1, .slice A3 y.f2.length c3] 35 (0, 0))))
    case atStart => exact ⟨i, m, rfl, ⟨by omega⟩, ⟨Nat.le_refl _⟩, ⟨fun k' h1 h2 => by omega⟩, ⟨rfl⟩, HM, HG, ⟨Sm3.refl _ _ _⟩, HK, HB, XL, XR⟩
    case round =>
      clear HM HG HK HB XL XR XG
      obtain ⟨kk, mm, rfl, HQ, HK1, HN, HL, HM, HD, HS, HK, HB, XL, XR⟩ := hrel
      obtain ⟨y0, y1, y2, g0, g1, g2⟩ := blk3 XL.out
      obtain ⟨x0, x1, x2, h0, h1, h2⟩ := blk3 XR.out
      by_cases hle : kk ≤ j
      · have HK2 := Aside0.mk hle
        have hd : decide (kk ≤ j) = true := decide_eq_true hle
        clear hle
        have hk9 : kk ≤ 401 := by have := HK2.out; omega
        cases gk with
        | zero => exact absurd HQ.out (by have := HK2.out; omega)
        | succ k1 =>
          cases hv : mt s t i kk
          · go_wp2_with (go_at_call 86; (with_reducible refine (HX.out kk mm _ HK1.out HK2.out HL.out HM.out HD.out HB.out).mono ?_); rintro e w7 ⟨he, m7, hl7, M7, G7, S7, K7, B7⟩; rw [hv] at he; subst he; have L7 := Aside0.mk (hl7.trans HL.out); have D7 := Aside0.mk (HD.out.next G7 S7); have S7' := Aside0.mk (Sm3.next HS.out S7 (HS1.out _)); have Q7 := Aside0.mk (HK.out.trans K7 (.inl rfl)); have XR7 := Aside0.mk (K7.blk XR.out (by have := HW.out; have := N3.out; omega) (by simp)); have XL7 := Aside0.mk (K7.blk XL.out (by have := HW.out; have := N3.out; omega) (by simp)); have B7' := Aside0.mk B7; have M7' := Aside0.mk M7; clear hl7 M7 G7 S7 K7 B7 x0 x1 x2 h0 h1 h2 y0 y1 y2 g0 g1 g2; obtain ⟨x0, x1, x2, h0, h1, h2⟩ := blk3 XR7.out)
            go_roundg k1
            case measure => omega
            case rel => exact ⟨kk + 1, m7, by first | rfl | (simp; done), ⟨by have := HQ.out; omega⟩, ⟨by have := HK1.out; omega⟩, ⟨fun k' h1 h2 => by
                by_cases e : k' = kk
                · subst e; rw [hv]; rfl
                · exact HN.out k' h1 (by omega)⟩, L7, M7', D7, S7', Q7, B7', XL7, XR7⟩
          · cases hv2 : mt s u kk j
            · go_wp2_with (first | (go_at_call 86; (with_reducible refine (HX.out kk mm _ HK1.out HK2.out HL.out HM.out HD.out HB.out).mono ?_); rintro e w7 ⟨he, m7, hl7, M7, G7, S7, K7, B7⟩; rw [hv] at he; subst he; have L7 := Aside0.mk (hl7.trans HL.out); have D7 := Aside0.mk (HD.out.next G7 S7); have S7' := Aside0.mk (Sm3.next HS.out S7 (HS1.out _)); have Q7 := Aside0.mk (HK.out.trans K7 (.inl rfl)); have XR7 := Aside0.mk (K7.blk XR.out (by have := HW.out; have := N3.out; omega) (by simp)); have XL7 := Aside0.mk (K7.blk XL.out (by have := HW.out; have := N3.out; omega) (by simp)); have B7' := Aside0.mk B7; have M7' := Aside0.mk M7; clear hl7 M7 G7 S7 K7 B7 x0 x1 x2 h0 h1 h2 y0 y1 y2 g0 g1 g2; obtain ⟨x0, x1, x2, h0, h1, h2⟩ := blk3 XR7.out) | (go_at_call 86; (with_reducible refine (HY.out kk m7 _ HK1.out HK2.out L7.out M7'.out D7.out B7'.out).mono ?_); rintro e w8 ⟨he, m8, hl8, M8, G8, S8, K8, B8⟩; rw [hv2] at he; subst he; have L8 := Aside0.mk (hl8.trans L7.out); have D8 := Aside0.mk (D7.out.next G8 S8); have S8' := Aside0.mk (Sm3.next S7'.out S8 (HS2.out _)); have Q8 := Aside0.mk (Q7.out.trans K8 (.inl rfl)); have XR8 := Aside0.mk (K8.blk XR7.out (by have := HW.out; have := N3.out; omega) (by simp)); have XL8 := Aside0.mk (K8.blk XL7.out (by have := HW.out; have := N3.out; omega) (by simp)); have B8' := Aside0.mk B8; have M8' := Aside0.mk M8; clear hl8 M8 G8 S8 K8 B8))
              go_roundg k1
              case measure => omega
              case rel => exact ⟨kk + 1, m8, by first | rfl | (simp; done), ⟨by have := HQ.out; omega⟩, ⟨by have := HK1.out; omega⟩, ⟨fun k' h1 h2 => by
                  by_cases e : k' = kk
                  · subst e; rw [hv, hv2]; rfl
                  · exact HN.out k' h1 (by omega)⟩, L8, M8', D8, S8', Q8, B8', XL8, XR8⟩
            · go_wp2_with (first | (go_at_call 86; (with_reducible refine (HX.out kk mm _ HK1.out HK2.out HL.out HM.out HD.out HB.out).mono ?_); rintro e w7 ⟨he, m7, hl7, M7, G7, S7, K7, B7⟩; rw [hv] at he; subst he; have L7 := Aside0.mk (hl7.trans HL.out); have D7 := Aside0.mk (HD.out.next G7 S7); have S7' := Aside0.mk (Sm3.next HS.out S7 (HS1.out _)); have Q7 := Aside0.mk (HK.out.trans K7 (.inl rfl)); have XR7 := Aside0.mk (K7.blk XR.out (by have := HW.out; have := N3.out; omega) (by simp)); have XL7 := Aside0.mk (K7.blk XL.out (by have := HW.out; have := N3.out; omega) (by simp)); have B7' := Aside0.mk B7; have M7' := Aside0.mk M7; clear hl7 M7 G7 S7 K7 B7 x0 x1 x2 h0 h1 h2 y0 y1 y2 g0 g1 g2; obtain ⟨x0, x1, x2, h0, h1, h2⟩ := blk3 XR7.out) | (go_at_call 86; (with_reducible refine (HY.out kk m7 _ HK1.out HK2.out L7.out M7'.out D7.out B7'.out).mono ?_); rintro e w8 ⟨he, m8, hl8, M8, G8, S8, K8, B8⟩; rw [hv2] at he; subst he; have L8 := Aside0.mk (hl8.trans L7.out); have D8 := Aside0.mk (D7.out.next G8 S8); have S8' := Aside0.mk (Sm3.next S7'.out S8 (HS2.out _)); have Q8 := Aside0.mk (Q7.out.trans K8 (.inl rfl)); have XR8 := Aside0.mk (K8.blk XR7.out (by have := HW.out; have := N3.out; omega) (by simp)); have XL8 := Aside0.mk (K8.blk XL7.out (by have := HW.out; have := N3.out; omega) (by simp)); have B8' := Aside0.mk B8; have M8' := Aside0.mk M8; clear hl8 M8 G8 S8 K8 B8))
              go_ret
              exact ⟨by rw [(exIn_iff _ _ _).2 ⟨kk, HK1.out, HK2.out, by rw [hv, hv2]; rfl⟩]; rfl, m8, L8.out, M8'.out, D8.out, S8'.out, Q8.out, B8'.out⟩
      · have hd : decide (kk ≤ j) = false := decide_eq_false hle
        have HE : exIn (fun k => mt s t i k && mt s u k j) i j = false := by
          rw [Bool.eq_false_iff]
          intro h
          obtain ⟨k', h1, h2, h3⟩ := (exIn_iff _ _ _).1 h
          rw [HN.out k' h1 (by omega)] at h3
          exact absurd h3 (by simp)
        have HE2 := Aside0.mk HE
        clear hle HE
        go_wp2
        go_ret
        exact ⟨by rw [HE2.out]; rfl, mm, HL.out, HM.out, HD.out, HS.out, HK.out, HB.out⟩
end
end Go.Proofs.Ytffjfdoghofkdaa.Ext

namespace Go.Proofs.Ytffjfdoghofkdaa.Ext
set_option linter.unusedVariables false
set_option linter.unusedSimpArgs false
open Go Go.RowKit Go.Proofs.YtffjfdoghofkdaaW.PrintWords Go.Proofs.YtffjfdoghofkdaaW.PrintLast Go.Proofs.Ytffjfdoghofkdaa.A
section
variable (w0 : World) (g b : Nat) (hgb : g ≠ b) (hg : w0.heap.size ≤ g) (hb : w0.heap.size ≤ b) (s : ByteArray) (n : Nat) (hn : n ≤ 401) (hsn : s.size + 1 = n) (z : Nat) (hz : z ≤ 16) (T : Nat → Nat → Nat → Bool)
  (bs : ByteArray) (A : Option Addr) (c id i j : Nat) (hij : i ≤ j) (hj : j < n) (m : List Int) (W : World) (hl : m.length = z * n * n) (hM : MSt g b s n m W) (hB : Below w0.heap.size w0 W)
include hgb hg hb hn hsn hz hij hj hl hM hB
set_option linter.unusedSectionVars false
set_option maxHeartbeats 4000000 in
set_option maxRecDepth 100000 in
theorem find_star (x : S35) (u : Rx) (hC : Kd.C k35 w0 A 1 [x]) (hid : id + 1 + u.size ≤ z)
    (hx : ∀ A2 c2, x.f2.length ≤ c2 → Kd.C k35 w0 A2 x.f2.length x.f2 → MC w0 g b s n z T u x.f0 x.f1 A2 x.f2.length c2 (id + 1) n)
    (hs : MC w0 g b s n z T (.star u) 8 bs A 1 c id (j - i))
    (hG : Gd n T m (RgF id (1 + u.size) (j - i))) :
    Calls Try.prog 94 #[.pointer (some ⟨g, 0, none⟩), .agg #[.int .i64 8, .string bs, .slice A 1 c], .int .i64 (id : Int), .int .i64 (i : Int), .int .i64 (j : Int)] W (MPost w0 W g b s n T m (RgF id (1 + u.size) (j - i)) (mt s (.star u) i j)) := by
  obtain ⟨ad, A2, c2, rfl, e0, e1, e2, h3, h4⟩ := arg0_at hC (Below.refl _ w0)
  have hs1 : ∀ l' a' i' j', RgM (id + 1) u.size l' a' i' j' → RgF id (1 + u.size) (j - i) a' i' j' := fun l' a' i' j' h => ⟨by have := h.1; omega, by have := h.2.1; omega, fun e => by have := h.1; omega⟩
  have hs2 : ∀ kk, i + 1 ≤ kk → kk ≤ j → ∀ a' i' j', RgM id (Rx.star u).size (j - kk) a' i' j' → RgF id (1 + u.size) (j - i) a' i' j' := fun kk hk hk2 a' i' j' h => ⟨h.1, h.2.1, fun e => by have := h.2.2 e; simp only [Rx.size] at h; omega⟩
  have HX := Aside0.mk (fun (kk : Nat) (m' : List Int) (W' : World) (h1 : i + 1 ≤ kk) (h2 : kk ≤ j) (hl' : m'.length = m.length) (hM' : MSt g b s n m' W') (hG' : Gd n T m' (RgF id (1 + u.size) (j - i))) (hB' : Below w0.heap.size w0 W') => hx A2 c2 h3 h4 i kk ((id : Int) + 1) i kk m' W' (by omega) rfl rfl (by omega) (by omega) (by omega) (hl'.trans hl) hM' (hG'.sub (hs1 _)) hB')
  have HY := Aside0.mk (fun (kk : Nat) (m' : List Int) (W' : World) (h1 : i + 1 ≤ kk) (h2 : kk ≤ j) (hl' : m'.length = m.length) (hM' : MSt g b s n m' W') (hG' : Gd n T m' (RgF id (1 + u.size) (j - i))) (hB' : Below w0.heap.size w0 W') => hs kk j (id : Int) kk j m' W' rfl rfl rfl h2 hj (by omega) (hl'.trans hl) hM' (hG'.sub (hs2 kk h1 h2)) hB')
  have HS1 := Aside0.mk hs1
  have HS2 := Aside0.mk hs2
  have HM := Aside0.mk hM
  have HB := Aside0.mk hB
  have HG := Aside0.mk hG
  clear hM hB hG hl hx h3 h4 hC hs hs1 hs2
  by_cases hd : i = j
  · subst hd
    go_enter Try.func94, Try.ntmps94
    go_wp2_with ((with_reducible refine gate_dst (N := 6) rfl ?_); refine box_event ?hg (N := 6) ?hd (cs := #[.int .i64 8, .string bs, .slice (some ad) 1 c]) (t := 35) ?hr ?_; (case hd => rfl); (case hg => rfl); (case hr => first | (go_simp; done) | (go_simp; rfl)); intro gx hgx w3 hbox hb3; have M3 := Aside0.mk (HM.out.below hb3); have K3 := Aside0.mk (KeepBut.of_below hb3 b none); have B3 := Aside0.mk (below_step HB.out hb3 : Below w0.heap.size w0 w3); have X3 := Aside0.mk hbox; have G3 := Aside0.mk (show W.heap.size ≤ gx by omega); have N3 := Aside0.mk (show b < W.heap.size from blk_lt HM.out.hb); have e0' := pw_cell_below (below_then HB.out HB.out.size hb3) e0; have e1' := pw_cell_below (below_then HB.out HB.out.size hb3) e1; have e2' := pw_cell_below (below_then HB.out HB.out.size hb3) e2; clear hb3 hbox hgx; obtain ⟨y0, y1, y2, g0, g1, g2⟩ := blk3 X3.out; obtain ⟨z0, z1, z2, f0, f1, f2⟩ := blk3 M3.out.hm)
    go_ret
    exact ⟨by rw [star_self]; rfl, m, rfl, M3.out, HG.out, Sm3.refl _ _ _, K3.out, B3.out⟩
  · have hlt : i < j := by omega
    have HR := Aside0.mk (star_first s u i j hlt)
    have hd2 : (i == j) = false := by simpa using hd
    have hd3 : ((i : Int) == (j : Int)) = false := by simp; omega
    clear hd
    have hi9 : i ≤ 401 := by omega
    go_enter Try.func94, Try.ntmps94
    go_wp2_with ((with_reducible refine gate_dst (N := 6) rfl ?_); refine box_event ?hg (N := 6) ?hd (cs := #[.int .i64 8, .string bs, .slice (some ad) 1 c]) (t := 35) ?hr ?_; (case hd => rfl); (case hg => rfl); (case hr => first | (go_simp; done) | (go_simp; rfl)); intro gx hgx w3 hbox hb3; have M3 := Aside0.mk (HM.out.below hb3); have K3 := Aside0.mk (KeepBut.of_below hb3 b none); have B3 := Aside0.mk (below_step HB.out hb3 : Below w0.heap.size w0 w3); have X3 := Aside0.mk hbox; have G3 := Aside0.mk (show W.heap.size ≤ gx by omega); have N3 := Aside0.mk (show b < W.heap.size from blk_lt HM.out.hb); have e0' := pw_cell_below (below_then HB.out HB.out.size hb3) e0; have e1' := pw_cell_below (below_then HB.out HB.out.size hb3) e1; have e2' := pw_cell_below (below_then HB.out HB.out.size hb3) e2; clear hb3 hbox hgx; obtain ⟨y0, y1, y2, g0, g1, g2⟩ := blk3 X3.out; obtain ⟨z0, z1, z2, f0, f1, f2⟩ := blk3 M3.out.hm)
    clear y0 y1 y2 g0 g1 g2 z0 z1 z2 f0 f1 f2 hd2 hd3
    go_loopg [11] (j - i) (fun kq v11 w' => ∃ (kk : Nat) (mm : List Int), v11 = .int .i64 (kk : Int) ∧ Aside0 (kk + kq = j + 1) ∧ Aside0 (i + 1 ≤ kk) ∧ Aside0 (∀ k', i + 1 ≤ k' → k' < kk → (mt s u i k' && mt s (.star u) k' j) = false) ∧ Aside0 (mm.length = m.length) ∧ Aside0 (MSt g b s n mm w') ∧ Aside0 (Gd n T mm (RgF id (1 + u.size) (j - i))) ∧ Aside0 (Sm3 n m mm (RgF id (1 + u.size) (j - i))) ∧ Aside0 (KeepBut W w' b none) ∧ Aside0 (Below w0.heap.size w0 w') ∧ Aside0 (w'.heap[gx]? = some (.cells #[.int .i64 8, .string bs, .slice (some ad) 1 c] 35 (0, 0))))
    case atStart => exact ⟨i + 1, m, by first | rfl | (simp; done), ⟨by omega⟩, ⟨Nat.le_refl _⟩, ⟨fun k' h1 h2 => by omega⟩, ⟨rfl⟩, M3, HG, ⟨Sm3.refl _ _ _⟩, K3, B3, X3⟩
    case round =>
      clear HM HG HB M3 K3 B3 X3
      obtain ⟨kk, mm, rfl, HQ, HK1, HN, HL, HM, HD, HS, HK, HB, XG⟩ := hrel
      obtain ⟨y0, y1, y2, g0, g1, g2⟩ := blk3 XG.out
      have e0' := (HB.out.cell (World.block_lt_of_cell? w0 _ e0)).trans e0; have e1' := (HB.out.cell (World.block_lt_of_cell? w0 _ e1)).trans e1; have e2' := (HB.out.cell (World.block_lt_of_cell? w0 _ e2)).trans e2
      by_cases hle : kk ≤ j
      · have HK2 := Aside0.mk hle
        have hd : decide (kk ≤ j) = true := decide_eq_true hle
        clear hle
        have hk9 : kk ≤ 401 := by have := HK2.out; omega
        cases gk with
        | zero => exact absurd HQ.out (by have := HK2.out; omega)
        | succ k1 =>
          cases hv : mt s u i kk
          · go_wp2_with (go_at_call 86; (with_reducible refine (HX.out kk mm _ HK1.out HK2.out HL.out HM.out HD.out HB.out).mono ?_); rintro e w7 ⟨he, m7, hl7, M7, G7, S7, K7, B7⟩; rw [hv] at he; subst he; have L7 := Aside0.mk (hl7.trans HL.out); have D7 := Aside0.mk (HD.out.next G7 S7); have S7' := Aside0.mk (Sm3.next HS.out S7 (HS1.out _)); have Q7 := Aside0.mk (HK.out.trans K7 (.inl rfl)); have XG7 := Aside0.mk (K7.blk XG.out (by have := G3.out; have := N3.out; omega) (by simp)); have B7' := Aside0.mk B7; have M7' := Aside0.mk M7; clear hl7 M7 G7 S7 K7 B7 y0 y1 y2 g0 g1 g2 e0' e1' e2'; obtain ⟨y0, y1, y2, g0, g1, g2⟩ := blk3 XG7.out)
            go_roundg k1
            case measure => omega
            case rel => exact ⟨kk + 1, m7, by first | rfl | (simp; done), ⟨by have := HQ.out; omega⟩, ⟨by have := HK1.out; omega⟩, ⟨fun k' h1 h2 => by
                by_cases e : k' = kk
                · subst e; rw [hv]; rfl
                · exact HN.out k' h1 (by omega)⟩, L7, M7', D7, S7', Q7, B7', XG7⟩
          · cases hv2 : mt s (.star u) kk j
            · go_wp2_with (first | (go_at_call 86; (with_reducible refine (HX.out kk mm _ HK1.out HK2.out HL.out HM.out HD.out HB.out).mono ?_); rintro e w7 ⟨he, m7, hl7, M7, G7, S7, K7, B7⟩; rw [hv] at he; subst he; have L7 := Aside0.mk (hl7.trans HL.out); have D7 := Aside0.mk (HD.out.next G7 S7); have S7' := Aside0.mk (Sm3.next HS.out S7 (HS1.out _)); have Q7 := Aside0.mk (HK.out.trans K7 (.inl rfl)); have XG7 := Aside0.mk (K7.blk XG.out (by have := G3.out; have := N3.out; omega) (by simp)); have B7' := Aside0.mk B7; have M7' := Aside0.mk M7; clear hl7 M7 G7 S7 K7 B7 y0 y1 y2 g0 g1 g2 e0' e1' e2'; obtain ⟨y0, y1, y2, g0, g1, g2⟩ := blk3 XG7.out) | (go_at_call 86; (with_reducible refine (HY.out kk m7 _ HK1.out HK2.out L7.out M7'.out D7.out B7'.out).mono ?_); rintro e w8 ⟨he, m8, hl8, M8, G8, S8, K8, B8⟩; rw [hv2] at he; subst he; have L8 := Aside0.mk (hl8.trans L7.out); have D8 := Aside0.mk (D7.out.next G8 S8); have S8' := Aside0.mk (Sm3.next S7'.out S8 (HS2.out kk HK1.out HK2.out)); have Q8 := Aside0.mk (Q7.out.trans K8 (.inl rfl)); have XG8 := Aside0.mk (K8.blk XG7.out (by have := G3.out; have := N3.out; omega) (by simp)); have B8' := Aside0.mk B8; have M8' := Aside0.mk M8; clear hl8 M8 G8 S8 K8 B8))
              go_roundg k1
              case measure => omega
              case rel => exact ⟨kk + 1, m8, by first | rfl | (simp; done), ⟨by have := HQ.out; omega⟩, ⟨by have := HK1.out; omega⟩, ⟨fun k' h1 h2 => by
                  by_cases e : k' = kk
                  · subst e; rw [hv, hv2]; rfl
                  · exact HN.out k' h1 (by omega)⟩, L8, M8', D8, S8', Q8, B8', XG8⟩
            · go_wp2_with (first | (go_at_call 86; (with_reducible refine (HX.out kk mm _ HK1.out HK2.out HL.out HM.out HD.out HB.out).mono ?_); rintro e w7 ⟨he, m7, hl7, M7, G7, S7, K7, B7⟩; rw [hv] at he; subst he; have L7 := Aside0.mk (hl7.trans HL.out); have D7 := Aside0.mk (HD.out.next G7 S7); have S7' := Aside0.mk (Sm3.next HS.out S7 (HS1.out _)); have Q7 := Aside0.mk (HK.out.trans K7 (.inl rfl)); have XG7 := Aside0.mk (K7.blk XG.out (by have := G3.out; have := N3.out; omega) (by simp)); have B7' := Aside0.mk B7; have M7' := Aside0.mk M7; clear hl7 M7 G7 S7 K7 B7 y0 y1 y2 g0 g1 g2 e0' e1' e2'; obtain ⟨y0, y1, y2, g0, g1, g2⟩ := blk3 XG7.out) | (go_at_call 86; (with_reducible refine (HY.out kk m7 _ HK1.out HK2.out L7.out M7'.out D7.out B7'.out).mono ?_); rintro e w8 ⟨he, m8, hl8, M8, G8, S8, K8, B8⟩; rw [hv2] at he; subst he; have L8 := Aside0.mk (hl8.trans L7.out); have D8 := Aside0.mk (D7.out.next G8 S8); have S8' := Aside0.mk (Sm3.next S7'.out S8 (HS2.out kk HK1.out HK2.out)); have Q8 := Aside0.mk (Q7.out.trans K8 (.inl rfl)); have XG8 := Aside0.mk (K8.blk XG7.out (by have := G3.out; have := N3.out; omega) (by simp)); have B8' := Aside0.mk B8; have M8' := Aside0.mk M8; clear hl8 M8 G8 S8 K8 B8))
              go_ret
              exact ⟨by rw [HR.out, (exIn_iff _ _ _).2 ⟨kk, HK1.out, HK2.out, by rw [hv, hv2]; rfl⟩]; rfl, m8, L8.out, M8'.out, D8.out, S8'.out, Q8.out, B8'.out⟩
      · have hd : decide (kk ≤ j) = false := decide_eq_false hle
        have HE : exIn (fun k => mt s u i k && mt s (.star u) k j) (i + 1) j = false := by
          rw [Bool.eq_false_iff]
          intro h
          obtain ⟨k', h1, h2, h3⟩ := (exIn_iff _ _ _).1 h
          rw [HN.out k' h1 (by omega)] at h3
          exact absurd h3 (by simp)
        have HE2 := Aside0.mk HE
        clear hle HE
        go_wp2
        go_ret
        exact ⟨by rw [HR.out, HE2.out]; rfl, mm, HL.out, HM.out, HD.out, HS.out, HK.out, HB.out⟩
end
end Go.Proofs.Ytffjfdoghofkdaa.Ext

namespace Go.Proofs.Ytffjfdoghofkdaa.A
open Go.RowKit Go.Proofs.Ytffjfdoghofkdaa.Ext Go.Proofs.YtffjfdoghofkdaaW.PrintWords Go.Proofs.YtffjfdoghofkdaaW.PrintLast Go.Proofs.YtffjfdoghofkdaaW.PrintMore
attribute [local go_sem] max2_int min2_int max_two min_two max_three min_three max_four min_four   -- for this text's walks alone
set_option linter.unusedVariables false
set_option linter.unusedSimpArgs false

/-! ### impl_size: function 85 -/
mutual
def impl_size.l0 : Nat → Int → List (S35) → Int → Int → Option (Int)
  | 0, _, _, _, _ => none
  | k + 1, x3, x7, x8, x9 => if x9 < x8 then (if 0 ≤ x9 then (if x9 < (x7.length : Int) then ((impl_size.f k ((rd_T35 x7 x9).f0) ((rd_T35 x7 x9).f1) ((rd_T35 x7 x9).f2)).bind fun t85004 => (impl_size.l0 k (wrap64 (x3 + t85004)) x7 x8 (wrap64 (x9 + 1)))) else (none)) else (none)) else (some x3)
def impl_size.f : Nat → Int → ByteArray → List (S35) → Option (Int)
  | 0, _, _, _ => none
  | k + 1, a0_0, a0_1, l0_2 => impl_size.l0 k 1 l0_2 (l0_2.length : Int) 0
end
theorem impl_size.mono_l : ∀ k, (∀ y0 y1 y2, LeO (impl_size.f k y0 y1 y2) (impl_size.f (k + 1) y0 y1 y2)) ∧ (∀ y0 y1 y2 y3, LeO (impl_size.l0 k y0 y1 y2 y3) (impl_size.l0 (k + 1) y0 y1 y2 y3))
  | 0 => ⟨fun _ _ _ r h => by simp [impl_size.f] at h, fun _ _ _ _ r h => by simp [impl_size.l0] at h⟩
  | k + 1 => by
    obtain ⟨ih0, ih1⟩ := impl_size.mono_l k
    refine ⟨?_, ?_⟩
    · intro y0 y1 y2
      unfold impl_size.f
      repeat' first
      | with_reducible first | exact ih0 _ _ _ | exact ih1 _ _ _ _ | exact LeO.refl _ | exact LeO.none _ | refine LeO.ite ?_ ?_ | refine LeO.bind ?_ (fun _ => ?_)
      | exact ih0 _ _ _ | exact ih1 _ _ _ _ | exact LeO.none _ | refine LeO.ite ?_ ?_ | refine LeO.bind ?_ (fun _ => ?_)
    · intro y0 y1 y2 y3
      unfold impl_size.l0
      repeat' first
      | with_reducible first | exact ih0 _ _ _ | exact ih1 _ _ _ _ | exact LeO.refl _ | exact LeO.none _ | refine LeO.ite ?_ ?_ | refine LeO.bind ?_ (fun _ => ?_)
      | exact ih0 _ _ _ | exact ih1 _ _ _ _ | exact LeO.none _ | refine LeO.ite ?_ ?_ | refine LeO.bind ?_ (fun _ => ?_)
theorem impl_size.mono : ∀ a0 a1 a2 k, LeO (impl_size.f k a0 a1 a2) (impl_size.f (k + 1) a0 a1 a2) := by
  intro a0 a1 a2 k
  obtain ⟨ih0, ih1⟩ := impl_size.mono_l k
  exact ih0 a0 a1 a2
set_option maxHeartbeats 8000000 in
set_option maxRecDepth 100000 in
theorem impl_size.calls (k : Nat) : ∀ (a0_0 : Int) (a0_1 : ByteArray) (A0_2 : Option Addr) (c0_2 : Nat) (l0_2 : List (S35)) (r : Int) (w : World) (hr0_2 : Kd.C k35 w A0_2 l0_2.length l0_2) (hc0_2 : l0_2.length ≤ c0_2) (h : impl_size.f k a0_0 a0_1 l0_2 = some r),
    Calls Try.prog 85 #[.agg #[.int .i64 a0_0, .string a0_1, .slice A0_2 l0_2.length c0_2]] w fun e w' => e = .returned (.int .i64 r) ∧ Below w.heap.size w w' := by
  induction k using Nat.strongRecOn with
  | _ k ih =>
  intro a0_0 a0_1 A0_2 c0_2 l0_2 r w hr0_2 hc0_2 h
  cases k with
  | zero => exact absurd h (by simp [impl_size.f])
  | succ k =>
  simp only [impl_size.f] at h
  have hu35 := Try.underlying35
  have HR0_2 := Aside0.mk hr0_2
  have HC0_2 := Aside0.mk hc0_2
  clear hr0_2 hc0_2
  have HB := Aside0.mk (Below.refl w.heap.size w)
  have H : (impl_size.l0 k 1 l0_2 (l0_2.length : Int) 0) = some r := h
  clear h
  have H' := Aside0.mk H
  clear H
  go_enter Try.func85, Try.ntmps85
  go_wp2_with (first | ((with_reducible refine gate_dst (N := 1) rfl ?_); refine box_event ?hg (N := 1) ?hd (cs := #[.int .i64 a0_0, .string a0_1, .slice A0_2 l0_2.length c0_2]) (t := 35) ?hr ?_; (case hd => rfl); (case hg => rfl); (case hr => first | (go_simp; done) | (go_simp; rfl)); intro gb85001 hg w2 hbox hb; have n0_ := Aside0.mk (below_step (by repeat (first | (with_reducible first | exact HB.out | apply below_alloc | apply pw_below_drewN | apply below_drew1 | refine below_set ?_ (Aside0.out (by assumption))) | exact HB.out)) hb); have n1_ := Aside0.mk (hbox); have n2_ := Aside0.mk ((by rw [hg]; exact (below_size (by repeat (first | (with_reducible first | exact HB.out | apply below_alloc | apply pw_below_drewN | apply below_drew1 | refine below_set ?_ (Aside0.out (by assumption))) | exact HB.out))) : w.heap.size ≤ gb85001)); have n3_ := Aside0.mk ((by rw [hg]; exact (below_size (by repeat (first | (with_reducible first | exact HB.out | apply below_alloc | apply pw_below_drewN | apply below_drew1 | refine below_set ?_ (Aside0.out (by assumption))) | exact HB.out))) : w.heap.size ≤ gb85001)); clear HB; have HB := n0_; have BK85001 := n1_; have GW85001 := n2_; have GE85001 := n3_; clear n0_ n1_ n2_ n3_; clear hb hbox hg; obtain ⟨hcz3_0, hcz3_1, hcz3_2, hfz3_0, hfz3_1, hfz3_2⟩ := blk3 BK85001.out))
  first | go_loopg [3, 9] k (fun kq v3 v9 w' => ∃ (x3_1 : Int) (x9_1 : Int), v3 = .int .i64 x3_1 ∧ v9 = .int .i64 x9_1 ∧ Aside0 (impl_size.l0 kq x3_1 l0_2 (l0_2.length : Int) x9_1 = some r) ∧ Aside0 (kq ≤ k) ∧ Aside0 (w'.heap[gb85001]? = some (.cells #[.int .i64 a0_0, .string a0_1, (.slice A0_2 l0_2.length c0_2)] 35 (0, 0))) ∧ Aside0 (Below w.heap.size w w')) | (simp only [Act.put, List.setIfInBounds_toArray, List.set_cons_succ, List.set_cons_zero]; go_loopg [3, 9] k (fun kq v3 v9 w' => ∃ (x3_1 : Int) (x9_1 : Int), v3 = .int .i64 x3_1 ∧ v9 = .int .i64 x9_1 ∧ Aside0 (impl_size.l0 kq x3_1 l0_2 (l0_2.length : Int) x9_1 = some r) ∧ Aside0 (kq ≤ k) ∧ Aside0 (w'.heap[gb85001]? = some (.cells #[.int .i64 a0_0, .string a0_1, (.slice A0_2 l0_2.length c0_2)] 35 (0, 0))) ∧ Aside0 (Below w.heap.size w w')))
  case atStart => exact ⟨(1), (0), (by first | rfl | (simp; done) | (simp [*]; done)), (by first | rfl | (simp; done) | (simp [*]; done)), H', ⟨Nat.le_refl _⟩, ⟨by (with_reducible repeat (first | refine blk_drewN ?_ _ | refine blk_drew ?_ | refine blk_alloc ?_ _)); exact BK85001.out⟩, ⟨by repeat (first | (with_reducible first | exact HB.out | apply below_alloc | apply pw_below_drewN | apply below_drew1 | refine below_set ?_ (Aside0.out (by assumption))) | exact HB.out)⟩⟩
  case round =>
   clear H'
   try clear hcz3_0
   try clear hcz3_1
   try clear hcz3_2
   try clear hfz3_0
   try clear hfz3_1
   try clear hfz3_2
   obtain ⟨x3_1, x9_1, rfl, rfl, HA, HK1, BK85001, HB⟩ := hrel
   cases gk with
   | zero => exact absurd HA.out (by simp [impl_size.l0])
   | succ k1 =>
    have H := HA.out
    clear HA
    simp only [impl_size.l0] at H
    by_cases c4 : x9_1 < (l0_2.length : Int)
    rw [if_pos c4] at H
    have c4b0 : decide (x9_1 < (l0_2.length : Int)) = true := decide_eq_true c4
    clear c4
    by_cases c5 : 0 ≤ x9_1
    rw [if_pos c5] at H
    have c5b0 : decide (0 ≤ x9_1) = true := decide_eq_true c5
    clear c5
    by_cases c6 : x9_1 < (l0_2.length : Int)
    · rw [if_pos c6] at H
      have c6b0 : decide (x9_1 < (l0_2.length : Int)) = true := decide_eq_true c6
      clear c6
      replace H := Option.bind_eq_some_iff.mp H
      obtain ⟨t85004, A70, H⟩ := H
      replace H : (impl_size.l0 k1 (wrap64 (x3_1 + t85004)) l0_2 (l0_2.length : Int) (wrap64 (x9_1 + 1))) = some r := H
      have A7 := Aside0.mk A70
      clear A70
      have H' := Aside0.mk H
      clear H
      have p85002 : 0 ≤ (x9_1 : Int) := of_decide_eq_true (by first | (with_reducible assumption) | assumption)
      have q85002 : x9_1 < (l0_2.length : Int) := of_decide_eq_true (by first | (with_reducible assumption) | assumption)
      obtain ⟨ad85002, A85002_2, c85002_2, e85002, hx85002_0, hx85002_1, hx85002_2, hl85002_2, hi85002_2⟩ := at_T35 HR0_2.out x9_1 p85002 q85002
      cases e85002
      replace hx85002_0 := (HB.out.cell (World.block_lt_of_cell? w _ hx85002_0)).trans hx85002_0
      replace hx85002_1 := (HB.out.cell (World.block_lt_of_cell? w _ hx85002_1)).trans hx85002_1
      replace hx85002_2 := (HB.out.cell (World.block_lt_of_cell? w _ hx85002_2)).trans hx85002_2
      have HR85002_2 := Aside0.mk hi85002_2
      have HC85002_2 := Aside0.mk hl85002_2
      clear hi85002_2 hl85002_2
      replace p85002 := eq_true p85002
      replace q85002 := eq_true q85002
      go_wp2_with (first | ((with_reducible refine gate_dst (N := 5) rfl ?_); refine box_event ?hg (N := 5) ?hd (cs := #[.int .i64 0, .string (⟨#[]⟩ : ByteArray), .slice none 0 0]) (t := 35) ?hr ?_; (case hd => rfl); (case hg => rfl); (case hr => first | (go_simp; done) | (go_simp; rfl)); intro gb85003 hg w8 hbox hb; have n0_ := Aside0.mk (blk_below (g := gb85001) (o := .cells #[.int .i64 a0_0, .string a0_1, .slice (some ad85002) l0_2.length c0_2] 35 (0, 0)) (by (with_reducible repeat (first | refine blk_drewN ?_ _ | refine blk_drew ?_ | refine blk_alloc ?_ _)); exact BK85001.out) hb); have n1_ := Aside0.mk (below_step (by repeat (first | (with_reducible first | exact HB.out | apply below_alloc | apply pw_below_drewN | apply below_drew1 | refine below_set ?_ (Aside0.out (by assumption))) | exact HB.out)) hb); have n2_ := Aside0.mk (hbox); have n3_ := Aside0.mk ((by rw [hg]; exact (below_size (by repeat (first | (with_reducible first | exact HB.out | apply below_alloc | apply pw_below_drewN | apply below_drew1 | refine below_set ?_ (Aside0.out (by assumption))) | exact HB.out))) : w.heap.size ≤ gb85003)); have n4_ := Aside0.mk ((by rw [hg]; exact (below_size (by repeat (first | (with_reducible first | exact HB.out | apply below_alloc | apply pw_below_drewN | apply below_drew1 | refine below_set ?_ (Aside0.out (by assumption))) | exact HB.out))) : w.heap.size ≤ gb85003)); have n5_ := Aside0.mk ((by rw [hg]; exact Nat.ne_of_lt (blk_lt (g := gb85001) (o := .cells #[.int .i64 a0_0, .string a0_1, .slice (some ad85002) l0_2.length c0_2] 35 (0, 0)) (by (with_reducible repeat (first | refine blk_drewN ?_ _ | refine blk_drew ?_ | refine blk_alloc ?_ _)); exact BK85001.out)) : gb85001 ≠ gb85003)); have n6_ := Aside0.mk ((by rw [hg]; exact Nat.ne_of_gt (blk_lt (g := gb85001) (o := .cells #[.int .i64 a0_0, .string a0_1, .slice (some ad85002) l0_2.length c0_2] 35 (0, 0)) (by (with_reducible repeat (first | refine blk_drewN ?_ _ | refine blk_drew ?_ | refine blk_alloc ?_ _)); exact BK85001.out)) : gb85003 ≠ gb85001)); clear BK85001; clear HB; have BK85001 := n0_; have HB := n1_; have BK85003 := n2_; have GW85003 := n3_; have GE85003 := n4_; have NB85001_85003 := n5_; have NB85003_85001 := n6_; clear n0_ n1_ n2_ n3_ n4_ n5_ n6_; clear hb hbox hg; have hnb9 := NB85003_85001.out; have hnc9 := NB85001_85003.out; obtain ⟨hcz10_0, hcz10_1, hcz10_2, hfz10_0, hfz10_1, hfz10_2⟩ := blk3 BK85003.out) | ((with_reducible refine gate_callee (f := 85) rfl ?_); refine goesL_ (some 15) rfl rfl Try.func85 (by kernel_rfl) rfl #[.agg #[.int .i64 ((rd_T35 l0_2 x9_1).f0), .string ((rd_T35 l0_2 x9_1).f1), .slice A85002_2 ((rd_T35 l0_2 x9_1).f2).length c85002_2]] rfl (by (try simp only [List.map_toArray, List.map_cons, List.map_nil]); first | done | rfl | (simp only [List.length_drop, List.length_take]; rfl)) ?_; (with_reducible refine (ih k1 (by have := HK1.out; omega) ((rd_T35 l0_2 x9_1).f0) ((rd_T35 l0_2 x9_1).f1) _ _ ((rd_T35 l0_2 x9_1).f2) t85004 _ ?side1 ?side2 A7.out).mono ?_); (case side1 => exact Kd.C_below HR85002_2.out (by repeat (first | (with_reducible first | exact HB.out | apply below_alloc | apply pw_below_drewN | apply below_drew1 | refine below_set ?_ (Aside0.out (by assumption))) | exact HB.out))); (case side2 => exact HC85002_2.out); rintro e w11 ⟨rfl, hb⟩; refine ⟨_, rfl, ?_⟩; have n0_ := Aside0.mk (blk_below (g := gb85001) (o := .cells #[.int .i64 a0_0, .string a0_1, .slice (some ad85002) l0_2.length c0_2] 35 (0, 0)) (by (with_reducible repeat (first | refine blk_drewN ?_ _ | refine blk_drew ?_ | refine blk_alloc ?_ _)); refine blk_far ?_ NB85001_85003.out _; (with_reducible repeat (first | refine blk_drewN ?_ _ | refine blk_drew ?_ | refine blk_alloc ?_ _)); refine blk_far ?_ NB85001_85003.out _; (with_reducible repeat (first | refine blk_drewN ?_ _ | refine blk_drew ?_ | refine blk_alloc ?_ _)); refine blk_far ?_ NB85001_85003.out _; (with_reducible repeat (first | refine blk_drewN ?_ _ | refine blk_drew ?_ | refine blk_alloc ?_ _)); exact BK85001.out) hb); have n1_ := Aside0.mk (blk_below (g := gb85003) (o := .cells #[.int .i64 ((rd_T35 l0_2 x9_1).f0), .string ((rd_T35 l0_2 x9_1).f1), .slice A85002_2 ((rd_T35 l0_2 x9_1).f2).length c85002_2] 35 (0, 0)) (by (with_reducible repeat (first | refine blk_drewN ?_ _ | refine blk_drew ?_ | refine blk_alloc ?_ _)); refine blk_put (cs := #[.int .i64 ((rd_T35 l0_2 x9_1).f0), .string ((rd_T35 l0_2 x9_1).f1), .slice none 0 0]) ?_ 2 _ rfl; (with_reducible repeat (first | refine blk_drewN ?_ _ | refine blk_drew ?_ | refine blk_alloc ?_ _)); refine blk_put (cs := #[.int .i64 ((rd_T35 l0_2 x9_1).f0), .string (⟨#[]⟩ : ByteArray), .slice none 0 0]) ?_ 1 _ rfl; (with_reducible repeat (first | refine blk_drewN ?_ _ | refine blk_drew ?_ | refine blk_alloc ?_ _)); refine blk_put (cs := #[.int .i64 0, .string (⟨#[]⟩ : ByteArray), .slice none 0 0]) ?_ 0 _ rfl; (with_reducible repeat (first | refine blk_drewN ?_ _ | refine blk_drew ?_ | refine blk_alloc ?_ _)); exact BK85003.out) hb); have n2_ := Aside0.mk (below_step (by repeat (first | (with_reducible first | exact HB.out | apply below_alloc | apply pw_below_drewN | apply below_drew1 | refine below_set ?_ (Aside0.out (by assumption))) | exact HB.out)) hb); clear BK85001; clear BK85003; clear HB; have BK85001 := n0_; have BK85003 := n1_; have HB := n2_; clear n0_ n1_ n2_; (try clear hb); (try clear hb2); (try clear hk); (try clear hi)))
      go_roundg k1
      case measure => have := HK1.out; omega
      case rel => exact ⟨(wrap64 (x3_1 + t85004)), (wrap64 (x9_1 + 1)), (by first | rfl | (simp; done) | (simp [*]; done)), (by first | rfl | (simp; done) | (simp [*]; done)), H', ⟨by have := HK1.out; omega⟩, ⟨by (with_reducible repeat (first | refine blk_drewN ?_ _ | refine blk_drew ?_ | refine blk_alloc ?_ _)); exact BK85001.out⟩, ⟨by repeat (first | (with_reducible first | exact HB.out | apply below_alloc | apply pw_below_drewN | apply below_drew1 | refine below_set ?_ (Aside0.out (by assumption))) | exact HB.out)⟩⟩
    · rw [if_neg c6] at H
      exact absurd H (by simp)
    · rw [if_neg c5] at H
      exact absurd H (by simp)
    · rw [if_neg c4] at H
      have c4b0 : decide (x9_1 < (l0_2.length : Int)) = false := decide_eq_false c4
      clear c4
      obtain rfl := Option.some.inj H
      go_wp2
      go_ret
      exact ⟨by first | rfl | (simp [errW_none, errW_some] <;> rfl) | (simp [*, errW_none, errW_some] <;> rfl), by repeat (first | (with_reducible first | exact HB.out | apply below_alloc | apply pw_below_drewN | apply below_drew1 | refine below_set ?_ (Aside0.out (by assumption))) | exact HB.out)⟩

end Go.Proofs.Ytffjfdoghofkdaa.A

