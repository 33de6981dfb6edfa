/- FnExactFormatConstraintCard: what its proof needs, put together by this session's program wip/merge.py out of the texts that wip/xp.py printed and of this session's own. -/
import Derived.Test.YtdchpohiiigobaaDoorQFnExactFormatConstraintCard4
import Derived.ChangeArms
import Derived.ChangeReads
import Derived.DataReads
import Derived.DataElems
import Derived.Lib.Strings
import Derived.Lib.Bytealg
namespace Go.Proofs.YtdchpohiiigobaaDoor.A
open Go.RowKit Go.Proofs.YtdchpohiiigobaaDoor.Ext Go.Proofs.YtdchpohiiigobaaDoorW.PrintWords Go.Proofs.YtdchpohiiigobaaDoorW.PrintLast Go.Proofs.YtdchpohiiigobaaDoorW.PrintMore
attribute [local go_sem] max2_int min2_int max_two min_two max_three min_three max_four min_four   -- for this text's walks alone
set_option linter.unusedVariables false
set_option linter.unusedSimpArgs false

/-! ### impl_FormatConstraint: function 8 -/
def impl_FormatConstraint.l0 : Nat → List ByteArray → List Int → Int → Int → Option (ByteArray)
  | 0, _, _, _, _ => none
  | k + 1, x3, x58, x59, x60 => if x60 < x59 then (if 0 ≤ x60 then (if x60 < (x58.length : Int) then ((impl_FormatInt.f (rd x58 x60)).bind fun t8024 => ((some (([t8024] : List ByteArray) : List ByteArray)).bind fun y8025 => (if x3.length + y8025.length < 8796093022208 then (impl_FormatConstraint.l0 k (x3 ++ y8025) x58 x59 (wrap64 (x60 + 1))) else (none)))) else (none)) else (none)) else ((impl_Join.f k x3 (⟨#[32]⟩ : ByteArray)).bind fun t8031 => (some t8031))
def impl_FormatConstraint.f (k : Nat) (a0_0 : Int) (a0_1 : ByteArray) (a0_2 : ByteArray) (a0_3 : Int) (a0_4 : ByteArray) (l0_5 : List (S32)) (l0_6 : List Int) (a0_7 : Int) : Option (ByteArray) := (impl_IsValidConstraint.f k a0_0 a0_1 a0_2 a0_3 a0_4 l0_5 l0_6 a0_7).bind fun t8002 => (if t8002 = true then (if a0_0 = 1 then ((impl_orDash.f a0_1).bind fun t8003 => (if t8003.size + 3 ≤ 9223372036854775807 then ((impl_orDash.f a0_2).bind fun t8004 => (if (t8003 ++ (⟨#[32, 61, 32]⟩ : ByteArray)).size + t8004.size ≤ 9223372036854775807 then (some ((t8003 ++ (⟨#[32, 61, 32]⟩ : ByteArray)) ++ t8004)) else (none))) else (none))) else (if a0_0 = 2 then ((impl_orDash.f a0_1).bind fun t8005 => (if t8005.size + 4 ≤ 9223372036854775807 then ((impl_orDash.f a0_2).bind fun t8006 => (if (t8005 ++ (⟨#[32, 33, 61, 32]⟩ : ByteArray)).size + t8006.size ≤ 9223372036854775807 then (some ((t8005 ++ (⟨#[32, 33, 61, 32]⟩ : ByteArray)) ++ t8006)) else (none))) else (none))) else (if a0_0 = 3 then ((impl_orDash.f a0_1).bind fun t8007 => (if t8007.size + 4 ≤ 9223372036854775807 then ((impl_FormatRegex.f k a0_3 a0_4 l0_5).bind fun t8008 => (if (t8007 ++ (⟨#[32, 105, 110, 32]⟩ : ByteArray)).size + t8008.size ≤ 9223372036854775807 then (some ((t8007 ++ (⟨#[32, 105, 110, 32]⟩ : ByteArray)) ++ t8008)) else (none))) else (none))) else (if a0_0 = 4 then ((impl_orDash.f a0_1).bind fun t8009 => (if t8009.size + 5 ≤ 9223372036854775807 then ((impl_FormatRegex.f k a0_3 a0_4 l0_5).bind fun t8010 => (if (t8009 ++ (⟨#[32, 111, 117, 116, 32]⟩ : ByteArray)).size + t8010.size ≤ 9223372036854775807 then (some ((t8009 ++ (⟨#[32, 111, 117, 116, 32]⟩ : ByteArray)) ++ t8010)) else (none))) else (none))) else ((slices_Clone_int_int.f l0_6).bind fun t8014 => ((some (([a0_7] : List Int) : List Int)).bind fun y8017 => (if t8014.length + y8017.length < 17592186044416 then ((some (t8014 ++ y8017 : List Int)).bind fun y8020 => (impl_FormatConstraint.l0 k (([(⟨#[108, 101, 110]⟩ : ByteArray)] : List ByteArray)) y8020 (y8020.length : Int) 0)) else (none)))))))) else (some (⟨#[]⟩ : ByteArray)))
theorem impl_FormatConstraint.mono_l : ∀ k, (∀ y0 y1 y2 y3, LeO (impl_FormatConstraint.l0 k y0 y1 y2 y3) (impl_FormatConstraint.l0 (k + 1) y0 y1 y2 y3))
  | 0 => fun _ _ _ _ r h => by simp [impl_FormatConstraint.l0] at h
  | k + 1 => by
    have ih0 := impl_FormatConstraint.mono_l k
    · intro y0 y1 y2 y3
      unfold impl_FormatConstraint.l0
      repeat' first
      | with_reducible first | exact ih0 _ _ _ _ | exact impl_FormatRegex.mono _ _ _ _ | exact impl_IsValidConstraint.mono _ _ _ _ _ _ _ _ _ | exact impl_Join.mono _ _ _ | exact LeO.refl _ | exact LeO.none _ | refine LeO.ite ?_ ?_ | refine LeO.bind ?_ (fun _ => ?_)
      | exact ih0 _ _ _ _ | exact impl_FormatRegex.mono _ _ _ _ | exact impl_IsValidConstraint.mono _ _ _ _ _ _ _ _ _ | exact impl_Join.mono _ _ _ | exact LeO.none _ | refine LeO.ite ?_ ?_ | refine LeO.bind ?_ (fun _ => ?_)
theorem impl_FormatConstraint.mono : ∀ a0 a1 a2 a3 a4 a5 a6 a7 k, LeO (impl_FormatConstraint.f k a0 a1 a2 a3 a4 a5 a6 a7) (impl_FormatConstraint.f (k + 1) a0 a1 a2 a3 a4 a5 a6 a7) := by
  intro a0 a1 a2 a3 a4 a5 a6 a7 k
  have ih0 := impl_FormatConstraint.mono_l k
  unfold impl_FormatConstraint.f
  repeat' first
      | with_reducible first | exact ih0 _ _ _ _ | exact impl_FormatRegex.mono _ _ _ _ | exact impl_IsValidConstraint.mono _ _ _ _ _ _ _ _ _ | exact impl_Join.mono _ _ _ | exact LeO.refl _ | exact LeO.none _ | refine LeO.ite ?_ ?_ | refine LeO.bind ?_ (fun _ => ?_)
      | exact ih0 _ _ _ _ | exact impl_FormatRegex.mono _ _ _ _ | exact impl_IsValidConstraint.mono _ _ _ _ _ _ _ _ _ | exact impl_Join.mono _ _ _ | exact LeO.none _ | refine LeO.ite ?_ ?_ | refine LeO.bind ?_ (fun _ => ?_)
def impl_FormatConstraint.T5 : Bool × List (List Nat × List Nat) := (true, [([], []), ([0], [0]), ([1], [1]), ([2], [2]), ([], []), ([4], [4]), ([5, 2], [5]), ([3, 6], [3, 6]), ([7, 6, 0, 1, 2, 3, 4, 5, 6, 7], [7])])
def impl_FormatConstraint.B5 : List Nat := [0, 1, 3, 7, 0, 16, 55, 127, 255]
theorem impl_FormatConstraint.tab5 : rtab .any (opsOf Tryd.f8 5) = impl_FormatConstraint.T5 := by kernel_rfl
theorem impl_FormatConstraint.bits5 : waitsOk impl_FormatConstraint.T5.2 impl_FormatConstraint.B5 = true := by kernel_rfl
def impl_FormatConstraint.T7 : Bool × List (List Nat × List Nat) := (true, [([], []), ([0], [0]), ([1], [1]), ([2], [2]), ([], []), ([4], [4]), ([5, 2], [5]), ([3, 6], [3, 6]), ([7, 6, 0, 1, 2, 3, 4, 5, 6, 7], [7])])
def impl_FormatConstraint.B7 : List Nat := [0, 1, 3, 7, 0, 16, 55, 127, 255]
theorem impl_FormatConstraint.tab7 : rtab .any (opsOf Tryd.f8 7) = impl_FormatConstraint.T7 := by kernel_rfl
theorem impl_FormatConstraint.bits7 : waitsOk impl_FormatConstraint.T7.2 impl_FormatConstraint.B7 = true := by kernel_rfl
def impl_FormatConstraint.T9 : Bool × List (List Nat × List Nat) := (true, [([], []), ([0], [0]), ([1], [1]), ([2], [2]), ([], []), ([4], [4]), ([5, 2], [5]), ([3, 6], [3, 6]), ([7, 6, 0, 1, 2, 3, 4, 5, 6, 7], [7])])
def impl_FormatConstraint.B9 : List Nat := [0, 1, 3, 7, 0, 16, 55, 127, 255]
theorem impl_FormatConstraint.tab9 : rtab .any (opsOf Tryd.f8 9) = impl_FormatConstraint.T9 := by kernel_rfl
theorem impl_FormatConstraint.bits9 : waitsOk impl_FormatConstraint.T9.2 impl_FormatConstraint.B9 = true := by kernel_rfl
def impl_FormatConstraint.T11 : Bool × List (List Nat × List Nat) := (true, [([], []), ([0], [0]), ([1], [1]), ([2], [2]), ([], []), ([4], [4]), ([5, 2], [5]), ([3, 6], [3, 6]), ([7, 6, 0, 1, 2, 3, 4, 5, 6, 7], [7])])
def impl_FormatConstraint.B11 : List Nat := [0, 1, 3, 7, 0, 16, 55, 127, 255]
theorem impl_FormatConstraint.tab11 : rtab .any (opsOf Tryd.f8 11) = impl_FormatConstraint.T11 := by kernel_rfl
theorem impl_FormatConstraint.bits11 : waitsOk impl_FormatConstraint.T11.2 impl_FormatConstraint.B11 = true := by kernel_rfl
def impl_FormatConstraint.T13 : Bool × List (List Nat × List Nat) := (true, [([], []), ([0], [0]), ([1], [1]), ([], []), ([3], [3]), ([4], [4]), ([2, 5, 2], [2, 5]), ([6], [6]), ([], [])])
def impl_FormatConstraint.B13 : List Nat := [0, 1, 3, 0, 8, 24, 63, 127, 0]
theorem impl_FormatConstraint.tab13 : rtab .any (opsOf Tryd.f8 13) = impl_FormatConstraint.T13 := by kernel_rfl
theorem impl_FormatConstraint.bits13 : waitsOk impl_FormatConstraint.T13.2 impl_FormatConstraint.B13 = true := by kernel_rfl
set_option maxHeartbeats 8000000 in
set_option maxRecDepth 100000 in
theorem impl_FormatConstraint.calls (k : Nat) (a0_0 : Int) (a0_1 : ByteArray) (a0_2 : ByteArray) (a0_3 : Int) (a0_4 : ByteArray) (A0_5 : Option Addr) (c0_5 : Nat) (l0_5 : List (S32)) (A0_6 : Option Addr) (c0_6 : Nat) (l0_6 : List Int) (a0_7 : Int) (r : ByteArray) (w : World) (hr0_5 : Kd.C k32 w A0_5 l0_5.length l0_5) (hc0_5 : l0_5.length ≤ c0_5) (hr0_6 : Kd.C (Kd.int .i64) w A0_6 l0_6.length l0_6) (hc0_6 : l0_6.length ≤ c0_6) (h : impl_FormatConstraint.f k a0_0 a0_1 a0_2 a0_3 a0_4 l0_5 l0_6 a0_7 = some r) (hTb : Tb w) :
    Calls Tryd.prog 8 #[.agg #[.int .i64 a0_0, .string a0_1, .string a0_2, .int .i64 a0_3, .string a0_4, .slice A0_5 l0_5.length c0_5, .slice A0_6 l0_6.length c0_6, .int .i64 a0_7]] w fun e w' => e = .returned (.string r) ∧ Below w.heap.size w w' := by
  have HTb := Aside0.mk hTb
  clear hTb
  have hu34 := Tryd.underlying34
  have hu32 := Tryd.underlying32
  have HR0_5 := Aside0.mk hr0_5
  have HC0_5 := Aside0.mk hc0_5
  clear hr0_5 hc0_5
  have HR0_6 := Aside0.mk hr0_6
  have HC0_6 := Aside0.mk hc0_6
  clear hr0_6 hc0_6
  have HB := Aside0.mk (Below.refl w.heap.size w)
  have H : ((impl_IsValidConstraint.f k a0_0 a0_1 a0_2 a0_3 a0_4 l0_5 l0_6 a0_7).bind fun t8002 => (if t8002 = true then (if a0_0 = 1 then ((impl_orDash.f a0_1).bind fun t8003 => (if t8003.size + 3 ≤ 9223372036854775807 then ((impl_orDash.f a0_2).bind fun t8004 => (if (t8003 ++ (⟨#[32, 61, 32]⟩ : ByteArray)).size + t8004.size ≤ 9223372036854775807 then (some ((t8003 ++ (⟨#[32, 61, 32]⟩ : ByteArray)) ++ t8004)) else (none))) else (none))) else (if a0_0 = 2 then ((impl_orDash.f a0_1).bind fun t8005 => (if t8005.size + 4 ≤ 9223372036854775807 then ((impl_orDash.f a0_2).bind fun t8006 => (if (t8005 ++ (⟨#[32, 33, 61, 32]⟩ : ByteArray)).size + t8006.size ≤ 9223372036854775807 then (some ((t8005 ++ (⟨#[32, 33, 61, 32]⟩ : ByteArray)) ++ t8006)) else (none))) else (none))) else (if a0_0 = 3 then ((impl_orDash.f a0_1).bind fun t8007 => (if t8007.size + 4 ≤ 9223372036854775807 then ((impl_FormatRegex.f k a0_3 a0_4 l0_5).bind fun t8008 => (if (t8007 ++ (⟨#[32, 105, 110, 32]⟩ : ByteArray)).size + t8008.size ≤ 9223372036854775807 then (some ((t8007 ++ (⟨#[32, 105, 110, 32]⟩ : ByteArray)) ++ t8008)) else (none))) else (none))) else (if a0_0 = 4 then ((impl_orDash.f a0_1).bind fun t8009 => (if t8009.size + 5 ≤ 9223372036854775807 then ((impl_FormatRegex.f k a0_3 a0_4 l0_5).bind fun t8010 => (if (t8009 ++ (⟨#[32, 111, 117, 116, 32]⟩ : ByteArray)).size + t8010.size ≤ 9223372036854775807 then (some ((t8009 ++ (⟨#[32, 111, 117, 116, 32]⟩ : ByteArray)) ++ t8010)) else (none))) else (none))) else ((slices_Clone_int_int.f l0_6).bind fun t8014 => ((some (([a0_7] : List Int) : List Int)).bind fun y8017 => (if t8014.length + y8017.length < 17592186044416 then ((some (t8014 ++ y8017 : List Int)).bind fun y8020 => (impl_FormatConstraint.l0 k (([(⟨#[108, 101, 110]⟩ : ByteArray)] : List ByteArray)) y8020 (y8020.length : Int) 0)) else (none)))))))) else (some (⟨#[]⟩ : ByteArray)))) = some r := h
  clear h
  replace H := Option.bind_eq_some_iff.mp H
  obtain ⟨t8002, A20, H⟩ := H
  replace H : (if t8002 = true then (if a0_0 = 1 then ((impl_orDash.f a0_1).bind fun t8003 => (if t8003.size + 3 ≤ 9223372036854775807 then ((impl_orDash.f a0_2).bind fun t8004 => (if (t8003 ++ (⟨#[32, 61, 32]⟩ : ByteArray)).size + t8004.size ≤ 9223372036854775807 then (some ((t8003 ++ (⟨#[32, 61, 32]⟩ : ByteArray)) ++ t8004)) else (none))) else (none))) else (if a0_0 = 2 then ((impl_orDash.f a0_1).bind fun t8005 => (if t8005.size + 4 ≤ 9223372036854775807 then ((impl_orDash.f a0_2).bind fun t8006 => (if (t8005 ++ (⟨#[32, 33, 61, 32]⟩ : ByteArray)).size + t8006.size ≤ 9223372036854775807 then (some ((t8005 ++ (⟨#[32, 33, 61, 32]⟩ : ByteArray)) ++ t8006)) else (none))) else (none))) else (if a0_0 = 3 then ((impl_orDash.f a0_1).bind fun t8007 => (if t8007.size + 4 ≤ 9223372036854775807 then ((impl_FormatRegex.f k a0_3 a0_4 l0_5).bind fun t8008 => (if (t8007 ++ (⟨#[32, 105, 110, 32]⟩ : ByteArray)).size + t8008.size ≤ 9223372036854775807 then (some ((t8007 ++ (⟨#[32, 105, 110, 32]⟩ : ByteArray)) ++ t8008)) else (none))) else (none))) else (if a0_0 = 4 then ((impl_orDash.f a0_1).bind fun t8009 => (if t8009.size + 5 ≤ 9223372036854775807 then ((impl_FormatRegex.f k a0_3 a0_4 l0_5).bind fun t8010 => (if (t8009 ++ (⟨#[32, 111, 117, 116, 32]⟩ : ByteArray)).size + t8010.size ≤ 9223372036854775807 then (some ((t8009 ++ (⟨#[32, 111, 117, 116, 32]⟩ : ByteArray)) ++ t8010)) else (none))) else (none))) else ((slices_Clone_int_int.f l0_6).bind fun t8014 => ((some (([a0_7] : List Int) : List Int)).bind fun y8017 => (if t8014.length + y8017.length < 17592186044416 then ((some (t8014 ++ y8017 : List Int)).bind fun y8020 => (impl_FormatConstraint.l0 k (([(⟨#[108, 101, 110]⟩ : ByteArray)] : List ByteArray)) y8020 (y8020.length : Int) 0)) else (none)))))))) else (some (⟨#[]⟩ : ByteArray))) = some r := H
  have A2 := Aside0.mk A20
  clear A20
  by_cases c3 : t8002 = true
  subst c3
  have H1 : (if a0_0 = 1 then ((impl_orDash.f a0_1).bind fun t8003 => (if t8003.size + 3 ≤ 9223372036854775807 then ((impl_orDash.f a0_2).bind fun t8004 => (if (t8003 ++ (⟨#[32, 61, 32]⟩ : ByteArray)).size + t8004.size ≤ 9223372036854775807 then (some ((t8003 ++ (⟨#[32, 61, 32]⟩ : ByteArray)) ++ t8004)) else (none))) else (none))) else (if a0_0 = 2 then ((impl_orDash.f a0_1).bind fun t8005 => (if t8005.size + 4 ≤ 9223372036854775807 then ((impl_orDash.f a0_2).bind fun t8006 => (if (t8005 ++ (⟨#[32, 33, 61, 32]⟩ : ByteArray)).size + t8006.size ≤ 9223372036854775807 then (some ((t8005 ++ (⟨#[32, 33, 61, 32]⟩ : ByteArray)) ++ t8006)) else (none))) else (none))) else (if a0_0 = 3 then ((impl_orDash.f a0_1).bind fun t8007 => (if t8007.size + 4 ≤ 9223372036854775807 then ((impl_FormatRegex.f k a0_3 a0_4 l0_5).bind fun t8008 => (if (t8007 ++ (⟨#[32, 105, 110, 32]⟩ : ByteArray)).size + t8008.size ≤ 9223372036854775807 then (some ((t8007 ++ (⟨#[32, 105, 110, 32]⟩ : ByteArray)) ++ t8008)) else (none))) else (none))) else (if a0_0 = 4 then ((impl_orDash.f a0_1).bind fun t8009 => (if t8009.size + 5 ≤ 9223372036854775807 then ((impl_FormatRegex.f k a0_3 a0_4 l0_5).bind fun t8010 => (if (t8009 ++ (⟨#[32, 111, 117, 116, 32]⟩ : ByteArray)).size + t8010.size ≤ 9223372036854775807 then (some ((t8009 ++ (⟨#[32, 111, 117, 116, 32]⟩ : ByteArray)) ++ t8010)) else (none))) else (none))) else ((slices_Clone_int_int.f l0_6).bind fun t8014 => ((some (([a0_7] : List Int) : List Int)).bind fun y8017 => (if t8014.length + y8017.length < 17592186044416 then ((some (t8014 ++ y8017 : List Int)).bind fun y8020 => (impl_FormatConstraint.l0 k (([(⟨#[108, 101, 110]⟩ : ByteArray)] : List ByteArray)) y8020 (y8020.length : Int) 0)) else (none)))))))) = some r := by rw [if_pos rfl] at H; exact H
  clear H
  have H := H1
  clear H1
  by_cases c4 : a0_0 = 1
  rw [if_pos c4] at H
  have c4b0 : (a0_0 == 1) = true := beq_iff_eq.mpr c4
  have c4b1 : (a0_0 != 1) = false := bne_eq_false_iff_eq.mpr c4
  clear c4
  replace H := Option.bind_eq_some_iff.mp H
  obtain ⟨t8003, A50, H⟩ := H
  replace H : (if t8003.size + 3 ≤ 9223372036854775807 then ((impl_orDash.f a0_2).bind fun t8004 => (if (t8003 ++ (⟨#[32, 61, 32]⟩ : ByteArray)).size + t8004.size ≤ 9223372036854775807 then (some ((t8003 ++ (⟨#[32, 61, 32]⟩ : ByteArray)) ++ t8004)) else (none))) else (none)) = some r := H
  have A5 := Aside0.mk A50
  clear A50
  by_cases c6 : t8003.size + 3 ≤ 9223372036854775807
  rw [if_pos c6] at H
  have c6z := c6
  try simp at c6z
  try replace c6z := eq_false (Nat.not_lt.2 c6z)
  have c6b0 := eq_true c6
  have c6b1 : decide (t8003.size + 3 ≤ 9223372036854775807) = true := decide_eq_true c6
  try have c6b2 : (9223372036854775807 < t8003.size + 3) = False := eq_false (Nat.not_lt.2 c6)
  replace H := Option.bind_eq_some_iff.mp H
  obtain ⟨t8004, A70, H⟩ := H
  replace H : (if (t8003 ++ (⟨#[32, 61, 32]⟩ : ByteArray)).size + t8004.size ≤ 9223372036854775807 then (some ((t8003 ++ (⟨#[32, 61, 32]⟩ : ByteArray)) ++ t8004)) else (none)) = some r := H
  have A7 := Aside0.mk A70
  clear A70
  by_cases c8 : (t8003 ++ (⟨#[32, 61, 32]⟩ : ByteArray)).size + t8004.size ≤ 9223372036854775807
  · rw [if_pos c8] at H
    have c8z := c8
    try simp at c8z
    try replace c8z := eq_false (Nat.not_lt.2 c8z)
    have c8b0 := eq_true c8
    have c8b1 : decide ((t8003 ++ (⟨#[32, 61, 32]⟩ : ByteArray)).size + t8004.size ≤ 9223372036854775807) = true := decide_eq_true c8
    try have c8y : (9223372036854775807 < t8003.size + 3 + t8004.size) = False := eq_false (by have q_ := c8; simp only [ByteArray.size_append, show (⟨#[32, 61, 32]⟩ : ByteArray).size = 3 from rfl] at q_; omega)
    try have c8b2 : (9223372036854775807 < (t8003 ++ (⟨#[32, 61, 32]⟩ : ByteArray)).size + t8004.size) = False := eq_false (Nat.not_lt.2 c8)
    obtain rfl := Option.some.inj H
    go_enter Tryd.func8, Tryd.ntmps8
    try go_wp2_with (first | ((with_reducible refine gate_dst (N := 1) rfl ?_); refine box_event ?hg (N := 1) ?hd (cs := #[.int .i64 a0_0, .string a0_1, .string a0_2, .int .i64 a0_3, .string a0_4, .slice A0_5 l0_5.length c0_5, .slice A0_6 l0_6.length c0_6, .int .i64 a0_7]) (t := 34) ?hr ?_; (case hd => rfl); (case hg => rfl); (case hr => first | (go_simp; done) | (go_simp; rfl)); intro gb8001 hg w9 hbox hb; have n0_ := Aside0.mk (below_step (by repeat (first | (with_reducible first | exact HB.out | apply below_alloc | apply pw_below_drewN | apply below_drew1 | refine below_set ?_ (Aside0.out (by assumption))) | exact HB.out)) hb); have n1_ := Aside0.mk (hbox); have n2_ := Aside0.mk ((by rw [hg]; exact (below_size (by repeat (first | (with_reducible first | exact HB.out | apply below_alloc | apply pw_below_drewN | apply below_drew1 | refine below_set ?_ (Aside0.out (by assumption))) | exact HB.out))) : w.heap.size ≤ gb8001)); have n3_ := Aside0.mk ((by rw [hg]; exact (below_size (by repeat (first | (with_reducible first | exact HB.out | apply below_alloc | apply pw_below_drewN | apply below_drew1 | refine below_set ?_ (Aside0.out (by assumption))) | exact HB.out))) : w.heap.size ≤ gb8001)); clear HB; have HB := n0_; have BK8001 := n1_; have GW8001 := n2_; have GE8001 := n3_; clear n0_ n1_ n2_ n3_; clear hb hbox hg; obtain ⟨hcz10_0, hcz10_1, hcz10_2, hcz10_3, hcz10_4, hcz10_5, hcz10_6, hcz10_7, hfz10_0, hfz10_1, hfz10_2, hfz10_3, hfz10_4, hfz10_5, hfz10_6, hfz10_7⟩ := blk8 BK8001.out) | ((with_reducible refine gate_callee (f := 23) rfl ?_); refine goesL_ (some 7) rfl rfl Tryd.func23 (by kernel_rfl) rfl #[.agg #[.int .i64 a0_0, .string a0_1, .string a0_2, .int .i64 a0_3, .string a0_4, .slice A0_5 l0_5.length c0_5, .slice A0_6 l0_6.length c0_6, .int .i64 a0_7]] rfl (by (try simp only [List.map_toArray, List.map_cons, List.map_nil]); first | done | rfl | (simp only [List.length_drop, List.length_take]; rfl)) ?_; (with_reducible refine (impl_IsValidConstraint.calls k a0_0 a0_1 a0_2 a0_3 a0_4 _ _ l0_5 _ _ l0_6 a0_7 _ _ ?side1 ?side2 ?side3 ?side4 A2.out).mono ?_); (case side1 => repeat (first | exact (Kd.C_below HR0_5.out HB.out) | (with_reducible refine Kd.C_alloc ?_ _) | (with_reducible refine Kd.C_drewN ?_ _) | (with_reducible refine Kd.C_drew ?_))); (case side2 => exact HC0_5.out); (case side3 => repeat (first | exact (Kd.C_below HR0_6.out HB.out) | (with_reducible refine Kd.C_alloc ?_ _) | (with_reducible refine Kd.C_drewN ?_ _) | (with_reducible refine Kd.C_drew ?_))); (case side4 => exact HC0_6.out); rintro e w11 ⟨rfl, hb⟩; refine ⟨_, rfl, ?_⟩; have n0_ := Aside0.mk (blk_below (g := gb8001) (o := .cells #[.int .i64 a0_0, .string a0_1, .string a0_2, .int .i64 a0_3, .string a0_4, .slice A0_5 l0_5.length c0_5, .slice A0_6 l0_6.length c0_6, .int .i64 a0_7] 34 (0, 0)) (by (with_reducible repeat (first | refine blk_drewN ?_ _ | refine blk_drew ?_ | refine blk_alloc ?_ _)); exact BK8001.out) hb); have n1_ := Aside0.mk (below_step (by repeat (first | (with_reducible first | exact HB.out | apply below_alloc | apply pw_below_drewN | apply below_drew1 | refine below_set ?_ (Aside0.out (by assumption))) | exact HB.out)) hb); clear BK8001; clear HB; have BK8001 := n0_; have HB := n1_; clear n0_ n1_; (try clear hb); (try clear hb2); (try clear hk); (try clear hi); obtain ⟨hcz12_0, hcz12_1, hcz12_2, hcz12_3, hcz12_4, hcz12_5, hcz12_6, hcz12_7, hfz12_0, hfz12_1, hfz12_2, hfz12_3, hfz12_4, hfz12_5, hfz12_6, hfz12_7⟩ := blk8 BK8001.out))
    have n0_ := Aside0.mk (blk_drew BK8001.out)
    have n1_ := Aside0.mk (below_drew1 HB.out)
    clear BK8001
    clear HB
    have BK8001 := n0_
    have HB := n1_
    clear n0_ n1_
    refine start_ (n := 9) (S := fun w' => w'.cell? ⟨gb8001, 0, none⟩ = some (.int .i64 a0_0) ∧ w'.cell? ⟨gb8001, 1, none⟩ = some (.string a0_1) ∧ w'.cell? ⟨gb8001, 2, none⟩ = some (.string a0_2) ∧ w'.cell? ⟨gb8001, 3, none⟩ = some (.int .i64 a0_3) ∧ w'.cell? ⟨gb8001, 4, none⟩ = some (.string a0_4) ∧ w'.cell? ⟨gb8001, 5, none⟩ = some (.slice A0_5 l0_5.length c0_5) ∧ w'.cell? ⟨gb8001, 6, none⟩ = some (.slice A0_6 l0_6.length c0_6) ∧ w'.cell? ⟨gb8001, 7, none⟩ = some (.int .i64 a0_7)) (ds := []) #[false, false, false, false, false, false, false, false, false] (by kernel_rfl) rfl rfl ⟨(blk_cell BK8001.out 0).trans rfl, (blk_cell BK8001.out 1).trans rfl, (blk_cell BK8001.out 2).trans rfl, (blk_cell BK8001.out 3).trans rfl, (blk_cell BK8001.out 4).trans rfl, (blk_cell BK8001.out 5).trans rfl, (blk_cell BK8001.out 6).trans rfl, (blk_cell BK8001.out 7).trans rfl⟩ (fun hHeld => ?_); refine with_tabW impl_FormatConstraint.tab5 impl_FormatConstraint.bits5 (fun HT_ HW_ => ?_)
    generalize w11.drew = w13 at BK8001 HB hHeld ⊢
    refine pure_ (i := 0) (N := some 13) (v := ?_) (a' := ?_) #[true, false, false, false, false, false, false, false, false] rfl rfl (any_of HT_.out (by kernel_rfl)) (fun _ _ _ h => h) (Or.inl ⟨by rfl, ?_⟩) ?_ ?_
    rotate_left
    · intro w'
      go_simp
      first | with_reducible rfl | (rw [if_neg (by omega)]; done) | (rw [if_neg (by (try simp only [decide_eq_true_eq, decide_eq_false_iff_not, eq_iff_iff, iff_true, iff_false] at *); (try simp only [ByteArray.size_extract, ByteArray.size_append, show (⟨#[97, 98, 99]⟩ : ByteArray).size = 3 from rfl, show (⟨#[88, 89, 90]⟩ : ByteArray).size = 3 from rfl, show (⟨#[61]⟩ : ByteArray).size = 1 from rfl, show (⟨#[108, 101, 110]⟩ : ByteArray).size = 3 from rfl, show (⟨#[32]⟩ : ByteArray).size = 1 from rfl, show (⟨#[32, 105, 110, 32]⟩ : ByteArray).size = 4 from rfl, show (⟨#[32, 111, 117, 116, 32]⟩ : ByteArray).size = 5 from rfl, show (⟨#[32, 33, 61, 32]⟩ : ByteArray).size = 4 from rfl, show (⟨#[32, 61, 32]⟩ : ByteArray).size = 3 from rfl] at *); omega)]; done)
    rotate_left
    · simp only [Act.put, List.setIfInBounds_toArray, List.set_cons_zero, List.set_cons_succ, i64_w, i32_w]
      rfl
    refine pure_ (i := 4) (N := some 17) (v := ?_) (a' := ?_) #[true, false, false, false, true, false, false, false, false] rfl rfl (any_of HT_.out (by kernel_rfl)) (fun _ _ _ h => h) (Or.inl ⟨by rfl, ?_⟩) ?_ ?_
    rotate_left
    · intro w'
      go_simp
      first | with_reducible rfl | (rw [if_neg (by omega)]; done) | (rw [if_neg (by (try simp only [decide_eq_true_eq, decide_eq_false_iff_not, eq_iff_iff, iff_true, iff_false] at *); (try simp only [ByteArray.size_extract, ByteArray.size_append, show (⟨#[97, 98, 99]⟩ : ByteArray).size = 3 from rfl, show (⟨#[88, 89, 90]⟩ : ByteArray).size = 3 from rfl, show (⟨#[61]⟩ : ByteArray).size = 1 from rfl, show (⟨#[108, 101, 110]⟩ : ByteArray).size = 3 from rfl, show (⟨#[32]⟩ : ByteArray).size = 1 from rfl, show (⟨#[32, 105, 110, 32]⟩ : ByteArray).size = 4 from rfl, show (⟨#[32, 111, 117, 116, 32]⟩ : ByteArray).size = 5 from rfl, show (⟨#[32, 33, 61, 32]⟩ : ByteArray).size = 4 from rfl, show (⟨#[32, 61, 32]⟩ : ByteArray).size = 3 from rfl] at *); omega)]; done)
    rotate_left
    · simp only [Act.put, List.setIfInBounds_toArray, List.set_cons_zero, List.set_cons_succ, i64_w, i32_w]
      rfl
    refine take_ (i := 1) (N := some 14) (v := ?_) (a' := ?_) #[true, true, false, false, true, false, false, false, false] rfl rfl (take_ofW HT_.out HW_.out (by kernel_rfl)) (fun _ _ _ h => h) (Or.inl ⟨by rfl, ?_⟩) hHeld ?_ ?_
    rotate_left
    · rintro w' ⟨s0, s1, s2, s3, s4, s5, s6, s7⟩
      go_simp
      first | with_reducible rfl | (rw [if_neg (by omega)]; done) | (rw [if_neg (by (try simp only [decide_eq_true_eq, decide_eq_false_iff_not, eq_iff_iff, iff_true, iff_false] at *); (try simp only [ByteArray.size_extract, ByteArray.size_append, show (⟨#[97, 98, 99]⟩ : ByteArray).size = 3 from rfl, show (⟨#[88, 89, 90]⟩ : ByteArray).size = 3 from rfl, show (⟨#[61]⟩ : ByteArray).size = 1 from rfl, show (⟨#[108, 101, 110]⟩ : ByteArray).size = 3 from rfl, show (⟨#[32]⟩ : ByteArray).size = 1 from rfl, show (⟨#[32, 105, 110, 32]⟩ : ByteArray).size = 4 from rfl, show (⟨#[32, 111, 117, 116, 32]⟩ : ByteArray).size = 5 from rfl, show (⟨#[32, 33, 61, 32]⟩ : ByteArray).size = 4 from rfl, show (⟨#[32, 61, 32]⟩ : ByteArray).size = 3 from rfl] at *); omega)]; done)
    rotate_left
    · simp only [Act.put, List.setIfInBounds_toArray, List.set_cons_zero, List.set_cons_succ, i64_w, i32_w]
      rfl
    refine take_ (i := 5) (N := some 18) (v := ?_) (a' := ?_) #[true, true, false, false, true, true, false, false, false] rfl rfl (take_ofW HT_.out HW_.out (by kernel_rfl)) (fun _ _ _ h => h) (Or.inl ⟨by rfl, ?_⟩) hHeld ?_ ?_
    rotate_left
    · rintro w' ⟨s0, s1, s2, s3, s4, s5, s6, s7⟩
      go_simp
      first | with_reducible rfl | (rw [if_neg (by omega)]; done) | (rw [if_neg (by (try simp only [decide_eq_true_eq, decide_eq_false_iff_not, eq_iff_iff, iff_true, iff_false] at *); (try simp only [ByteArray.size_extract, ByteArray.size_append, show (⟨#[97, 98, 99]⟩ : ByteArray).size = 3 from rfl, show (⟨#[88, 89, 90]⟩ : ByteArray).size = 3 from rfl, show (⟨#[61]⟩ : ByteArray).size = 1 from rfl, show (⟨#[108, 101, 110]⟩ : ByteArray).size = 3 from rfl, show (⟨#[32]⟩ : ByteArray).size = 1 from rfl, show (⟨#[32, 105, 110, 32]⟩ : ByteArray).size = 4 from rfl, show (⟨#[32, 111, 117, 116, 32]⟩ : ByteArray).size = 5 from rfl, show (⟨#[32, 33, 61, 32]⟩ : ByteArray).size = 4 from rfl, show (⟨#[32, 61, 32]⟩ : ByteArray).size = 3 from rfl] at *); omega)]; done)
    rotate_left
    · simp only [Act.put, List.setIfInBounds_toArray, List.set_cons_zero, List.set_cons_succ, i64_w, i32_w]
      rfl
    refine one_ (i := 2) (N := some 15) #[true, true, true, false, true, true, false, false, false] rfl rfl (one_of HT_.out (by kernel_rfl)) (by decide) (fun K hK => ?_)
    refine goes_ Tryd.func24 (by kernel_rfl) rfl #[.string a0_1] (by rfl) rfl rfl (by (try simp only [List.map_toArray, List.map_cons, List.map_nil]); first | done | rfl | (simp only [List.length_drop, List.length_take]; rfl)) ?_
    with_reducible refine (impl_orDash.calls a0_1 t8003 _ A5.out).mono ?_
    rintro e w' ⟨rfl, ⟨nd, rfl⟩⟩
    refine ⟨_, rfl, ?_⟩
    refine hK.out _ _ ⟨(blk_cell BK8001.out 0).trans rfl, (blk_cell BK8001.out 1).trans rfl, (blk_cell BK8001.out 2).trans rfl, (blk_cell BK8001.out 3).trans rfl, (blk_cell BK8001.out 4).trans rfl, (blk_cell BK8001.out 5).trans rfl, (blk_cell BK8001.out 6).trans rfl, (blk_cell BK8001.out 7).trans rfl⟩ (fun hHeld => ?_)
    clear hK K
    refine norm_ (a' := ?_) ?_ ?_
    rotate_left
    · show Act.put _ (some 15) _ = _
      simp only [Act.put, List.setIfInBounds_toArray, List.set_cons_zero, List.set_cons_succ, i64_w, i32_w]
      rfl
    refine pure_ (i := 3) (N := some 16) (v := ?_) (a' := ?_) #[true, true, true, true, true, true, false, false, false] rfl rfl (any_of HT_.out (by kernel_rfl)) (fun _ _ _ h => h) (Or.inl ⟨by rfl, ?_⟩) ?_ ?_
    rotate_left
    · intro w'
      go_simp
      first | with_reducible rfl | (rw [if_neg (by omega)]; done) | (rw [if_neg (by (try simp only [decide_eq_true_eq, decide_eq_false_iff_not, eq_iff_iff, iff_true, iff_false] at *); (try simp only [ByteArray.size_extract, ByteArray.size_append, show (⟨#[97, 98, 99]⟩ : ByteArray).size = 3 from rfl, show (⟨#[88, 89, 90]⟩ : ByteArray).size = 3 from rfl, show (⟨#[61]⟩ : ByteArray).size = 1 from rfl, show (⟨#[108, 101, 110]⟩ : ByteArray).size = 3 from rfl, show (⟨#[32]⟩ : ByteArray).size = 1 from rfl, show (⟨#[32, 105, 110, 32]⟩ : ByteArray).size = 4 from rfl, show (⟨#[32, 111, 117, 116, 32]⟩ : ByteArray).size = 5 from rfl, show (⟨#[32, 33, 61, 32]⟩ : ByteArray).size = 4 from rfl, show (⟨#[32, 61, 32]⟩ : ByteArray).size = 3 from rfl] at *); omega)]; done)
    rotate_left
    · simp only [Act.put, List.setIfInBounds_toArray, List.set_cons_zero, List.set_cons_succ, i64_w, i32_w]
      rfl
    refine one_ (i := 6) (N := some 19) #[true, true, true, true, true, true, true, false, false] rfl rfl (one_of HT_.out (by kernel_rfl)) (by decide) (fun K hK => ?_)
    refine goes_ Tryd.func24 (by kernel_rfl) rfl #[.string a0_2] (by rfl) rfl rfl (by (try simp only [List.map_toArray, List.map_cons, List.map_nil]); first | done | rfl | (simp only [List.length_drop, List.length_take]; rfl)) ?_
    with_reducible refine (impl_orDash.calls a0_2 t8004 _ A7.out).mono ?_
    rintro e w' ⟨rfl, ⟨nd, rfl⟩⟩
    refine ⟨_, rfl, ?_⟩
    refine hK.out _ _ ⟨(blk_cell BK8001.out 0).trans rfl, (blk_cell BK8001.out 1).trans rfl, (blk_cell BK8001.out 2).trans rfl, (blk_cell BK8001.out 3).trans rfl, (blk_cell BK8001.out 4).trans rfl, (blk_cell BK8001.out 5).trans rfl, (blk_cell BK8001.out 6).trans rfl, (blk_cell BK8001.out 7).trans rfl⟩ (fun hHeld => ?_)
    clear hK K
    refine norm_ (a' := ?_) ?_ ?_
    rotate_left
    · show Act.put _ (some 19) _ = _
      simp only [Act.put, List.setIfInBounds_toArray, List.set_cons_zero, List.set_cons_succ, i64_w, i32_w]
      rfl
    refine pure_ (i := 7) (N := some 20) (v := ?_) (a' := ?_) #[true, true, true, true, true, true, true, true, false] rfl rfl (any_of HT_.out (by kernel_rfl)) (fun _ _ _ h => h) (Or.inl ⟨by rfl, ?_⟩) ?_ ?_
    rotate_left
    · intro w'
      go_simp
      first | with_reducible rfl | (rw [if_neg (by omega)]; done) | (rw [if_neg (by (try simp only [decide_eq_true_eq, decide_eq_false_iff_not, eq_iff_iff, iff_true, iff_false] at *); (try simp only [ByteArray.size_extract, ByteArray.size_append, show (⟨#[97, 98, 99]⟩ : ByteArray).size = 3 from rfl, show (⟨#[88, 89, 90]⟩ : ByteArray).size = 3 from rfl, show (⟨#[61]⟩ : ByteArray).size = 1 from rfl, show (⟨#[108, 101, 110]⟩ : ByteArray).size = 3 from rfl, show (⟨#[32]⟩ : ByteArray).size = 1 from rfl, show (⟨#[32, 105, 110, 32]⟩ : ByteArray).size = 4 from rfl, show (⟨#[32, 111, 117, 116, 32]⟩ : ByteArray).size = 5 from rfl, show (⟨#[32, 33, 61, 32]⟩ : ByteArray).size = 4 from rfl, show (⟨#[32, 61, 32]⟩ : ByteArray).size = 3 from rfl] at *); omega)]; done)
    rotate_left
    · simp only [Act.put, List.setIfInBounds_toArray, List.set_cons_zero, List.set_cons_succ, i64_w, i32_w]
      rfl
    refine pure_ (i := 8) (N := some 2) (v := ?_) (a' := ?_) #[true, true, true, true, true, true, true, true, true] rfl rfl (any_of HT_.out (by kernel_rfl)) (fun _ _ _ h => h) (Or.inl ⟨by rfl, ?_⟩) ?_ ?_
    rotate_left
    · intro w'
      go_simp
      first | with_reducible rfl | (rw [if_neg (by omega)]; done) | (rw [if_neg (by (try simp only [decide_eq_true_eq, decide_eq_false_iff_not, eq_iff_iff, iff_true, iff_false] at *); (try simp only [ByteArray.size_extract, ByteArray.size_append, show (⟨#[97, 98, 99]⟩ : ByteArray).size = 3 from rfl, show (⟨#[88, 89, 90]⟩ : ByteArray).size = 3 from rfl, show (⟨#[61]⟩ : ByteArray).size = 1 from rfl, show (⟨#[108, 101, 110]⟩ : ByteArray).size = 3 from rfl, show (⟨#[32]⟩ : ByteArray).size = 1 from rfl, show (⟨#[32, 105, 110, 32]⟩ : ByteArray).size = 4 from rfl, show (⟨#[32, 111, 117, 116, 32]⟩ : ByteArray).size = 5 from rfl, show (⟨#[32, 33, 61, 32]⟩ : ByteArray).size = 4 from rfl, show (⟨#[32, 61, 32]⟩ : ByteArray).size = 3 from rfl] at *); omega)]; done)
    rotate_left
    · simp only [Act.put, List.setIfInBounds_toArray, List.set_cons_zero, List.set_cons_succ, i64_w, i32_w]
      rfl
    refine done_ (done_of HT_.out (by kernel_rfl)) ?_
    try go_wp2
    go_ret
    exact ⟨by first | rfl | (simp [errW_none, errW_some] <;> rfl) | (simp [*, errW_none, errW_some] <;> rfl), by repeat (first | (with_reducible first | exact HB.out | apply below_alloc | apply pw_below_drewN | apply below_drew1 | refine below_set ?_ (Aside0.out (by assumption))) | exact HB.out)⟩
  · rw [if_neg c8] at H
    exact absurd H (by simp)
  · rw [if_neg c6] at H
    exact absurd H (by simp)
  rw [if_neg c4] at H
  have c4b0 : (a0_0 == 1) = false := beq_eq_false_iff_ne.mpr c4
  have c4b1 : (a0_0 != 1) = true := bne_iff_ne.mpr c4
  by_cases c14 : a0_0 = 2
  rw [if_pos c14] at H
  have c14b0 : (a0_0 == 2) = true := beq_iff_eq.mpr c14
  have c14b1 : (a0_0 != 2) = false := bne_eq_false_iff_eq.mpr c14
  clear c14
  replace H := Option.bind_eq_some_iff.mp H
  obtain ⟨t8005, A150, H⟩ := H
  replace H : (if t8005.size + 4 ≤ 9223372036854775807 then ((impl_orDash.f a0_2).bind fun t8006 => (if (t8005 ++ (⟨#[32, 33, 61, 32]⟩ : ByteArray)).size + t8006.size ≤ 9223372036854775807 then (some ((t8005 ++ (⟨#[32, 33, 61, 32]⟩ : ByteArray)) ++ t8006)) else (none))) else (none)) = some r := H
  have A15 := Aside0.mk A150
  clear A150
  by_cases c16 : t8005.size + 4 ≤ 9223372036854775807
  rw [if_pos c16] at H
  have c16z := c16
  try simp at c16z
  try replace c16z := eq_false (Nat.not_lt.2 c16z)
  have c16b0 := eq_true c16
  have c16b1 : decide (t8005.size + 4 ≤ 9223372036854775807) = true := decide_eq_true c16
  try have c16b2 : (9223372036854775807 < t8005.size + 4) = False := eq_false (Nat.not_lt.2 c16)
  replace H := Option.bind_eq_some_iff.mp H
  obtain ⟨t8006, A170, H⟩ := H
  replace H : (if (t8005 ++ (⟨#[32, 33, 61, 32]⟩ : ByteArray)).size + t8006.size ≤ 9223372036854775807 then (some ((t8005 ++ (⟨#[32, 33, 61, 32]⟩ : ByteArray)) ++ t8006)) else (none)) = some r := H
  have A17 := Aside0.mk A170
  clear A170
  by_cases c18 : (t8005 ++ (⟨#[32, 33, 61, 32]⟩ : ByteArray)).size + t8006.size ≤ 9223372036854775807
  · rw [if_pos c18] at H
    have c18z := c18
    try simp at c18z
    try replace c18z := eq_false (Nat.not_lt.2 c18z)
    have c18b0 := eq_true c18
    have c18b1 : decide ((t8005 ++ (⟨#[32, 33, 61, 32]⟩ : ByteArray)).size + t8006.size ≤ 9223372036854775807) = true := decide_eq_true c18
    try have c18y : (9223372036854775807 < t8005.size + 4 + t8006.size) = False := eq_false (by have q_ := c18; simp only [ByteArray.size_append, show (⟨#[32, 33, 61, 32]⟩ : ByteArray).size = 4 from rfl] at q_; omega)
    try have c18b2 : (9223372036854775807 < (t8005 ++ (⟨#[32, 33, 61, 32]⟩ : ByteArray)).size + t8006.size) = False := eq_false (Nat.not_lt.2 c18)
    obtain rfl := Option.some.inj H
    go_enter Tryd.func8, Tryd.ntmps8
    try go_wp2_with (first | ((with_reducible refine gate_dst (N := 1) rfl ?_); refine box_event ?hg (N := 1) ?hd (cs := #[.int .i64 a0_0, .string a0_1, .string a0_2, .int .i64 a0_3, .string a0_4, .slice A0_5 l0_5.length c0_5, .slice A0_6 l0_6.length c0_6, .int .i64 a0_7]) (t := 34) ?hr ?_; (case hd => rfl); (case hg => rfl); (case hr => first | (go_simp; done) | (go_simp; rfl)); intro gb8001 hg w19 hbox hb; have n0_ := Aside0.mk (below_step (by repeat (first | (with_reducible first | exact HB.out | apply below_alloc | apply pw_below_drewN | apply below_drew1 | refine below_set ?_ (Aside0.out (by assumption))) | exact HB.out)) hb); have n1_ := Aside0.mk (hbox); have n2_ := Aside0.mk ((by rw [hg]; exact (below_size (by repeat (first | (with_reducible first | exact HB.out | apply below_alloc | apply pw_below_drewN | apply below_drew1 | refine below_set ?_ (Aside0.out (by assumption))) | exact HB.out))) : w.heap.size ≤ gb8001)); have n3_ := Aside0.mk ((by rw [hg]; exact (below_size (by repeat (first | (with_reducible first | exact HB.out | apply below_alloc | apply pw_below_drewN | apply below_drew1 | refine below_set ?_ (Aside0.out (by assumption))) | exact HB.out))) : w.heap.size ≤ gb8001)); clear HB; have HB := n0_; have BK8001 := n1_; have GW8001 := n2_; have GE8001 := n3_; clear n0_ n1_ n2_ n3_; clear hb hbox hg; obtain ⟨hcz20_0, hcz20_1, hcz20_2, hcz20_3, hcz20_4, hcz20_5, hcz20_6, hcz20_7, hfz20_0, hfz20_1, hfz20_2, hfz20_3, hfz20_4, hfz20_5, hfz20_6, hfz20_7⟩ := blk8 BK8001.out) | ((with_reducible refine gate_callee (f := 23) rfl ?_); refine goesL_ (some 7) rfl rfl Tryd.func23 (by kernel_rfl) rfl #[.agg #[.int .i64 a0_0, .string a0_1, .string a0_2, .int .i64 a0_3, .string a0_4, .slice A0_5 l0_5.length c0_5, .slice A0_6 l0_6.length c0_6, .int .i64 a0_7]] rfl (by (try simp only [List.map_toArray, List.map_cons, List.map_nil]); first | done | rfl | (simp only [List.length_drop, List.length_take]; rfl)) ?_; (with_reducible refine (impl_IsValidConstraint.calls k a0_0 a0_1 a0_2 a0_3 a0_4 _ _ l0_5 _ _ l0_6 a0_7 _ _ ?side1 ?side2 ?side3 ?side4 A2.out).mono ?_); (case side1 => repeat (first | exact (Kd.C_below HR0_5.out HB.out) | (with_reducible refine Kd.C_alloc ?_ _) | (with_reducible refine Kd.C_drewN ?_ _) | (with_reducible refine Kd.C_drew ?_))); (case side2 => exact HC0_5.out); (case side3 => repeat (first | exact (Kd.C_below HR0_6.out HB.out) | (with_reducible refine Kd.C_alloc ?_ _) | (with_reducible refine Kd.C_drewN ?_ _) | (with_reducible refine Kd.C_drew ?_))); (case side4 => exact HC0_6.out); rintro e w21 ⟨rfl, hb⟩; refine ⟨_, rfl, ?_⟩; have n0_ := Aside0.mk (blk_below (g := gb8001) (o := .cells #[.int .i64 a0_0, .string a0_1, .string a0_2, .int .i64 a0_3, .string a0_4, .slice A0_5 l0_5.length c0_5, .slice A0_6 l0_6.length c0_6, .int .i64 a0_7] 34 (0, 0)) (by (with_reducible repeat (first | refine blk_drewN ?_ _ | refine blk_drew ?_ | refine blk_alloc ?_ _)); exact BK8001.out) hb); have n1_ := Aside0.mk (below_step (by repeat (first | (with_reducible first | exact HB.out | apply below_alloc | apply pw_below_drewN | apply below_drew1 | refine below_set ?_ (Aside0.out (by assumption))) | exact HB.out)) hb); clear BK8001; clear HB; have BK8001 := n0_; have HB := n1_; clear n0_ n1_; (try clear hb); (try clear hb2); (try clear hk); (try clear hi); obtain ⟨hcz22_0, hcz22_1, hcz22_2, hcz22_3, hcz22_4, hcz22_5, hcz22_6, hcz22_7, hfz22_0, hfz22_1, hfz22_2, hfz22_3, hfz22_4, hfz22_5, hfz22_6, hfz22_7⟩ := blk8 BK8001.out))
    have n0_ := Aside0.mk (blk_drew BK8001.out)
    have n1_ := Aside0.mk (below_drew1 HB.out)
    clear BK8001
    clear HB
    have BK8001 := n0_
    have HB := n1_
    clear n0_ n1_
    refine start_ (n := 9) (S := fun w' => w'.cell? ⟨gb8001, 0, none⟩ = some (.int .i64 a0_0) ∧ w'.cell? ⟨gb8001, 1, none⟩ = some (.string a0_1) ∧ w'.cell? ⟨gb8001, 2, none⟩ = some (.string a0_2) ∧ w'.cell? ⟨gb8001, 3, none⟩ = some (.int .i64 a0_3) ∧ w'.cell? ⟨gb8001, 4, none⟩ = some (.string a0_4) ∧ w'.cell? ⟨gb8001, 5, none⟩ = some (.slice A0_5 l0_5.length c0_5) ∧ w'.cell? ⟨gb8001, 6, none⟩ = some (.slice A0_6 l0_6.length c0_6) ∧ w'.cell? ⟨gb8001, 7, none⟩ = some (.int .i64 a0_7)) (ds := []) #[false, false, false, false, false, false, false, false, false] (by kernel_rfl) rfl rfl ⟨(blk_cell BK8001.out 0).trans rfl, (blk_cell BK8001.out 1).trans rfl, (blk_cell BK8001.out 2).trans rfl, (blk_cell BK8001.out 3).trans rfl, (blk_cell BK8001.out 4).trans rfl, (blk_cell BK8001.out 5).trans rfl, (blk_cell BK8001.out 6).trans rfl, (blk_cell BK8001.out 7).trans rfl⟩ (fun hHeld => ?_); refine with_tabW impl_FormatConstraint.tab7 impl_FormatConstraint.bits7 (fun HT_ HW_ => ?_)
    generalize w21.drew = w23 at BK8001 HB hHeld ⊢
    refine pure_ (i := 0) (N := some 23) (v := ?_) (a' := ?_) #[true, false, false, false, false, false, false, false, false] rfl rfl (any_of HT_.out (by kernel_rfl)) (fun _ _ _ h => h) (Or.inl ⟨by rfl, ?_⟩) ?_ ?_
    rotate_left
    · intro w'
      go_simp
      first | with_reducible rfl | (rw [if_neg (by omega)]; done) | (rw [if_neg (by (try simp only [decide_eq_true_eq, decide_eq_false_iff_not, eq_iff_iff, iff_true, iff_false] at *); (try simp only [ByteArray.size_extract, ByteArray.size_append, show (⟨#[97, 98, 99]⟩ : ByteArray).size = 3 from rfl, show (⟨#[88, 89, 90]⟩ : ByteArray).size = 3 from rfl, show (⟨#[61]⟩ : ByteArray).size = 1 from rfl, show (⟨#[108, 101, 110]⟩ : ByteArray).size = 3 from rfl, show (⟨#[32]⟩ : ByteArray).size = 1 from rfl, show (⟨#[32, 105, 110, 32]⟩ : ByteArray).size = 4 from rfl, show (⟨#[32, 111, 117, 116, 32]⟩ : ByteArray).size = 5 from rfl, show (⟨#[32, 33, 61, 32]⟩ : ByteArray).size = 4 from rfl, show (⟨#[32, 61, 32]⟩ : ByteArray).size = 3 from rfl] at *); omega)]; done)
    rotate_left
    · simp only [Act.put, List.setIfInBounds_toArray, List.set_cons_zero, List.set_cons_succ, i64_w, i32_w]
      rfl
    refine pure_ (i := 4) (N := some 27) (v := ?_) (a' := ?_) #[true, false, false, false, true, false, false, false, false] rfl rfl (any_of HT_.out (by kernel_rfl)) (fun _ _ _ h => h) (Or.inl ⟨by rfl, ?_⟩) ?_ ?_
    rotate_left
    · intro w'
      go_simp
      first | with_reducible rfl | (rw [if_neg (by omega)]; done) | (rw [if_neg (by (try simp only [decide_eq_true_eq, decide_eq_false_iff_not, eq_iff_iff, iff_true, iff_false] at *); (try simp only [ByteArray.size_extract, ByteArray.size_append, show (⟨#[97, 98, 99]⟩ : ByteArray).size = 3 from rfl, show (⟨#[88, 89, 90]⟩ : ByteArray).size = 3 from rfl, show (⟨#[61]⟩ : ByteArray).size = 1 from rfl, show (⟨#[108, 101, 110]⟩ : ByteArray).size = 3 from rfl, show (⟨#[32]⟩ : ByteArray).size = 1 from rfl, show (⟨#[32, 105, 110, 32]⟩ : ByteArray).size = 4 from rfl, show (⟨#[32, 111, 117, 116, 32]⟩ : ByteArray).size = 5 from rfl, show (⟨#[32, 33, 61, 32]⟩ : ByteArray).size = 4 from rfl, show (⟨#[32, 61, 32]⟩ : ByteArray).size = 3 from rfl] at *); omega)]; done)
    rotate_left
    · simp only [Act.put, List.setIfInBounds_toArray, List.set_cons_zero, List.set_cons_succ, i64_w, i32_w]
      rfl
    refine take_ (i := 1) (N := some 24) (v := ?_) (a' := ?_) #[true, true, false, false, true, false, false, false, false] rfl rfl (take_ofW HT_.out HW_.out (by kernel_rfl)) (fun _ _ _ h => h) (Or.inl ⟨by rfl, ?_⟩) hHeld ?_ ?_
    rotate_left
    · rintro w' ⟨s0, s1, s2, s3, s4, s5, s6, s7⟩
      go_simp
      first | with_reducible rfl | (rw [if_neg (by omega)]; done) | (rw [if_neg (by (try simp only [decide_eq_true_eq, decide_eq_false_iff_not, eq_iff_iff, iff_true, iff_false] at *); (try simp only [ByteArray.size_extract, ByteArray.size_append, show (⟨#[97, 98, 99]⟩ : ByteArray).size = 3 from rfl, show (⟨#[88, 89, 90]⟩ : ByteArray).size = 3 from rfl, show (⟨#[61]⟩ : ByteArray).size = 1 from rfl, show (⟨#[108, 101, 110]⟩ : ByteArray).size = 3 from rfl, show (⟨#[32]⟩ : ByteArray).size = 1 from rfl, show (⟨#[32, 105, 110, 32]⟩ : ByteArray).size = 4 from rfl, show (⟨#[32, 111, 117, 116, 32]⟩ : ByteArray).size = 5 from rfl, show (⟨#[32, 33, 61, 32]⟩ : ByteArray).size = 4 from rfl, show (⟨#[32, 61, 32]⟩ : ByteArray).size = 3 from rfl] at *); omega)]; done)
    rotate_left
    · simp only [Act.put, List.setIfInBounds_toArray, List.set_cons_zero, List.set_cons_succ, i64_w, i32_w]
      rfl
    refine take_ (i := 5) (N := some 28) (v := ?_) (a' := ?_) #[true, true, false, false, true, true, false, false, false] rfl rfl (take_ofW HT_.out HW_.out (by kernel_rfl)) (fun _ _ _ h => h) (Or.inl ⟨by rfl, ?_⟩) hHeld ?_ ?_
    rotate_left
    · rintro w' ⟨s0, s1, s2, s3, s4, s5, s6, s7⟩
      go_simp
      first | with_reducible rfl | (rw [if_neg (by omega)]; done) | (rw [if_neg (by (try simp only [decide_eq_true_eq, decide_eq_false_iff_not, eq_iff_iff, iff_true, iff_false] at *); (try simp only [ByteArray.size_extract, ByteArray.size_append, show (⟨#[97, 98, 99]⟩ : ByteArray).size = 3 from rfl, show (⟨#[88, 89, 90]⟩ : ByteArray).size = 3 from rfl, show (⟨#[61]⟩ : ByteArray).size = 1 from rfl, show (⟨#[108, 101, 110]⟩ : ByteArray).size = 3 from rfl, show (⟨#[32]⟩ : ByteArray).size = 1 from rfl, show (⟨#[32, 105, 110, 32]⟩ : ByteArray).size = 4 from rfl, show (⟨#[32, 111, 117, 116, 32]⟩ : ByteArray).size = 5 from rfl, show (⟨#[32, 33, 61, 32]⟩ : ByteArray).size = 4 from rfl, show (⟨#[32, 61, 32]⟩ : ByteArray).size = 3 from rfl] at *); omega)]; done)
    rotate_left
    · simp only [Act.put, List.setIfInBounds_toArray, List.set_cons_zero, List.set_cons_succ, i64_w, i32_w]
      rfl
    refine one_ (i := 2) (N := some 25) #[true, true, true, false, true, true, false, false, false] rfl rfl (one_of HT_.out (by kernel_rfl)) (by decide) (fun K hK => ?_)
    refine goes_ Tryd.func24 (by kernel_rfl) rfl #[.string a0_1] (by rfl) rfl rfl (by (try simp only [List.map_toArray, List.map_cons, List.map_nil]); first | done | rfl | (simp only [List.length_drop, List.length_take]; rfl)) ?_
    with_reducible refine (impl_orDash.calls a0_1 t8005 _ A15.out).mono ?_
    rintro e w' ⟨rfl, ⟨nd, rfl⟩⟩
    refine ⟨_, rfl, ?_⟩
    refine hK.out _ _ ⟨(blk_cell BK8001.out 0).trans rfl, (blk_cell BK8001.out 1).trans rfl, (blk_cell BK8001.out 2).trans rfl, (blk_cell BK8001.out 3).trans rfl, (blk_cell BK8001.out 4).trans rfl, (blk_cell BK8001.out 5).trans rfl, (blk_cell BK8001.out 6).trans rfl, (blk_cell BK8001.out 7).trans rfl⟩ (fun hHeld => ?_)
    clear hK K
    refine norm_ (a' := ?_) ?_ ?_
    rotate_left
    · show Act.put _ (some 25) _ = _
      simp only [Act.put, List.setIfInBounds_toArray, List.set_cons_zero, List.set_cons_succ, i64_w, i32_w]
      rfl
    refine pure_ (i := 3) (N := some 26) (v := ?_) (a' := ?_) #[true, true, true, true, true, true, false, false, false] rfl rfl (any_of HT_.out (by kernel_rfl)) (fun _ _ _ h => h) (Or.inl ⟨by rfl, ?_⟩) ?_ ?_
    rotate_left
    · intro w'
      go_simp
      first | with_reducible rfl | (rw [if_neg (by omega)]; done) | (rw [if_neg (by (try simp only [decide_eq_true_eq, decide_eq_false_iff_not, eq_iff_iff, iff_true, iff_false] at *); (try simp only [ByteArray.size_extract, ByteArray.size_append, show (⟨#[97, 98, 99]⟩ : ByteArray).size = 3 from rfl, show (⟨#[88, 89, 90]⟩ : ByteArray).size = 3 from rfl, show (⟨#[61]⟩ : ByteArray).size = 1 from rfl, show (⟨#[108, 101, 110]⟩ : ByteArray).size = 3 from rfl, show (⟨#[32]⟩ : ByteArray).size = 1 from rfl, show (⟨#[32, 105, 110, 32]⟩ : ByteArray).size = 4 from rfl, show (⟨#[32, 111, 117, 116, 32]⟩ : ByteArray).size = 5 from rfl, show (⟨#[32, 33, 61, 32]⟩ : ByteArray).size = 4 from rfl, show (⟨#[32, 61, 32]⟩ : ByteArray).size = 3 from rfl] at *); omega)]; done)
    rotate_left
    · simp only [Act.put, List.setIfInBounds_toArray, List.set_cons_zero, List.set_cons_succ, i64_w, i32_w]
      rfl
    refine one_ (i := 6) (N := some 29) #[true, true, true, true, true, true, true, false, false] rfl rfl (one_of HT_.out (by kernel_rfl)) (by decide) (fun K hK => ?_)
    refine goes_ Tryd.func24 (by kernel_rfl) rfl #[.string a0_2] (by rfl) rfl rfl (by (try simp only [List.map_toArray, List.map_cons, List.map_nil]); first | done | rfl | (simp only [List.length_drop, List.length_take]; rfl)) ?_
    with_reducible refine (impl_orDash.calls a0_2 t8006 _ A17.out).mono ?_
    rintro e w' ⟨rfl, ⟨nd, rfl⟩⟩
    refine ⟨_, rfl, ?_⟩
    refine hK.out _ _ ⟨(blk_cell BK8001.out 0).trans rfl, (blk_cell BK8001.out 1).trans rfl, (blk_cell BK8001.out 2).trans rfl, (blk_cell BK8001.out 3).trans rfl, (blk_cell BK8001.out 4).trans rfl, (blk_cell BK8001.out 5).trans rfl, (blk_cell BK8001.out 6).trans rfl, (blk_cell BK8001.out 7).trans rfl⟩ (fun hHeld => ?_)
    clear hK K
    refine norm_ (a' := ?_) ?_ ?_
    rotate_left
    · show Act.put _ (some 29) _ = _
      simp only [Act.put, List.setIfInBounds_toArray, List.set_cons_zero, List.set_cons_succ, i64_w, i32_w]
      rfl
    refine pure_ (i := 7) (N := some 30) (v := ?_) (a' := ?_) #[true, true, true, true, true, true, true, true, false] rfl rfl (any_of HT_.out (by kernel_rfl)) (fun _ _ _ h => h) (Or.inl ⟨by rfl, ?_⟩) ?_ ?_
    rotate_left
    · intro w'
      go_simp
      first | with_reducible rfl | (rw [if_neg (by omega)]; done) | (rw [if_neg (by (try simp only [decide_eq_true_eq, decide_eq_false_iff_not, eq_iff_iff, iff_true, iff_false] at *); (try simp only [ByteArray.size_extract, ByteArray.size_append, show (⟨#[97, 98, 99]⟩ : ByteArray).size = 3 from rfl, show (⟨#[88, 89, 90]⟩ : ByteArray).size = 3 from rfl, show (⟨#[61]⟩ : ByteArray).size = 1 from rfl, show (⟨#[108, 101, 110]⟩ : ByteArray).size = 3 from rfl, show (⟨#[32]⟩ : ByteArray).size = 1 from rfl, show (⟨#[32, 105, 110, 32]⟩ : ByteArray).size = 4 from rfl, show (⟨#[32, 111, 117, 116, 32]⟩ : ByteArray).size = 5 from rfl, show (⟨#[32, 33, 61, 32]⟩ : ByteArray).size = 4 from rfl, show (⟨#[32, 61, 32]⟩ : ByteArray).size = 3 from rfl] at *); omega)]; done)
    rotate_left
    · simp only [Act.put, List.setIfInBounds_toArray, List.set_cons_zero, List.set_cons_succ, i64_w, i32_w]
      rfl
    refine pure_ (i := 8) (N := some 2) (v := ?_) (a' := ?_) #[true, true, true, true, true, true, true, true, true] rfl rfl (any_of HT_.out (by kernel_rfl)) (fun _ _ _ h => h) (Or.inl ⟨by rfl, ?_⟩) ?_ ?_
    rotate_left
    · intro w'
      go_simp
      first | with_reducible rfl | (rw [if_neg (by omega)]; done) | (rw [if_neg (by (try simp only [decide_eq_true_eq, decide_eq_false_iff_not, eq_iff_iff, iff_true, iff_false] at *); (try simp only [ByteArray.size_extract, ByteArray.size_append, show (⟨#[97, 98, 99]⟩ : ByteArray).size = 3 from rfl, show (⟨#[88, 89, 90]⟩ : ByteArray).size = 3 from rfl, show (⟨#[61]⟩ : ByteArray).size = 1 from rfl, show (⟨#[108, 101, 110]⟩ : ByteArray).size = 3 from rfl, show (⟨#[32]⟩ : ByteArray).size = 1 from rfl, show (⟨#[32, 105, 110, 32]⟩ : ByteArray).size = 4 from rfl, show (⟨#[32, 111, 117, 116, 32]⟩ : ByteArray).size = 5 from rfl, show (⟨#[32, 33, 61, 32]⟩ : ByteArray).size = 4 from rfl, show (⟨#[32, 61, 32]⟩ : ByteArray).size = 3 from rfl] at *); omega)]; done)
    rotate_left
    · simp only [Act.put, List.setIfInBounds_toArray, List.set_cons_zero, List.set_cons_succ, i64_w, i32_w]
      rfl
    refine done_ (done_of HT_.out (by kernel_rfl)) ?_
    try go_wp2
    go_ret
    exact ⟨by first | rfl | (simp [errW_none, errW_some] <;> rfl) | (simp [*, errW_none, errW_some] <;> rfl), by repeat (first | (with_reducible first | exact HB.out | apply below_alloc | apply pw_below_drewN | apply below_drew1 | refine below_set ?_ (Aside0.out (by assumption))) | exact HB.out)⟩
  · rw [if_neg c18] at H
    exact absurd H (by simp)
  · rw [if_neg c16] at H
    exact absurd H (by simp)
  rw [if_neg c14] at H
  have c14b0 : (a0_0 == 2) = false := beq_eq_false_iff_ne.mpr c14
  have c14b1 : (a0_0 != 2) = true := bne_iff_ne.mpr c14
  by_cases c24 : a0_0 = 3
  rw [if_pos c24] at H
  have c24b0 : (a0_0 == 3) = true := beq_iff_eq.mpr c24
  have c24b1 : (a0_0 != 3) = false := bne_eq_false_iff_eq.mpr c24
  clear c24
  replace H := Option.bind_eq_some_iff.mp H
  obtain ⟨t8007, A250, H⟩ := H
  replace H : (if t8007.size + 4 ≤ 9223372036854775807 then ((impl_FormatRegex.f k a0_3 a0_4 l0_5).bind fun t8008 => (if (t8007 ++ (⟨#[32, 105, 110, 32]⟩ : ByteArray)).size + t8008.size ≤ 9223372036854775807 then (some ((t8007 ++ (⟨#[32, 105, 110, 32]⟩ : ByteArray)) ++ t8008)) else (none))) else (none)) = some r := H
  have A25 := Aside0.mk A250
  clear A250
  by_cases c26 : t8007.size + 4 ≤ 9223372036854775807
  rw [if_pos c26] at H
  have c26z := c26
  try simp at c26z
  try replace c26z := eq_false (Nat.not_lt.2 c26z)
  have c26b0 := eq_true c26
  have c26b1 : decide (t8007.size + 4 ≤ 9223372036854775807) = true := decide_eq_true c26
  try have c26b2 : (9223372036854775807 < t8007.size + 4) = False := eq_false (Nat.not_lt.2 c26)
  replace H := Option.bind_eq_some_iff.mp H
  obtain ⟨t8008, A270, H⟩ := H
  replace H : (if (t8007 ++ (⟨#[32, 105, 110, 32]⟩ : ByteArray)).size + t8008.size ≤ 9223372036854775807 then (some ((t8007 ++ (⟨#[32, 105, 110, 32]⟩ : ByteArray)) ++ t8008)) else (none)) = some r := H
  have A27 := Aside0.mk A270
  clear A270
  by_cases c28 : (t8007 ++ (⟨#[32, 105, 110, 32]⟩ : ByteArray)).size + t8008.size ≤ 9223372036854775807
  · rw [if_pos c28] at H
    have c28z := c28
    try simp at c28z
    try replace c28z := eq_false (Nat.not_lt.2 c28z)
    have c28b0 := eq_true c28
    have c28b1 : decide ((t8007 ++ (⟨#[32, 105, 110, 32]⟩ : ByteArray)).size + t8008.size ≤ 9223372036854775807) = true := decide_eq_true c28
    try have c28y : (9223372036854775807 < t8007.size + 4 + t8008.size) = False := eq_false (by have q_ := c28; simp only [ByteArray.size_append, show (⟨#[32, 105, 110, 32]⟩ : ByteArray).size = 4 from rfl] at q_; omega)
    try have c28b2 : (9223372036854775807 < (t8007 ++ (⟨#[32, 105, 110, 32]⟩ : ByteArray)).size + t8008.size) = False := eq_false (Nat.not_lt.2 c28)
    obtain rfl := Option.some.inj H
    go_enter Tryd.func8, Tryd.ntmps8
    try go_wp2_with (first | ((with_reducible refine gate_dst (N := 1) rfl ?_); refine box_event ?hg (N := 1) ?hd (cs := #[.int .i64 a0_0, .string a0_1, .string a0_2, .int .i64 a0_3, .string a0_4, .slice A0_5 l0_5.length c0_5, .slice A0_6 l0_6.length c0_6, .int .i64 a0_7]) (t := 34) ?hr ?_; (case hd => rfl); (case hg => rfl); (case hr => first | (go_simp; done) | (go_simp; rfl)); intro gb8001 hg w29 hbox hb; have n0_ := Aside0.mk (below_step (by repeat (first | (with_reducible first | exact HB.out | apply below_alloc | apply pw_below_drewN | apply below_drew1 | refine below_set ?_ (Aside0.out (by assumption))) | exact HB.out)) hb); have n1_ := Aside0.mk (hbox); have n2_ := Aside0.mk ((by rw [hg]; exact (below_size (by repeat (first | (with_reducible first | exact HB.out | apply below_alloc | apply pw_below_drewN | apply below_drew1 | refine below_set ?_ (Aside0.out (by assumption))) | exact HB.out))) : w.heap.size ≤ gb8001)); have n3_ := Aside0.mk ((by rw [hg]; exact (below_size (by repeat (first | (with_reducible first | exact HB.out | apply below_alloc | apply pw_below_drewN | apply below_drew1 | refine below_set ?_ (Aside0.out (by assumption))) | exact HB.out))) : w.heap.size ≤ gb8001)); clear HB; have HB := n0_; have BK8001 := n1_; have GW8001 := n2_; have GE8001 := n3_; clear n0_ n1_ n2_ n3_; clear hb hbox hg; obtain ⟨hcz30_0, hcz30_1, hcz30_2, hcz30_3, hcz30_4, hcz30_5, hcz30_6, hcz30_7, hfz30_0, hfz30_1, hfz30_2, hfz30_3, hfz30_4, hfz30_5, hfz30_6, hfz30_7⟩ := blk8 BK8001.out) | ((with_reducible refine gate_callee (f := 23) rfl ?_); refine goesL_ (some 7) rfl rfl Tryd.func23 (by kernel_rfl) rfl #[.agg #[.int .i64 a0_0, .string a0_1, .string a0_2, .int .i64 a0_3, .string a0_4, .slice A0_5 l0_5.length c0_5, .slice A0_6 l0_6.length c0_6, .int .i64 a0_7]] rfl (by (try simp only [List.map_toArray, List.map_cons, List.map_nil]); first | done | rfl | (simp only [List.length_drop, List.length_take]; rfl)) ?_; (with_reducible refine (impl_IsValidConstraint.calls k a0_0 a0_1 a0_2 a0_3 a0_4 _ _ l0_5 _ _ l0_6 a0_7 _ _ ?side1 ?side2 ?side3 ?side4 A2.out).mono ?_); (case side1 => repeat (first | exact (Kd.C_below HR0_5.out HB.out) | (with_reducible refine Kd.C_alloc ?_ _) | (with_reducible refine Kd.C_drewN ?_ _) | (with_reducible refine Kd.C_drew ?_))); (case side2 => exact HC0_5.out); (case side3 => repeat (first | exact (Kd.C_below HR0_6.out HB.out) | (with_reducible refine Kd.C_alloc ?_ _) | (with_reducible refine Kd.C_drewN ?_ _) | (with_reducible refine Kd.C_drew ?_))); (case side4 => exact HC0_6.out); rintro e w31 ⟨rfl, hb⟩; refine ⟨_, rfl, ?_⟩; have n0_ := Aside0.mk (blk_below (g := gb8001) (o := .cells #[.int .i64 a0_0, .string a0_1, .string a0_2, .int .i64 a0_3, .string a0_4, .slice A0_5 l0_5.length c0_5, .slice A0_6 l0_6.length c0_6, .int .i64 a0_7] 34 (0, 0)) (by (with_reducible repeat (first | refine blk_drewN ?_ _ | refine blk_drew ?_ | refine blk_alloc ?_ _)); exact BK8001.out) hb); have n1_ := Aside0.mk (below_step (by repeat (first | (with_reducible first | exact HB.out | apply below_alloc | apply pw_below_drewN | apply below_drew1 | refine below_set ?_ (Aside0.out (by assumption))) | exact HB.out)) hb); clear BK8001; clear HB; have BK8001 := n0_; have HB := n1_; clear n0_ n1_; (try clear hb); (try clear hb2); (try clear hk); (try clear hi); obtain ⟨hcz32_0, hcz32_1, hcz32_2, hcz32_3, hcz32_4, hcz32_5, hcz32_6, hcz32_7, hfz32_0, hfz32_1, hfz32_2, hfz32_3, hfz32_4, hfz32_5, hfz32_6, hfz32_7⟩ := blk8 BK8001.out))
    have n0_ := Aside0.mk (blk_drew BK8001.out)
    have n1_ := Aside0.mk (below_drew1 HB.out)
    clear BK8001
    clear HB
    have BK8001 := n0_
    have HB := n1_
    clear n0_ n1_
    refine start_ (n := 9) (S := fun w' => w'.cell? ⟨gb8001, 0, none⟩ = some (.int .i64 a0_0) ∧ w'.cell? ⟨gb8001, 1, none⟩ = some (.string a0_1) ∧ w'.cell? ⟨gb8001, 2, none⟩ = some (.string a0_2) ∧ w'.cell? ⟨gb8001, 3, none⟩ = some (.int .i64 a0_3) ∧ w'.cell? ⟨gb8001, 4, none⟩ = some (.string a0_4) ∧ w'.cell? ⟨gb8001, 5, none⟩ = some (.slice A0_5 l0_5.length c0_5) ∧ w'.cell? ⟨gb8001, 6, none⟩ = some (.slice A0_6 l0_6.length c0_6) ∧ w'.cell? ⟨gb8001, 7, none⟩ = some (.int .i64 a0_7)) (ds := []) #[false, false, false, false, false, false, false, false, false] (by kernel_rfl) rfl rfl ⟨(blk_cell BK8001.out 0).trans rfl, (blk_cell BK8001.out 1).trans rfl, (blk_cell BK8001.out 2).trans rfl, (blk_cell BK8001.out 3).trans rfl, (blk_cell BK8001.out 4).trans rfl, (blk_cell BK8001.out 5).trans rfl, (blk_cell BK8001.out 6).trans rfl, (blk_cell BK8001.out 7).trans rfl⟩ (fun hHeld => ?_); refine with_tabW impl_FormatConstraint.tab9 impl_FormatConstraint.bits9 (fun HT_ HW_ => ?_)
    generalize w31.drew = w33 at BK8001 HB hHeld ⊢
    refine pure_ (i := 0) (N := some 33) (v := ?_) (a' := ?_) #[true, false, false, false, false, false, false, false, false] rfl rfl (any_of HT_.out (by kernel_rfl)) (fun _ _ _ h => h) (Or.inl ⟨by rfl, ?_⟩) ?_ ?_
    rotate_left
    · intro w'
      go_simp
      first | with_reducible rfl | (rw [if_neg (by omega)]; done) | (rw [if_neg (by (try simp only [decide_eq_true_eq, decide_eq_false_iff_not, eq_iff_iff, iff_true, iff_false] at *); (try simp only [ByteArray.size_extract, ByteArray.size_append, show (⟨#[97, 98, 99]⟩ : ByteArray).size = 3 from rfl, show (⟨#[88, 89, 90]⟩ : ByteArray).size = 3 from rfl, show (⟨#[61]⟩ : ByteArray).size = 1 from rfl, show (⟨#[108, 101, 110]⟩ : ByteArray).size = 3 from rfl, show (⟨#[32]⟩ : ByteArray).size = 1 from rfl, show (⟨#[32, 105, 110, 32]⟩ : ByteArray).size = 4 from rfl, show (⟨#[32, 111, 117, 116, 32]⟩ : ByteArray).size = 5 from rfl, show (⟨#[32, 33, 61, 32]⟩ : ByteArray).size = 4 from rfl, show (⟨#[32, 61, 32]⟩ : ByteArray).size = 3 from rfl] at *); omega)]; done)
    rotate_left
    · simp only [Act.put, List.setIfInBounds_toArray, List.set_cons_zero, List.set_cons_succ, i64_w, i32_w]
      rfl
    refine pure_ (i := 4) (N := some 37) (v := ?_) (a' := ?_) #[true, false, false, false, true, false, false, false, false] rfl rfl (any_of HT_.out (by kernel_rfl)) (fun _ _ _ h => h) (Or.inl ⟨by rfl, ?_⟩) ?_ ?_
    rotate_left
    · intro w'
      go_simp
      first | with_reducible rfl | (rw [if_neg (by omega)]; done) | (rw [if_neg (by (try simp only [decide_eq_true_eq, decide_eq_false_iff_not, eq_iff_iff, iff_true, iff_false] at *); (try simp only [ByteArray.size_extract, ByteArray.size_append, show (⟨#[97, 98, 99]⟩ : ByteArray).size = 3 from rfl, show (⟨#[88, 89, 90]⟩ : ByteArray).size = 3 from rfl, show (⟨#[61]⟩ : ByteArray).size = 1 from rfl, show (⟨#[108, 101, 110]⟩ : ByteArray).size = 3 from rfl, show (⟨#[32]⟩ : ByteArray).size = 1 from rfl, show (⟨#[32, 105, 110, 32]⟩ : ByteArray).size = 4 from rfl, show (⟨#[32, 111, 117, 116, 32]⟩ : ByteArray).size = 5 from rfl, show (⟨#[32, 33, 61, 32]⟩ : ByteArray).size = 4 from rfl, show (⟨#[32, 61, 32]⟩ : ByteArray).size = 3 from rfl] at *); omega)]; done)
    rotate_left
    · simp only [Act.put, List.setIfInBounds_toArray, List.set_cons_zero, List.set_cons_succ, i64_w, i32_w]
      rfl
    refine take_ (i := 1) (N := some 34) (v := ?_) (a' := ?_) #[true, true, false, false, true, false, false, false, false] rfl rfl (take_ofW HT_.out HW_.out (by kernel_rfl)) (fun _ _ _ h => h) (Or.inl ⟨by rfl, ?_⟩) hHeld ?_ ?_
    rotate_left
    · rintro w' ⟨s0, s1, s2, s3, s4, s5, s6, s7⟩
      go_simp
      first | with_reducible rfl | (rw [if_neg (by omega)]; done) | (rw [if_neg (by (try simp only [decide_eq_true_eq, decide_eq_false_iff_not, eq_iff_iff, iff_true, iff_false] at *); (try simp only [ByteArray.size_extract, ByteArray.size_append, show (⟨#[97, 98, 99]⟩ : ByteArray).size = 3 from rfl, show (⟨#[88, 89, 90]⟩ : ByteArray).size = 3 from rfl, show (⟨#[61]⟩ : ByteArray).size = 1 from rfl, show (⟨#[108, 101, 110]⟩ : ByteArray).size = 3 from rfl, show (⟨#[32]⟩ : ByteArray).size = 1 from rfl, show (⟨#[32, 105, 110, 32]⟩ : ByteArray).size = 4 from rfl, show (⟨#[32, 111, 117, 116, 32]⟩ : ByteArray).size = 5 from rfl, show (⟨#[32, 33, 61, 32]⟩ : ByteArray).size = 4 from rfl, show (⟨#[32, 61, 32]⟩ : ByteArray).size = 3 from rfl] at *); omega)]; done)
    rotate_left
    · simp only [Act.put, List.setIfInBounds_toArray, List.set_cons_zero, List.set_cons_succ, i64_w, i32_w]
      rfl
    refine take_ (i := 5) (N := some 38) (v := ?_) (a' := ?_) #[true, true, false, false, true, true, false, false, false] rfl rfl (take_ofW HT_.out HW_.out (by kernel_rfl)) (fun _ _ _ h => h) (Or.inl ⟨by rfl, ?_⟩) hHeld ?_ ?_
    rotate_left
    · rintro w' ⟨s0, s1, s2, s3, s4, s5, s6, s7⟩
      go_simp
      first | with_reducible rfl | (rw [if_neg (by omega)]; done) | (rw [if_neg (by (try simp only [decide_eq_true_eq, decide_eq_false_iff_not, eq_iff_iff, iff_true, iff_false] at *); (try simp only [ByteArray.size_extract, ByteArray.size_append, show (⟨#[97, 98, 99]⟩ : ByteArray).size = 3 from rfl, show (⟨#[88, 89, 90]⟩ : ByteArray).size = 3 from rfl, show (⟨#[61]⟩ : ByteArray).size = 1 from rfl, show (⟨#[108, 101, 110]⟩ : ByteArray).size = 3 from rfl, show (⟨#[32]⟩ : ByteArray).size = 1 from rfl, show (⟨#[32, 105, 110, 32]⟩ : ByteArray).size = 4 from rfl, show (⟨#[32, 111, 117, 116, 32]⟩ : ByteArray).size = 5 from rfl, show (⟨#[32, 33, 61, 32]⟩ : ByteArray).size = 4 from rfl, show (⟨#[32, 61, 32]⟩ : ByteArray).size = 3 from rfl] at *); omega)]; done)
    rotate_left
    · simp only [Act.put, List.setIfInBounds_toArray, List.set_cons_zero, List.set_cons_succ, i64_w, i32_w]
      rfl
    refine one_ (i := 2) (N := some 35) #[true, true, true, false, true, true, false, false, false] rfl rfl (one_of HT_.out (by kernel_rfl)) (by decide) (fun K hK => ?_)
    refine goes_ Tryd.func24 (by kernel_rfl) rfl #[.string a0_1] (by rfl) rfl rfl (by (try simp only [List.map_toArray, List.map_cons, List.map_nil]); first | done | rfl | (simp only [List.length_drop, List.length_take]; rfl)) ?_
    with_reducible refine (impl_orDash.calls a0_1 t8007 _ A25.out).mono ?_
    rintro e w' ⟨rfl, ⟨nd, rfl⟩⟩
    refine ⟨_, rfl, ?_⟩
    refine hK.out _ _ ⟨(blk_cell BK8001.out 0).trans rfl, (blk_cell BK8001.out 1).trans rfl, (blk_cell BK8001.out 2).trans rfl, (blk_cell BK8001.out 3).trans rfl, (blk_cell BK8001.out 4).trans rfl, (blk_cell BK8001.out 5).trans rfl, (blk_cell BK8001.out 6).trans rfl, (blk_cell BK8001.out 7).trans rfl⟩ (fun hHeld => ?_)
    clear hK K
    refine norm_ (a' := ?_) ?_ ?_
    rotate_left
    · show Act.put _ (some 35) _ = _
      simp only [Act.put, List.setIfInBounds_toArray, List.set_cons_zero, List.set_cons_succ, i64_w, i32_w]
      rfl
    refine pure_ (i := 3) (N := some 36) (v := ?_) (a' := ?_) #[true, true, true, true, true, true, false, false, false] rfl rfl (any_of HT_.out (by kernel_rfl)) (fun _ _ _ h => h) (Or.inl ⟨by rfl, ?_⟩) ?_ ?_
    rotate_left
    · intro w'
      go_simp
      first | with_reducible rfl | (rw [if_neg (by omega)]; done) | (rw [if_neg (by (try simp only [decide_eq_true_eq, decide_eq_false_iff_not, eq_iff_iff, iff_true, iff_false] at *); (try simp only [ByteArray.size_extract, ByteArray.size_append, show (⟨#[97, 98, 99]⟩ : ByteArray).size = 3 from rfl, show (⟨#[88, 89, 90]⟩ : ByteArray).size = 3 from rfl, show (⟨#[61]⟩ : ByteArray).size = 1 from rfl, show (⟨#[108, 101, 110]⟩ : ByteArray).size = 3 from rfl, show (⟨#[32]⟩ : ByteArray).size = 1 from rfl, show (⟨#[32, 105, 110, 32]⟩ : ByteArray).size = 4 from rfl, show (⟨#[32, 111, 117, 116, 32]⟩ : ByteArray).size = 5 from rfl, show (⟨#[32, 33, 61, 32]⟩ : ByteArray).size = 4 from rfl, show (⟨#[32, 61, 32]⟩ : ByteArray).size = 3 from rfl] at *); omega)]; done)
    rotate_left
    · simp only [Act.put, List.setIfInBounds_toArray, List.set_cons_zero, List.set_cons_succ, i64_w, i32_w]
      rfl
    refine one_ (i := 6) (N := some 39) #[true, true, true, true, true, true, true, false, false] rfl rfl (one_of HT_.out (by kernel_rfl)) (by decide) (fun K hK => ?_)
    refine goes_ Tryd.func25 (by kernel_rfl) rfl #[.agg #[.int .i64 a0_3, .string a0_4, .slice A0_5 l0_5.length c0_5]] (by rfl) rfl rfl (by (try simp only [List.map_toArray, List.map_cons, List.map_nil]); first | done | rfl | (simp only [List.length_drop, List.length_take]; rfl)) ?_
    with_reducible refine (impl_FormatRegex.calls k a0_3 a0_4 _ _ l0_5 t8008 _ ?side1 ?side2 A27.out).mono ?_
    (case side1 => repeat (first | exact (Kd.C_below HR0_5.out (by repeat (first | (with_reducible first | exact HB.out | apply below_alloc | apply pw_below_drewN | apply below_drew1 | refine below_set ?_ (Aside0.out (by assumption))) | exact HB.out))) | (with_reducible refine Kd.C_alloc ?_ _) | (with_reducible refine Kd.C_drewN ?_ _) | (with_reducible refine Kd.C_drew ?_)))
    (case side2 => exact HC0_5.out)
    rintro e w34 ⟨rfl, hb⟩
    refine ⟨_, rfl, ?_⟩
    have n0_ := Aside0.mk (blk_below (g := gb8001) (o := .cells #[.int .i64 a0_0, .string a0_1, .string a0_2, .int .i64 a0_3, .string a0_4, .slice A0_5 l0_5.length c0_5, .slice A0_6 l0_6.length c0_6, .int .i64 a0_7] 34 (0, 0)) (by (with_reducible repeat (first | refine blk_drewN ?_ _ | refine blk_drew ?_ | refine blk_alloc ?_ _)); exact BK8001.out) hb)
    have n1_ := Aside0.mk (below_step (by repeat (first | (with_reducible first | exact HB.out | apply below_alloc | apply pw_below_drewN | apply below_drew1 | refine below_set ?_ (Aside0.out (by assumption))) | exact HB.out)) hb)
    clear BK8001
    clear HB
    have BK8001 := n0_
    have HB := n1_
    clear n0_ n1_
    (try clear hb)
    (try clear hb2)
    (try clear hk)
    (try clear hi)
    refine hK.out _ _ ⟨(blk_cell BK8001.out 0).trans rfl, (blk_cell BK8001.out 1).trans rfl, (blk_cell BK8001.out 2).trans rfl, (blk_cell BK8001.out 3).trans rfl, (blk_cell BK8001.out 4).trans rfl, (blk_cell BK8001.out 5).trans rfl, (blk_cell BK8001.out 6).trans rfl, (blk_cell BK8001.out 7).trans rfl⟩ (fun hHeld => ?_)
    clear hK K
    refine norm_ (a' := ?_) ?_ ?_
    rotate_left
    · show Act.put _ (some 39) _ = _
      simp only [Act.put, List.setIfInBounds_toArray, List.set_cons_zero, List.set_cons_succ, i64_w, i32_w]
      rfl
    refine pure_ (i := 7) (N := some 40) (v := ?_) (a' := ?_) #[true, true, true, true, true, true, true, true, false] rfl rfl (any_of HT_.out (by kernel_rfl)) (fun _ _ _ h => h) (Or.inl ⟨by rfl, ?_⟩) ?_ ?_
    rotate_left
    · intro w'
      go_simp
      first | with_reducible rfl | (rw [if_neg (by omega)]; done) | (rw [if_neg (by (try simp only [decide_eq_true_eq, decide_eq_false_iff_not, eq_iff_iff, iff_true, iff_false] at *); (try simp only [ByteArray.size_extract, ByteArray.size_append, show (⟨#[97, 98, 99]⟩ : ByteArray).size = 3 from rfl, show (⟨#[88, 89, 90]⟩ : ByteArray).size = 3 from rfl, show (⟨#[61]⟩ : ByteArray).size = 1 from rfl, show (⟨#[108, 101, 110]⟩ : ByteArray).size = 3 from rfl, show (⟨#[32]⟩ : ByteArray).size = 1 from rfl, show (⟨#[32, 105, 110, 32]⟩ : ByteArray).size = 4 from rfl, show (⟨#[32, 111, 117, 116, 32]⟩ : ByteArray).size = 5 from rfl, show (⟨#[32, 33, 61, 32]⟩ : ByteArray).size = 4 from rfl, show (⟨#[32, 61, 32]⟩ : ByteArray).size = 3 from rfl] at *); omega)]; done)
    rotate_left
    · simp only [Act.put, List.setIfInBounds_toArray, List.set_cons_zero, List.set_cons_succ, i64_w, i32_w]
      rfl
    refine pure_ (i := 8) (N := some 2) (v := ?_) (a' := ?_) #[true, true, true, true, true, true, true, true, true] rfl rfl (any_of HT_.out (by kernel_rfl)) (fun _ _ _ h => h) (Or.inl ⟨by rfl, ?_⟩) ?_ ?_
    rotate_left
    · intro w'
      go_simp
      first | with_reducible rfl | (rw [if_neg (by omega)]; done) | (rw [if_neg (by (try simp only [decide_eq_true_eq, decide_eq_false_iff_not, eq_iff_iff, iff_true, iff_false] at *); (try simp only [ByteArray.size_extract, ByteArray.size_append, show (⟨#[97, 98, 99]⟩ : ByteArray).size = 3 from rfl, show (⟨#[88, 89, 90]⟩ : ByteArray).size = 3 from rfl, show (⟨#[61]⟩ : ByteArray).size = 1 from rfl, show (⟨#[108, 101, 110]⟩ : ByteArray).size = 3 from rfl, show (⟨#[32]⟩ : ByteArray).size = 1 from rfl, show (⟨#[32, 105, 110, 32]⟩ : ByteArray).size = 4 from rfl, show (⟨#[32, 111, 117, 116, 32]⟩ : ByteArray).size = 5 from rfl, show (⟨#[32, 33, 61, 32]⟩ : ByteArray).size = 4 from rfl, show (⟨#[32, 61, 32]⟩ : ByteArray).size = 3 from rfl] at *); omega)]; done)
    rotate_left
    · simp only [Act.put, List.setIfInBounds_toArray, List.set_cons_zero, List.set_cons_succ, i64_w, i32_w]
      rfl
    refine done_ (done_of HT_.out (by kernel_rfl)) ?_
    try go_wp2
    go_ret
    exact ⟨by first | rfl | (simp [errW_none, errW_some] <;> rfl) | (simp [*, errW_none, errW_some] <;> rfl), by repeat (first | (with_reducible first | exact HB.out | apply below_alloc | apply pw_below_drewN | apply below_drew1 | refine below_set ?_ (Aside0.out (by assumption))) | exact HB.out)⟩
  · rw [if_neg c28] at H
    exact absurd H (by simp)
  · rw [if_neg c26] at H
    exact absurd H (by simp)
  rw [if_neg c24] at H
  have c24b0 : (a0_0 == 3) = false := beq_eq_false_iff_ne.mpr c24
  have c24b1 : (a0_0 != 3) = true := bne_iff_ne.mpr c24
  by_cases c35 : a0_0 = 4
  rw [if_pos c35] at H
  have c35b0 : (a0_0 == 4) = true := beq_iff_eq.mpr c35
  have c35b1 : (a0_0 != 4) = false := bne_eq_false_iff_eq.mpr c35
  clear c35
  replace H := Option.bind_eq_some_iff.mp H
  obtain ⟨t8009, A360, H⟩ := H
  replace H : (if t8009.size + 5 ≤ 9223372036854775807 then ((impl_FormatRegex.f k a0_3 a0_4 l0_5).bind fun t8010 => (if (t8009 ++ (⟨#[32, 111, 117, 116, 32]⟩ : ByteArray)).size + t8010.size ≤ 9223372036854775807 then (some ((t8009 ++ (⟨#[32, 111, 117, 116, 32]⟩ : ByteArray)) ++ t8010)) else (none))) else (none)) = some r := H
  have A36 := Aside0.mk A360
  clear A360
  by_cases c37 : t8009.size + 5 ≤ 9223372036854775807
  rw [if_pos c37] at H
  have c37z := c37
  try simp at c37z
  try replace c37z := eq_false (Nat.not_lt.2 c37z)
  have c37b0 := eq_true c37
  have c37b1 : decide (t8009.size + 5 ≤ 9223372036854775807) = true := decide_eq_true c37
  try have c37b2 : (9223372036854775807 < t8009.size + 5) = False := eq_false (Nat.not_lt.2 c37)
  replace H := Option.bind_eq_some_iff.mp H
  obtain ⟨t8010, A380, H⟩ := H
  replace H : (if (t8009 ++ (⟨#[32, 111, 117, 116, 32]⟩ : ByteArray)).size + t8010.size ≤ 9223372036854775807 then (some ((t8009 ++ (⟨#[32, 111, 117, 116, 32]⟩ : ByteArray)) ++ t8010)) else (none)) = some r := H
  have A38 := Aside0.mk A380
  clear A380
  by_cases c39 : (t8009 ++ (⟨#[32, 111, 117, 116, 32]⟩ : ByteArray)).size + t8010.size ≤ 9223372036854775807
  · rw [if_pos c39] at H
    have c39z := c39
    try simp at c39z
    try replace c39z := eq_false (Nat.not_lt.2 c39z)
    have c39b0 := eq_true c39
    have c39b1 : decide ((t8009 ++ (⟨#[32, 111, 117, 116, 32]⟩ : ByteArray)).size + t8010.size ≤ 9223372036854775807) = true := decide_eq_true c39
    try have c39y : (9223372036854775807 < t8009.size + 5 + t8010.size) = False := eq_false (by have q_ := c39; simp only [ByteArray.size_append, show (⟨#[32, 111, 117, 116, 32]⟩ : ByteArray).size = 5 from rfl] at q_; omega)
    try have c39b2 : (9223372036854775807 < (t8009 ++ (⟨#[32, 111, 117, 116, 32]⟩ : ByteArray)).size + t8010.size) = False := eq_false (Nat.not_lt.2 c39)
    obtain rfl := Option.some.inj H
    go_enter Tryd.func8, Tryd.ntmps8
    try go_wp2_with (first | ((with_reducible refine gate_dst (N := 1) rfl ?_); refine box_event ?hg (N := 1) ?hd (cs := #[.int .i64 a0_0, .string a0_1, .string a0_2, .int .i64 a0_3, .string a0_4, .slice A0_5 l0_5.length c0_5, .slice A0_6 l0_6.length c0_6, .int .i64 a0_7]) (t := 34) ?hr ?_; (case hd => rfl); (case hg => rfl); (case hr => first | (go_simp; done) | (go_simp; rfl)); intro gb8001 hg w40 hbox hb; have n0_ := Aside0.mk (below_step (by repeat (first | (with_reducible first | exact HB.out | apply below_alloc | apply pw_below_drewN | apply below_drew1 | refine below_set ?_ (Aside0.out (by assumption))) | exact HB.out)) hb); have n1_ := Aside0.mk (hbox); have n2_ := Aside0.mk ((by rw [hg]; exact (below_size (by repeat (first | (with_reducible first | exact HB.out | apply below_alloc | apply pw_below_drewN | apply below_drew1 | refine below_set ?_ (Aside0.out (by assumption))) | exact HB.out))) : w.heap.size ≤ gb8001)); have n3_ := Aside0.mk ((by rw [hg]; exact (below_size (by repeat (first | (with_reducible first | exact HB.out | apply below_alloc | apply pw_below_drewN | apply below_drew1 | refine below_set ?_ (Aside0.out (by assumption))) | exact HB.out))) : w.heap.size ≤ gb8001)); clear HB; have HB := n0_; have BK8001 := n1_; have GW8001 := n2_; have GE8001 := n3_; clear n0_ n1_ n2_ n3_; clear hb hbox hg; obtain ⟨hcz41_0, hcz41_1, hcz41_2, hcz41_3, hcz41_4, hcz41_5, hcz41_6, hcz41_7, hfz41_0, hfz41_1, hfz41_2, hfz41_3, hfz41_4, hfz41_5, hfz41_6, hfz41_7⟩ := blk8 BK8001.out) | ((with_reducible refine gate_callee (f := 23) rfl ?_); refine goesL_ (some 7) rfl rfl Tryd.func23 (by kernel_rfl) rfl #[.agg #[.int .i64 a0_0, .string a0_1, .string a0_2, .int .i64 a0_3, .string a0_4, .slice A0_5 l0_5.length c0_5, .slice A0_6 l0_6.length c0_6, .int .i64 a0_7]] rfl (by (try simp only [List.map_toArray, List.map_cons, List.map_nil]); first | done | rfl | (simp only [List.length_drop, List.length_take]; rfl)) ?_; (with_reducible refine (impl_IsValidConstraint.calls k a0_0 a0_1 a0_2 a0_3 a0_4 _ _ l0_5 _ _ l0_6 a0_7 _ _ ?side1 ?side2 ?side3 ?side4 A2.out).mono ?_); (case side1 => repeat (first | exact (Kd.C_below HR0_5.out HB.out) | (with_reducible refine Kd.C_alloc ?_ _) | (with_reducible refine Kd.C_drewN ?_ _) | (with_reducible refine Kd.C_drew ?_))); (case side2 => exact HC0_5.out); (case side3 => repeat (first | exact (Kd.C_below HR0_6.out HB.out) | (with_reducible refine Kd.C_alloc ?_ _) | (with_reducible refine Kd.C_drewN ?_ _) | (with_reducible refine Kd.C_drew ?_))); (case side4 => exact HC0_6.out); rintro e w42 ⟨rfl, hb⟩; refine ⟨_, rfl, ?_⟩; have n0_ := Aside0.mk (blk_below (g := gb8001) (o := .cells #[.int .i64 a0_0, .string a0_1, .string a0_2, .int .i64 a0_3, .string a0_4, .slice A0_5 l0_5.length c0_5, .slice A0_6 l0_6.length c0_6, .int .i64 a0_7] 34 (0, 0)) (by (with_reducible repeat (first | refine blk_drewN ?_ _ | refine blk_drew ?_ | refine blk_alloc ?_ _)); exact BK8001.out) hb); have n1_ := Aside0.mk (below_step (by repeat (first | (with_reducible first | exact HB.out | apply below_alloc | apply pw_below_drewN | apply below_drew1 | refine below_set ?_ (Aside0.out (by assumption))) | exact HB.out)) hb); clear BK8001; clear HB; have BK8001 := n0_; have HB := n1_; clear n0_ n1_; (try clear hb); (try clear hb2); (try clear hk); (try clear hi); obtain ⟨hcz43_0, hcz43_1, hcz43_2, hcz43_3, hcz43_4, hcz43_5, hcz43_6, hcz43_7, hfz43_0, hfz43_1, hfz43_2, hfz43_3, hfz43_4, hfz43_5, hfz43_6, hfz43_7⟩ := blk8 BK8001.out))
    have n0_ := Aside0.mk (blk_drew BK8001.out)
    have n1_ := Aside0.mk (below_drew1 HB.out)
    clear BK8001
    clear HB
    have BK8001 := n0_
    have HB := n1_
    clear n0_ n1_
    refine start_ (n := 9) (S := fun w' => w'.cell? ⟨gb8001, 0, none⟩ = some (.int .i64 a0_0) ∧ w'.cell? ⟨gb8001, 1, none⟩ = some (.string a0_1) ∧ w'.cell? ⟨gb8001, 2, none⟩ = some (.string a0_2) ∧ w'.cell? ⟨gb8001, 3, none⟩ = some (.int .i64 a0_3) ∧ w'.cell? ⟨gb8001, 4, none⟩ = some (.string a0_4) ∧ w'.cell? ⟨gb8001, 5, none⟩ = some (.slice A0_5 l0_5.length c0_5) ∧ w'.cell? ⟨gb8001, 6, none⟩ = some (.slice A0_6 l0_6.length c0_6) ∧ w'.cell? ⟨gb8001, 7, none⟩ = some (.int .i64 a0_7)) (ds := []) #[false, false, false, false, false, false, false, false, false] (by kernel_rfl) rfl rfl ⟨(blk_cell BK8001.out 0).trans rfl, (blk_cell BK8001.out 1).trans rfl, (blk_cell BK8001.out 2).trans rfl, (blk_cell BK8001.out 3).trans rfl, (blk_cell BK8001.out 4).trans rfl, (blk_cell BK8001.out 5).trans rfl, (blk_cell BK8001.out 6).trans rfl, (blk_cell BK8001.out 7).trans rfl⟩ (fun hHeld => ?_); refine with_tabW impl_FormatConstraint.tab11 impl_FormatConstraint.bits11 (fun HT_ HW_ => ?_)
    generalize w42.drew = w44 at BK8001 HB hHeld ⊢
    refine pure_ (i := 0) (N := some 43) (v := ?_) (a' := ?_) #[true, false, false, false, false, false, false, false, false] rfl rfl (any_of HT_.out (by kernel_rfl)) (fun _ _ _ h => h) (Or.inl ⟨by rfl, ?_⟩) ?_ ?_
    rotate_left
    · intro w'
      go_simp
      first | with_reducible rfl | (rw [if_neg (by omega)]; done) | (rw [if_neg (by (try simp only [decide_eq_true_eq, decide_eq_false_iff_not, eq_iff_iff, iff_true, iff_false] at *); (try simp only [ByteArray.size_extract, ByteArray.size_append, show (⟨#[97, 98, 99]⟩ : ByteArray).size = 3 from rfl, show (⟨#[88, 89, 90]⟩ : ByteArray).size = 3 from rfl, show (⟨#[61]⟩ : ByteArray).size = 1 from rfl, show (⟨#[108, 101, 110]⟩ : ByteArray).size = 3 from rfl, show (⟨#[32]⟩ : ByteArray).size = 1 from rfl, show (⟨#[32, 105, 110, 32]⟩ : ByteArray).size = 4 from rfl, show (⟨#[32, 111, 117, 116, 32]⟩ : ByteArray).size = 5 from rfl, show (⟨#[32, 33, 61, 32]⟩ : ByteArray).size = 4 from rfl, show (⟨#[32, 61, 32]⟩ : ByteArray).size = 3 from rfl] at *); omega)]; done)
    rotate_left
    · simp only [Act.put, List.setIfInBounds_toArray, List.set_cons_zero, List.set_cons_succ, i64_w, i32_w]
      rfl
    refine pure_ (i := 4) (N := some 47) (v := ?_) (a' := ?_) #[true, false, false, false, true, false, false, false, false] rfl rfl (any_of HT_.out (by kernel_rfl)) (fun _ _ _ h => h) (Or.inl ⟨by rfl, ?_⟩) ?_ ?_
    rotate_left
    · intro w'
      go_simp
      first | with_reducible rfl | (rw [if_neg (by omega)]; done) | (rw [if_neg (by (try simp only [decide_eq_true_eq, decide_eq_false_iff_not, eq_iff_iff, iff_true, iff_false] at *); (try simp only [ByteArray.size_extract, ByteArray.size_append, show (⟨#[97, 98, 99]⟩ : ByteArray).size = 3 from rfl, show (⟨#[88, 89, 90]⟩ : ByteArray).size = 3 from rfl, show (⟨#[61]⟩ : ByteArray).size = 1 from rfl, show (⟨#[108, 101, 110]⟩ : ByteArray).size = 3 from rfl, show (⟨#[32]⟩ : ByteArray).size = 1 from rfl, show (⟨#[32, 105, 110, 32]⟩ : ByteArray).size = 4 from rfl, show (⟨#[32, 111, 117, 116, 32]⟩ : ByteArray).size = 5 from rfl, show (⟨#[32, 33, 61, 32]⟩ : ByteArray).size = 4 from rfl, show (⟨#[32, 61, 32]⟩ : ByteArray).size = 3 from rfl] at *); omega)]; done)
    rotate_left
    · simp only [Act.put, List.setIfInBounds_toArray, List.set_cons_zero, List.set_cons_succ, i64_w, i32_w]
      rfl
    refine take_ (i := 1) (N := some 44) (v := ?_) (a' := ?_) #[true, true, false, false, true, false, false, false, false] rfl rfl (take_ofW HT_.out HW_.out (by kernel_rfl)) (fun _ _ _ h => h) (Or.inl ⟨by rfl, ?_⟩) hHeld ?_ ?_
    rotate_left
    · rintro w' ⟨s0, s1, s2, s3, s4, s5, s6, s7⟩
      go_simp
      first | with_reducible rfl | (rw [if_neg (by omega)]; done) | (rw [if_neg (by (try simp only [decide_eq_true_eq, decide_eq_false_iff_not, eq_iff_iff, iff_true, iff_false] at *); (try simp only [ByteArray.size_extract, ByteArray.size_append, show (⟨#[97, 98, 99]⟩ : ByteArray).size = 3 from rfl, show (⟨#[88, 89, 90]⟩ : ByteArray).size = 3 from rfl, show (⟨#[61]⟩ : ByteArray).size = 1 from rfl, show (⟨#[108, 101, 110]⟩ : ByteArray).size = 3 from rfl, show (⟨#[32]⟩ : ByteArray).size = 1 from rfl, show (⟨#[32, 105, 110, 32]⟩ : ByteArray).size = 4 from rfl, show (⟨#[32, 111, 117, 116, 32]⟩ : ByteArray).size = 5 from rfl, show (⟨#[32, 33, 61, 32]⟩ : ByteArray).size = 4 from rfl, show (⟨#[32, 61, 32]⟩ : ByteArray).size = 3 from rfl] at *); omega)]; done)
    rotate_left
    · simp only [Act.put, List.setIfInBounds_toArray, List.set_cons_zero, List.set_cons_succ, i64_w, i32_w]
      rfl
    refine take_ (i := 5) (N := some 48) (v := ?_) (a' := ?_) #[true, true, false, false, true, true, false, false, false] rfl rfl (take_ofW HT_.out HW_.out (by kernel_rfl)) (fun _ _ _ h => h) (Or.inl ⟨by rfl, ?_⟩) hHeld ?_ ?_
    rotate_left
    · rintro w' ⟨s0, s1, s2, s3, s4, s5, s6, s7⟩
      go_simp
      first | with_reducible rfl | (rw [if_neg (by omega)]; done) | (rw [if_neg (by (try simp only [decide_eq_true_eq, decide_eq_false_iff_not, eq_iff_iff, iff_true, iff_false] at *); (try simp only [ByteArray.size_extract, ByteArray.size_append, show (⟨#[97, 98, 99]⟩ : ByteArray).size = 3 from rfl, show (⟨#[88, 89, 90]⟩ : ByteArray).size = 3 from rfl, show (⟨#[61]⟩ : ByteArray).size = 1 from rfl, show (⟨#[108, 101, 110]⟩ : ByteArray).size = 3 from rfl, show (⟨#[32]⟩ : ByteArray).size = 1 from rfl, show (⟨#[32, 105, 110, 32]⟩ : ByteArray).size = 4 from rfl, show (⟨#[32, 111, 117, 116, 32]⟩ : ByteArray).size = 5 from rfl, show (⟨#[32, 33, 61, 32]⟩ : ByteArray).size = 4 from rfl, show (⟨#[32, 61, 32]⟩ : ByteArray).size = 3 from rfl] at *); omega)]; done)
    rotate_left
    · simp only [Act.put, List.setIfInBounds_toArray, List.set_cons_zero, List.set_cons_succ, i64_w, i32_w]
      rfl
    refine one_ (i := 2) (N := some 45) #[true, true, true, false, true, true, false, false, false] rfl rfl (one_of HT_.out (by kernel_rfl)) (by decide) (fun K hK => ?_)
    refine goes_ Tryd.func24 (by kernel_rfl) rfl #[.string a0_1] (by rfl) rfl rfl (by (try simp only [List.map_toArray, List.map_cons, List.map_nil]); first | done | rfl | (simp only [List.length_drop, List.length_take]; rfl)) ?_
    with_reducible refine (impl_orDash.calls a0_1 t8009 _ A36.out).mono ?_
    rintro e w' ⟨rfl, ⟨nd, rfl⟩⟩
    refine ⟨_, rfl, ?_⟩
    refine hK.out _ _ ⟨(blk_cell BK8001.out 0).trans rfl, (blk_cell BK8001.out 1).trans rfl, (blk_cell BK8001.out 2).trans rfl, (blk_cell BK8001.out 3).trans rfl, (blk_cell BK8001.out 4).trans rfl, (blk_cell BK8001.out 5).trans rfl, (blk_cell BK8001.out 6).trans rfl, (blk_cell BK8001.out 7).trans rfl⟩ (fun hHeld => ?_)
    clear hK K
    refine norm_ (a' := ?_) ?_ ?_
    rotate_left
    · show Act.put _ (some 45) _ = _
      simp only [Act.put, List.setIfInBounds_toArray, List.set_cons_zero, List.set_cons_succ, i64_w, i32_w]
      rfl
    refine pure_ (i := 3) (N := some 46) (v := ?_) (a' := ?_) #[true, true, true, true, true, true, false, false, false] rfl rfl (any_of HT_.out (by kernel_rfl)) (fun _ _ _ h => h) (Or.inl ⟨by rfl, ?_⟩) ?_ ?_
    rotate_left
    · intro w'
      go_simp
      first | with_reducible rfl | (rw [if_neg (by omega)]; done) | (rw [if_neg (by (try simp only [decide_eq_true_eq, decide_eq_false_iff_not, eq_iff_iff, iff_true, iff_false] at *); (try simp only [ByteArray.size_extract, ByteArray.size_append, show (⟨#[97, 98, 99]⟩ : ByteArray).size = 3 from rfl, show (⟨#[88, 89, 90]⟩ : ByteArray).size = 3 from rfl, show (⟨#[61]⟩ : ByteArray).size = 1 from rfl, show (⟨#[108, 101, 110]⟩ : ByteArray).size = 3 from rfl, show (⟨#[32]⟩ : ByteArray).size = 1 from rfl, show (⟨#[32, 105, 110, 32]⟩ : ByteArray).size = 4 from rfl, show (⟨#[32, 111, 117, 116, 32]⟩ : ByteArray).size = 5 from rfl, show (⟨#[32, 33, 61, 32]⟩ : ByteArray).size = 4 from rfl, show (⟨#[32, 61, 32]⟩ : ByteArray).size = 3 from rfl] at *); omega)]; done)
    rotate_left
    · simp only [Act.put, List.setIfInBounds_toArray, List.set_cons_zero, List.set_cons_succ, i64_w, i32_w]
      rfl
    refine one_ (i := 6) (N := some 49) #[true, true, true, true, true, true, true, false, false] rfl rfl (one_of HT_.out (by kernel_rfl)) (by decide) (fun K hK => ?_)
    refine goes_ Tryd.func25 (by kernel_rfl) rfl #[.agg #[.int .i64 a0_3, .string a0_4, .slice A0_5 l0_5.length c0_5]] (by rfl) rfl rfl (by (try simp only [List.map_toArray, List.map_cons, List.map_nil]); first | done | rfl | (simp only [List.length_drop, List.length_take]; rfl)) ?_
    with_reducible refine (impl_FormatRegex.calls k a0_3 a0_4 _ _ l0_5 t8010 _ ?side1 ?side2 A38.out).mono ?_
    (case side1 => repeat (first | exact (Kd.C_below HR0_5.out (by repeat (first | (with_reducible first | exact HB.out | apply below_alloc | apply pw_below_drewN | apply below_drew1 | refine below_set ?_ (Aside0.out (by assumption))) | exact HB.out))) | (with_reducible refine Kd.C_alloc ?_ _) | (with_reducible refine Kd.C_drewN ?_ _) | (with_reducible refine Kd.C_drew ?_)))
    (case side2 => exact HC0_5.out)
    rintro e w45 ⟨rfl, hb⟩
    refine ⟨_, rfl, ?_⟩
    have n0_ := Aside0.mk (blk_below (g := gb8001) (o := .cells #[.int .i64 a0_0, .string a0_1, .string a0_2, .int .i64 a0_3, .string a0_4, .slice A0_5 l0_5.length c0_5, .slice A0_6 l0_6.length c0_6, .int .i64 a0_7] 34 (0, 0)) (by (with_reducible repeat (first | refine blk_drewN ?_ _ | refine blk_drew ?_ | refine blk_alloc ?_ _)); exact BK8001.out) hb)
    have n1_ := Aside0.mk (below_step (by repeat (first | (with_reducible first | exact HB.out | apply below_alloc | apply pw_below_drewN | apply below_drew1 | refine below_set ?_ (Aside0.out (by assumption))) | exact HB.out)) hb)
    clear BK8001
    clear HB
    have BK8001 := n0_
    have HB := n1_
    clear n0_ n1_
    (try clear hb)
    (try clear hb2)
    (try clear hk)
    (try clear hi)
    refine hK.out _ _ ⟨(blk_cell BK8001.out 0).trans rfl, (blk_cell BK8001.out 1).trans rfl, (blk_cell BK8001.out 2).trans rfl, (blk_cell BK8001.out 3).trans rfl, (blk_cell BK8001.out 4).trans rfl, (blk_cell BK8001.out 5).trans rfl, (blk_cell BK8001.out 6).trans rfl, (blk_cell BK8001.out 7).trans rfl⟩ (fun hHeld => ?_)
    clear hK K
    refine norm_ (a' := ?_) ?_ ?_
    rotate_left
    · show Act.put _ (some 49) _ = _
      simp only [Act.put, List.setIfInBounds_toArray, List.set_cons_zero, List.set_cons_succ, i64_w, i32_w]
      rfl
    refine pure_ (i := 7) (N := some 50) (v := ?_) (a' := ?_) #[true, true, true, true, true, true, true, true, false] rfl rfl (any_of HT_.out (by kernel_rfl)) (fun _ _ _ h => h) (Or.inl ⟨by rfl, ?_⟩) ?_ ?_
    rotate_left
    · intro w'
      go_simp
      first | with_reducible rfl | (rw [if_neg (by omega)]; done) | (rw [if_neg (by (try simp only [decide_eq_true_eq, decide_eq_false_iff_not, eq_iff_iff, iff_true, iff_false] at *); (try simp only [ByteArray.size_extract, ByteArray.size_append, show (⟨#[97, 98, 99]⟩ : ByteArray).size = 3 from rfl, show (⟨#[88, 89, 90]⟩ : ByteArray).size = 3 from rfl, show (⟨#[61]⟩ : ByteArray).size = 1 from rfl, show (⟨#[108, 101, 110]⟩ : ByteArray).size = 3 from rfl, show (⟨#[32]⟩ : ByteArray).size = 1 from rfl, show (⟨#[32, 105, 110, 32]⟩ : ByteArray).size = 4 from rfl, show (⟨#[32, 111, 117, 116, 32]⟩ : ByteArray).size = 5 from rfl, show (⟨#[32, 33, 61, 32]⟩ : ByteArray).size = 4 from rfl, show (⟨#[32, 61, 32]⟩ : ByteArray).size = 3 from rfl] at *); omega)]; done)
    rotate_left
    · simp only [Act.put, List.setIfInBounds_toArray, List.set_cons_zero, List.set_cons_succ, i64_w, i32_w]
      rfl
    refine pure_ (i := 8) (N := some 2) (v := ?_) (a' := ?_) #[true, true, true, true, true, true, true, true, true] rfl rfl (any_of HT_.out (by kernel_rfl)) (fun _ _ _ h => h) (Or.inl ⟨by rfl, ?_⟩) ?_ ?_
    rotate_left
    · intro w'
      go_simp
      first | with_reducible rfl | (rw [if_neg (by omega)]; done) | (rw [if_neg (by (try simp only [decide_eq_true_eq, decide_eq_false_iff_not, eq_iff_iff, iff_true, iff_false] at *); (try simp only [ByteArray.size_extract, ByteArray.size_append, show (⟨#[97, 98, 99]⟩ : ByteArray).size = 3 from rfl, show (⟨#[88, 89, 90]⟩ : ByteArray).size = 3 from rfl, show (⟨#[61]⟩ : ByteArray).size = 1 from rfl, show (⟨#[108, 101, 110]⟩ : ByteArray).size = 3 from rfl, show (⟨#[32]⟩ : ByteArray).size = 1 from rfl, show (⟨#[32, 105, 110, 32]⟩ : ByteArray).size = 4 from rfl, show (⟨#[32, 111, 117, 116, 32]⟩ : ByteArray).size = 5 from rfl, show (⟨#[32, 33, 61, 32]⟩ : ByteArray).size = 4 from rfl, show (⟨#[32, 61, 32]⟩ : ByteArray).size = 3 from rfl] at *); omega)]; done)
    rotate_left
    · simp only [Act.put, List.setIfInBounds_toArray, List.set_cons_zero, List.set_cons_succ, i64_w, i32_w]
      rfl
    refine done_ (done_of HT_.out (by kernel_rfl)) ?_
    try go_wp2
    go_ret
    exact ⟨by first | rfl | (simp [errW_none, errW_some] <;> rfl) | (simp [*, errW_none, errW_some] <;> rfl), by repeat (first | (with_reducible first | exact HB.out | apply below_alloc | apply pw_below_drewN | apply below_drew1 | refine below_set ?_ (Aside0.out (by assumption))) | exact HB.out)⟩
  · rw [if_neg c39] at H
    exact absurd H (by simp)
  · rw [if_neg c37] at H
    exact absurd H (by simp)
  rw [if_neg c35] at H
  have c35b0 : (a0_0 == 4) = false := beq_eq_false_iff_ne.mpr c35
  have c35b1 : (a0_0 != 4) = true := bne_iff_ne.mpr c35
  obtain ⟨y8011, hy8011⟩ : ∃ y_ : List ByteArray, y_ = (([(⟨#[108, 101, 110]⟩ : ByteArray)] : List ByteArray)) := ⟨_, rfl⟩
  replace H : ((slices_Clone_int_int.f l0_6).bind fun t8014 => ((some (([a0_7] : List Int) : List Int)).bind fun y8017 => (if t8014.length + y8017.length < 17592186044416 then ((some (t8014 ++ y8017 : List Int)).bind fun y8020 => (impl_FormatConstraint.l0 k y8011 y8020 (y8020.length : Int) 0)) else (none)))) = some r := by first | (rw [hy8011]; with_reducible exact H) | (have H2_ := (Option.bind_some _ _).symm.trans H; rw [hy8011]; with_reducible exact H2_) | (have H2_ := (Option.bind_some _ _).symm.trans H; with_reducible exact H2_) | with_reducible exact H | (rw [hy8011]; exact H) | exact H
  have Ny8011 := Aside0.mk hy8011
  clear hy8011
  replace H := Option.bind_eq_some_iff.mp H
  obtain ⟨t8014, A460, H⟩ := H
  replace H : ((some (([a0_7] : List Int) : List Int)).bind fun y8017 => (if t8014.length + y8017.length < 17592186044416 then ((some (t8014 ++ y8017 : List Int)).bind fun y8020 => (impl_FormatConstraint.l0 k y8011 y8020 (y8020.length : Int) 0)) else (none))) = some r := H
  have A46 := Aside0.mk A460
  clear A460
  obtain ⟨y8017, hy8017⟩ : ∃ y_ : List Int, y_ = (([a0_7] : List Int)) := ⟨_, rfl⟩
  replace H : (if t8014.length + y8017.length < 17592186044416 then ((some (t8014 ++ y8017 : List Int)).bind fun y8020 => (impl_FormatConstraint.l0 k y8011 y8020 (y8020.length : Int) 0)) else (none)) = some r := by first | (rw [hy8017]; with_reducible exact H) | (have H2_ := (Option.bind_some _ _).symm.trans H; rw [hy8017]; with_reducible exact H2_) | (have H2_ := (Option.bind_some _ _).symm.trans H; with_reducible exact H2_) | with_reducible exact H | (rw [hy8017]; exact H) | exact H
  have Ny8017 := Aside0.mk hy8017
  clear hy8017
  by_cases c47 : t8014.length + y8017.length < 17592186044416
  · rw [if_pos c47] at H
    have LMc47 := Aside0.mk c47
    clear c47
    obtain ⟨y8020, hy8020⟩ : ∃ y_ : List Int, y_ = (t8014 ++ y8017) := ⟨_, rfl⟩
    replace H : (impl_FormatConstraint.l0 k y8011 y8020 (y8020.length : Int) 0) = some r := by first | (rw [hy8020]; with_reducible exact H) | (have H2_ := (Option.bind_some _ _).symm.trans H; rw [hy8020]; with_reducible exact H2_) | (have H2_ := (Option.bind_some _ _).symm.trans H; with_reducible exact H2_) | with_reducible exact H | (rw [hy8020]; exact H) | exact H
    have Ny8020 := Aside0.mk hy8020
    clear hy8020
    have H' := Aside0.mk H
    clear H
    go_enter Tryd.func8, Tryd.ntmps8
    try go_wp2_with (first | ((with_reducible refine gate_dst (N := 1) rfl ?_); refine box_event ?hg (N := 1) ?hd (cs := #[.int .i64 a0_0, .string a0_1, .string a0_2, .int .i64 a0_3, .string a0_4, .slice A0_5 l0_5.length c0_5, .slice A0_6 l0_6.length c0_6, .int .i64 a0_7]) (t := 34) ?hr ?_; (case hd => rfl); (case hg => rfl); (case hr => first | (go_simp; done) | (go_simp; rfl)); intro gb8001 hg w48 hbox hb; have n0_ := Aside0.mk (below_step (by repeat (first | (with_reducible first | exact HB.out | apply below_alloc | apply pw_below_drewN | apply below_drew1 | refine below_set ?_ (Aside0.out (by assumption))) | exact HB.out)) hb); have n1_ := Aside0.mk (hbox); have n2_ := Aside0.mk ((by rw [hg]; exact (below_size (by repeat (first | (with_reducible first | exact HB.out | apply below_alloc | apply pw_below_drewN | apply below_drew1 | refine below_set ?_ (Aside0.out (by assumption))) | exact HB.out))) : w.heap.size ≤ gb8001)); have n3_ := Aside0.mk ((by rw [hg]; exact (below_size (by repeat (first | (with_reducible first | exact HB.out | apply below_alloc | apply pw_below_drewN | apply below_drew1 | refine below_set ?_ (Aside0.out (by assumption))) | exact HB.out))) : w.heap.size ≤ gb8001)); clear HB; have HB := n0_; have BK8001 := n1_; have GW8001 := n2_; have GE8001 := n3_; clear n0_ n1_ n2_ n3_; clear hb hbox hg; obtain ⟨hcz49_0, hcz49_1, hcz49_2, hcz49_3, hcz49_4, hcz49_5, hcz49_6, hcz49_7, hfz49_0, hfz49_1, hfz49_2, hfz49_3, hfz49_4, hfz49_5, hfz49_6, hfz49_7⟩ := blk8 BK8001.out) | ((with_reducible refine gate_callee (f := 23) rfl ?_); refine goesL_ (some 7) rfl rfl Tryd.func23 (by kernel_rfl) rfl #[.agg #[.int .i64 a0_0, .string a0_1, .string a0_2, .int .i64 a0_3, .string a0_4, .slice A0_5 l0_5.length c0_5, .slice A0_6 l0_6.length c0_6, .int .i64 a0_7]] rfl (by (try simp only [List.map_toArray, List.map_cons, List.map_nil]); first | done | rfl | (simp only [List.length_drop, List.length_take]; rfl)) ?_; (with_reducible refine (impl_IsValidConstraint.calls k a0_0 a0_1 a0_2 a0_3 a0_4 _ _ l0_5 _ _ l0_6 a0_7 _ _ ?side1 ?side2 ?side3 ?side4 A2.out).mono ?_); (case side1 => repeat (first | exact (Kd.C_below HR0_5.out HB.out) | (with_reducible refine Kd.C_alloc ?_ _) | (with_reducible refine Kd.C_drewN ?_ _) | (with_reducible refine Kd.C_drew ?_))); (case side2 => exact HC0_5.out); (case side3 => repeat (first | exact (Kd.C_below HR0_6.out HB.out) | (with_reducible refine Kd.C_alloc ?_ _) | (with_reducible refine Kd.C_drewN ?_ _) | (with_reducible refine Kd.C_drew ?_))); (case side4 => exact HC0_6.out); rintro e w50 ⟨rfl, hb⟩; refine ⟨_, rfl, ?_⟩; have n0_ := Aside0.mk (blk_below (g := gb8001) (o := .cells #[.int .i64 a0_0, .string a0_1, .string a0_2, .int .i64 a0_3, .string a0_4, .slice A0_5 l0_5.length c0_5, .slice A0_6 l0_6.length c0_6, .int .i64 a0_7] 34 (0, 0)) (by (with_reducible repeat (first | refine blk_drewN ?_ _ | refine blk_drew ?_ | refine blk_alloc ?_ _)); exact BK8001.out) hb); have n1_ := Aside0.mk (below_step (by repeat (first | (with_reducible first | exact HB.out | apply below_alloc | apply pw_below_drewN | apply below_drew1 | refine below_set ?_ (Aside0.out (by assumption))) | exact HB.out)) hb); clear BK8001; clear HB; have BK8001 := n0_; have HB := n1_; clear n0_ n1_; (try clear hb); (try clear hb2); (try clear hk); (try clear hi); obtain ⟨hcz51_0, hcz51_1, hcz51_2, hcz51_3, hcz51_4, hcz51_5, hcz51_6, hcz51_7, hfz51_0, hfz51_1, hfz51_2, hfz51_3, hfz51_4, hfz51_5, hfz51_6, hfz51_7⟩ := blk8 BK8001.out) | ((with_reducible refine gate_dst (N := 51) rfl ?_); refine Kd.R_lit Kd.string _ 9 ?hg (N := 51) ?hd (xs := ([(⟨#[108, 101, 110]⟩ : ByteArray)] : List ByteArray)) (inner := [.string (⟨#[108, 101, 110]⟩ : ByteArray)]) (ok := fun _ => True) (okp := fun _ => True) ?hr ?hp (fun _ hk => hk) trivial (Below.refl _ _) (Nat.le_refl _) (by simp) ?_; (case hd => rfl); (case hg => rfl); (case hr => first | (go_simp; done) | (go_simp; rfl)); (case hp => exact (Reps.one (show Kd.M Kd.string _ _ _ (⟨#[108, 101, 110]⟩ : ByteArray) [.string (⟨#[108, 101, 110]⟩ : ByteArray)] from rfl) (Reps.none _ _))); intro v8012 w52 ho53 hb hg_ hnew_; clear hg_ hnew_; (first | rw [← Ny8011.out] at ho53 | (simp only [Int.reduceToNat] at ho53; rw [← Ny8011.out] at ho53)); have n0_ := Aside0.mk (Kd.R_lower ho53 (below_size (by repeat (first | (with_reducible first | exact HB.out | apply below_alloc | apply pw_below_drewN | apply below_drew1 | refine below_set ?_ (Aside0.out (by assumption))) | exact HB.out)))); have n1_ := Aside0.mk (blk_below (g := gb8001) (o := .cells #[.int .i64 a0_0, .string a0_1, .string a0_2, .int .i64 a0_3, .string a0_4, .slice A0_5 l0_5.length c0_5, .slice A0_6 l0_6.length c0_6, .int .i64 a0_7] 34 (0, 0)) (by (with_reducible repeat (first | refine blk_drewN ?_ _ | refine blk_drew ?_ | refine blk_alloc ?_ _)); exact BK8001.out) hb); have n2_ := Aside0.mk (below_step (by repeat (first | (with_reducible first | exact HB.out | apply below_alloc | apply pw_below_drewN | apply below_drew1 | refine below_set ?_ (Aside0.out (by assumption))) | exact HB.out)) hb); clear BK8001; clear HB; have HO8013 := n0_; have BK8001 := n1_; have HB := n2_; clear n0_ n1_ n2_; clear hb ho53))
    have n0_ := Aside0.mk (Kd.R_drew HO8013.out)
    have n1_ := Aside0.mk (blk_drew BK8001.out)
    have n2_ := Aside0.mk (below_drew1 HB.out)
    clear HO8013
    clear BK8001
    clear HB
    have HO8013 := n0_
    have BK8001 := n1_
    have HB := n2_
    clear n0_ n1_ n2_
    refine start_ (n := 9) (S := fun w' => w'.cell? ⟨gb8001, 0, none⟩ = some (.int .i64 a0_0) ∧ w'.cell? ⟨gb8001, 1, none⟩ = some (.string a0_1) ∧ w'.cell? ⟨gb8001, 2, none⟩ = some (.string a0_2) ∧ w'.cell? ⟨gb8001, 3, none⟩ = some (.int .i64 a0_3) ∧ w'.cell? ⟨gb8001, 4, none⟩ = some (.string a0_4) ∧ w'.cell? ⟨gb8001, 5, none⟩ = some (.slice A0_5 l0_5.length c0_5) ∧ w'.cell? ⟨gb8001, 6, none⟩ = some (.slice A0_6 l0_6.length c0_6) ∧ w'.cell? ⟨gb8001, 7, none⟩ = some (.int .i64 a0_7)) (ds := []) #[false, false, false, false, false, false, false, false, false] (by kernel_rfl) rfl rfl ⟨(blk_cell BK8001.out 0).trans rfl, (blk_cell BK8001.out 1).trans rfl, (blk_cell BK8001.out 2).trans rfl, (blk_cell BK8001.out 3).trans rfl, (blk_cell BK8001.out 4).trans rfl, (blk_cell BK8001.out 5).trans rfl, (blk_cell BK8001.out 6).trans rfl, (blk_cell BK8001.out 7).trans rfl⟩ (fun hHeld => ?_); refine with_tabW impl_FormatConstraint.tab13 impl_FormatConstraint.bits13 (fun HT_ HW_ => ?_)
    generalize w52.drew = w54 at HO8013 BK8001 HB hHeld ⊢
    refine pure_ (i := 0) (N := some 52) (v := ?_) (a' := ?_) #[true, false, false, false, false, false, false, false, false] rfl rfl (any_of HT_.out (by kernel_rfl)) (fun _ _ _ h => h) (Or.inl ⟨by rfl, ?_⟩) ?_ ?_
    rotate_left
    · intro w'
      go_simp
      first | with_reducible rfl | (rw [if_neg (by omega)]; done) | (rw [if_neg (by (try simp only [decide_eq_true_eq, decide_eq_false_iff_not, eq_iff_iff, iff_true, iff_false] at *); (try simp only [ByteArray.size_extract, ByteArray.size_append, show (⟨#[97, 98, 99]⟩ : ByteArray).size = 3 from rfl, show (⟨#[88, 89, 90]⟩ : ByteArray).size = 3 from rfl, show (⟨#[61]⟩ : ByteArray).size = 1 from rfl, show (⟨#[108, 101, 110]⟩ : ByteArray).size = 3 from rfl, show (⟨#[32]⟩ : ByteArray).size = 1 from rfl, show (⟨#[32, 105, 110, 32]⟩ : ByteArray).size = 4 from rfl, show (⟨#[32, 111, 117, 116, 32]⟩ : ByteArray).size = 5 from rfl, show (⟨#[32, 33, 61, 32]⟩ : ByteArray).size = 4 from rfl, show (⟨#[32, 61, 32]⟩ : ByteArray).size = 3 from rfl] at *); omega)]; done)
    rotate_left
    · simp only [Act.put, List.setIfInBounds_toArray, List.set_cons_zero, List.set_cons_succ, i64_w, i32_w]
      rfl
    refine pure_ (i := 3) (N := some 55) (v := ?_) (a' := ?_) #[true, false, false, true, false, false, false, false, false] rfl rfl (any_of HT_.out (by kernel_rfl)) (fun _ _ _ h => h) (Or.inl ⟨by rfl, ?_⟩) ?_ ?_
    rotate_left
    · intro w'
      go_simp
      first | with_reducible rfl | (rw [if_neg (by omega)]; done) | (rw [if_neg (by (try simp only [decide_eq_true_eq, decide_eq_false_iff_not, eq_iff_iff, iff_true, iff_false] at *); (try simp only [ByteArray.size_extract, ByteArray.size_append, show (⟨#[97, 98, 99]⟩ : ByteArray).size = 3 from rfl, show (⟨#[88, 89, 90]⟩ : ByteArray).size = 3 from rfl, show (⟨#[61]⟩ : ByteArray).size = 1 from rfl, show (⟨#[108, 101, 110]⟩ : ByteArray).size = 3 from rfl, show (⟨#[32]⟩ : ByteArray).size = 1 from rfl, show (⟨#[32, 105, 110, 32]⟩ : ByteArray).size = 4 from rfl, show (⟨#[32, 111, 117, 116, 32]⟩ : ByteArray).size = 5 from rfl, show (⟨#[32, 33, 61, 32]⟩ : ByteArray).size = 4 from rfl, show (⟨#[32, 61, 32]⟩ : ByteArray).size = 3 from rfl] at *); omega)]; done)
    rotate_left
    · simp only [Act.put, List.setIfInBounds_toArray, List.set_cons_zero, List.set_cons_succ, i64_w, i32_w]
      rfl
    refine pure_ (i := 8) (N := some 60) (v := ?_) (a' := ?_) #[true, false, false, true, false, false, false, false, true] rfl rfl (any_of HT_.out (by kernel_rfl)) (fun _ _ _ h => h) (Or.inl ⟨by rfl, ?_⟩) ?_ ?_
    rotate_left
    · intro w'
      go_simp
      first | with_reducible rfl | (rw [if_neg (by omega)]; done) | (rw [if_neg (by (try simp only [decide_eq_true_eq, decide_eq_false_iff_not, eq_iff_iff, iff_true, iff_false] at *); (try simp only [ByteArray.size_extract, ByteArray.size_append, show (⟨#[97, 98, 99]⟩ : ByteArray).size = 3 from rfl, show (⟨#[88, 89, 90]⟩ : ByteArray).size = 3 from rfl, show (⟨#[61]⟩ : ByteArray).size = 1 from rfl, show (⟨#[108, 101, 110]⟩ : ByteArray).size = 3 from rfl, show (⟨#[32]⟩ : ByteArray).size = 1 from rfl, show (⟨#[32, 105, 110, 32]⟩ : ByteArray).size = 4 from rfl, show (⟨#[32, 111, 117, 116, 32]⟩ : ByteArray).size = 5 from rfl, show (⟨#[32, 33, 61, 32]⟩ : ByteArray).size = 4 from rfl, show (⟨#[32, 61, 32]⟩ : ByteArray).size = 3 from rfl] at *); omega)]; done)
    rotate_left
    · simp only [Act.put, List.setIfInBounds_toArray, List.set_cons_zero, List.set_cons_succ, i64_w, i32_w]
      rfl
    refine take_ (i := 1) (N := some 53) (v := ?_) (a' := ?_) #[true, true, false, true, false, false, false, false, true] rfl rfl (take_ofW HT_.out HW_.out (by kernel_rfl)) (fun _ _ _ h => h) (Or.inl ⟨by rfl, ?_⟩) hHeld ?_ ?_
    rotate_left
    · rintro w' ⟨s0, s1, s2, s3, s4, s5, s6, s7⟩
      go_simp
      first | with_reducible rfl | (rw [if_neg (by omega)]; done) | (rw [if_neg (by (try simp only [decide_eq_true_eq, decide_eq_false_iff_not, eq_iff_iff, iff_true, iff_false] at *); (try simp only [ByteArray.size_extract, ByteArray.size_append, show (⟨#[97, 98, 99]⟩ : ByteArray).size = 3 from rfl, show (⟨#[88, 89, 90]⟩ : ByteArray).size = 3 from rfl, show (⟨#[61]⟩ : ByteArray).size = 1 from rfl, show (⟨#[108, 101, 110]⟩ : ByteArray).size = 3 from rfl, show (⟨#[32]⟩ : ByteArray).size = 1 from rfl, show (⟨#[32, 105, 110, 32]⟩ : ByteArray).size = 4 from rfl, show (⟨#[32, 111, 117, 116, 32]⟩ : ByteArray).size = 5 from rfl, show (⟨#[32, 33, 61, 32]⟩ : ByteArray).size = 4 from rfl, show (⟨#[32, 61, 32]⟩ : ByteArray).size = 3 from rfl] at *); omega)]; done)
    rotate_left
    · simp only [Act.put, List.setIfInBounds_toArray, List.set_cons_zero, List.set_cons_succ, i64_w, i32_w]
      rfl
    refine take_ (i := 4) (N := some 56) (v := ?_) (a' := ?_) #[true, true, false, true, true, false, false, false, true] rfl rfl (take_ofW HT_.out HW_.out (by kernel_rfl)) (fun _ _ _ h => h) (Or.inl ⟨by rfl, ?_⟩) hHeld ?_ ?_
    rotate_left
    · rintro w' ⟨s0, s1, s2, s3, s4, s5, s6, s7⟩
      go_simp
      first | with_reducible rfl | (rw [if_neg (by omega)]; done) | (rw [if_neg (by (try simp only [decide_eq_true_eq, decide_eq_false_iff_not, eq_iff_iff, iff_true, iff_false] at *); (try simp only [ByteArray.size_extract, ByteArray.size_append, show (⟨#[97, 98, 99]⟩ : ByteArray).size = 3 from rfl, show (⟨#[88, 89, 90]⟩ : ByteArray).size = 3 from rfl, show (⟨#[61]⟩ : ByteArray).size = 1 from rfl, show (⟨#[108, 101, 110]⟩ : ByteArray).size = 3 from rfl, show (⟨#[32]⟩ : ByteArray).size = 1 from rfl, show (⟨#[32, 105, 110, 32]⟩ : ByteArray).size = 4 from rfl, show (⟨#[32, 111, 117, 116, 32]⟩ : ByteArray).size = 5 from rfl, show (⟨#[32, 33, 61, 32]⟩ : ByteArray).size = 4 from rfl, show (⟨#[32, 61, 32]⟩ : ByteArray).size = 3 from rfl] at *); omega)]; done)
    rotate_left
    · simp only [Act.put, List.setIfInBounds_toArray, List.set_cons_zero, List.set_cons_succ, i64_w, i32_w]
      rfl
    refine join_ (σ := Value × Value) 2 #[true, true, true, true, true, true, false, false, true] (fun s_ => [(54, s_.1), (57, s_.2)]) (fun s_ w' => (w'.cell? ⟨gb8001, 0, none⟩ = some (.int .i64 a0_0) ∧ w'.cell? ⟨gb8001, 1, none⟩ = some (.string a0_1) ∧ w'.cell? ⟨gb8001, 2, none⟩ = some (.string a0_2) ∧ w'.cell? ⟨gb8001, 3, none⟩ = some (.int .i64 a0_3) ∧ w'.cell? ⟨gb8001, 4, none⟩ = some (.string a0_4) ∧ w'.cell? ⟨gb8001, 5, none⟩ = some (.slice A0_5 l0_5.length c0_5) ∧ w'.cell? ⟨gb8001, 6, none⟩ = some (.slice A0_6 l0_6.length c0_6) ∧ w'.cell? ⟨gb8001, 7, none⟩ = some (.int .i64 a0_7)) ∧ (Kd.R Kd.string 9 w' w.heap.size (fun _ => True) v8012 y8011) ∧ (Kd.R (Kd.int .i64) 3 w' w.heap.size (fun k_ => some k_ ≠ (s_.2 : Value).ownBlock) s_.1 t8014) ∧ (Kd.R (Kd.int .i64) 3 w' w.heap.size (fun k_ => some k_ ≠ (s_.1 : Value).ownBlock) s_.2 y8017) ∧ (w'.heap[gb8001]? = some (.cells #[.int .i64 a0_0, .string a0_1, .string a0_2, .int .i64 a0_3, .string a0_4, .slice A0_5 l0_5.length c0_5, .slice A0_6 l0_6.length c0_6, .int .i64 a0_7] 34 (0, 0))) ∧ (Below w.heap.size w w')) ?_ ?_
    rotate_left
    · intro hCont
      refine two_ (i := 2) (j := 5) (Ni := some 54) (Nj := some 57) #[true, true, true, true, true, false, false, false, true] #[true, true, false, true, true, true, false, false, true] rfl rfl rfl rfl (two_of HT_.out (by kernel_rfl)) (by decide) (by decide) (fun K hK => ?_) (fun K hK => ?_)
      · skip
        refine goes_ Tryd.func26 (by kernel_rfl) rfl #[.slice A0_6 l0_6.length c0_6] (by rfl) rfl rfl (by (try simp only [List.map_toArray, List.map_cons, List.map_nil]); first | done | rfl | (simp only [List.length_drop, List.length_take]; rfl)) ?_
        with_reducible refine (slices_Clone_int_int.calls _ _ l0_6 t8014 _ ?side1 ?side2 A46.out).mono ?_
        (case side1 => repeat (first | exact (Kd.C_below HR0_6.out HB.out) | (with_reducible refine Kd.C_alloc ?_ _) | (with_reducible refine Kd.C_drewN ?_ _) | (with_reducible refine Kd.C_drew ?_)))
        (case side2 => exact HC0_6.out)
        rintro e w55 ⟨v8015, rfl, ho0, hb⟩
        refine ⟨_, rfl, ?_⟩
        have n0_ := Aside0.mk (Kd.R_below (by (with_reducible repeat (first | apply Kd.R_alloc | apply Kd.R_drewN | apply Kd.R_drew)); exact HO8013.out) hb)
        have n1_ := Aside0.mk (Kd.R_lower ho0 (below_size (by repeat (first | (with_reducible first | exact HB.out | apply below_alloc | apply pw_below_drewN | apply below_drew1 | refine below_set ?_ (Aside0.out (by assumption))) | exact HB.out))))
        have n2_ := Aside0.mk (blk_below (g := gb8001) (o := .cells #[.int .i64 a0_0, .string a0_1, .string a0_2, .int .i64 a0_3, .string a0_4, .slice A0_5 l0_5.length c0_5, .slice A0_6 l0_6.length c0_6, .int .i64 a0_7] 34 (0, 0)) (by (with_reducible repeat (first | refine blk_drewN ?_ _ | refine blk_drew ?_ | refine blk_alloc ?_ _)); exact BK8001.out) hb)
        have n3_ := Aside0.mk (below_step (by repeat (first | (with_reducible first | exact HB.out | apply below_alloc | apply pw_below_drewN | apply below_drew1 | refine below_set ?_ (Aside0.out (by assumption))) | exact HB.out)) hb)
        clear HO8013
        clear BK8001
        clear HB
        have HO8013 := n0_
        have HO8016 := n1_
        have BK8001 := n2_
        have HB := n3_
        clear n0_ n1_ n2_ n3_
        (try clear hb)
        (try clear hb2)
        (try clear hk)
        (try clear hi)
        (try clear ho0)
        refine hK.out _ _ ⟨(blk_cell BK8001.out 0).trans rfl, (blk_cell BK8001.out 1).trans rfl, (blk_cell BK8001.out 2).trans rfl, (blk_cell BK8001.out 3).trans rfl, (blk_cell BK8001.out 4).trans rfl, (blk_cell BK8001.out 5).trans rfl, (blk_cell BK8001.out 6).trans rfl, (blk_cell BK8001.out 7).trans rfl⟩ (fun hHeld => ?_)
        clear hK K
        refine norm_ (a' := ?_) ?_ ?_
        rotate_left
        · show Act.put _ (some 54) _ = _
          simp only [Act.put, List.setIfInBounds_toArray, List.set_cons_zero, List.set_cons_succ, i64_w, i32_w]
          rfl
        refine one_ (i := 5) (N := some 57) #[true, true, true, true, true, true, false, false, true] rfl rfl (one_of HT_.out (by kernel_rfl)) (by decide) (fun K hK => ?_)
        refine Kd.R_lit_step (Kd.int .i64) _ 3 ?hg (N := 57) ?hd (xs := ([a0_7] : List Int)) (inner := [.int .i64 a0_7]) (ok := fun _ => True) (okp := fun _ => True) ?hr ?hp (fun _ hk => hk) trivial (Below.refl _ _) (Nat.le_refl _) (by simp) ?_; (case hd => rfl); (case hg => rfl); (case hr => first | (go_simp; done) | (go_simp; rfl)); (case hp => exact (Reps.one (show Kd.M (Kd.int .i64) _ _ _ a0_7 [.int .i64 a0_7] from rfl) (Reps.none _ _)))
        intro v8018 w56 ho57 hb hg_ hnew_
        clear hg_ hnew_
        (first | rw [← Ny8017.out] at ho57 | (simp only [Int.reduceToNat] at ho57; rw [← Ny8017.out] at ho57))
        have n0_ := Aside0.mk (Kd.R_below (by (with_reducible repeat (first | apply Kd.R_alloc | apply Kd.R_drewN | apply Kd.R_drew)); exact HO8013.out) hb)
        have n1_ := Aside0.mk (Kd.R_elder' (by (with_reducible repeat (first | apply Kd.R_alloc | apply Kd.R_drewN | apply Kd.R_drew)); exact HO8016.out) (Kd.R_base ho57) hb)
        have n2_ := Aside0.mk (Kd.R_lower (Kd.R_new' ho57 (Kd.R_lt (by (with_reducible repeat (first | apply Kd.R_alloc | apply Kd.R_drewN | apply Kd.R_drew)); exact HO8016.out))) (below_size (by repeat (first | (with_reducible first | exact HB.out | apply below_alloc | apply pw_below_drewN | apply below_drew1 | refine below_set ?_ (Aside0.out (by assumption))) | exact HB.out))))
        have n3_ := Aside0.mk (blk_below (g := gb8001) (o := .cells #[.int .i64 a0_0, .string a0_1, .string a0_2, .int .i64 a0_3, .string a0_4, .slice A0_5 l0_5.length c0_5, .slice A0_6 l0_6.length c0_6, .int .i64 a0_7] 34 (0, 0)) (by (with_reducible repeat (first | refine blk_drewN ?_ _ | refine blk_drew ?_ | refine blk_alloc ?_ _)); exact BK8001.out) hb)
        have n4_ := Aside0.mk (below_step (by repeat (first | (with_reducible first | exact HB.out | apply below_alloc | apply pw_below_drewN | apply below_drew1 | refine below_set ?_ (Aside0.out (by assumption))) | exact HB.out)) hb)
        clear HO8013
        clear HO8016
        clear BK8001
        clear HB
        have HO8013 := n0_
        have HO8016 := n1_
        have HO8019 := n2_
        have BK8001 := n3_
        have HB := n4_
        clear n0_ n1_ n2_ n3_ n4_
        clear hb ho57
        refine hK.out _ _ ⟨(blk_cell BK8001.out 0).trans rfl, (blk_cell BK8001.out 1).trans rfl, (blk_cell BK8001.out 2).trans rfl, (blk_cell BK8001.out 3).trans rfl, (blk_cell BK8001.out 4).trans rfl, (blk_cell BK8001.out 5).trans rfl, (blk_cell BK8001.out 6).trans rfl, (blk_cell BK8001.out 7).trans rfl⟩ (fun hHeld => ?_)
        clear hK K
        refine norm_ (a' := ?_) ?_ ?_
        rotate_left
        · show Act.put _ (some 57) _ = _
          simp only [Act.put, List.setIfInBounds_toArray, List.set_cons_zero, List.set_cons_succ, i64_w, i32_w]
          rfl
        exact norm_ (by simp only [putAll, Act.put, List.setIfInBounds_toArray, List.set_cons_zero, List.set_cons_succ]) (hCont (v8015, v8018) _ ⟨hHeld, (by (with_reducible repeat (first | apply Kd.R_alloc | apply Kd.R_drewN | apply Kd.R_drew)); exact HO8013.out), (by (with_reducible repeat (first | apply Kd.R_alloc | apply Kd.R_drewN | apply Kd.R_drew)); exact Kd.R_mono HO8016.out (fun _ hk => hk.2)), (by (with_reducible repeat (first | apply Kd.R_alloc | apply Kd.R_drewN | apply Kd.R_drew)); exact Kd.R_mono HO8019.out (fun _ hk => hk.2)), (by (with_reducible repeat (first | refine blk_drewN ?_ _ | refine blk_drew ?_ | refine blk_alloc ?_ _)); exact BK8001.out), (by repeat (first | (with_reducible first | exact HB.out | apply below_alloc | apply pw_below_drewN | apply below_drew1 | refine below_set ?_ (Aside0.out (by assumption))) | exact HB.out))⟩)
      · skip
        refine Kd.R_lit_step (Kd.int .i64) _ 3 ?hg (N := 57) ?hd (xs := ([a0_7] : List Int)) (inner := [.int .i64 a0_7]) (ok := fun _ => True) (okp := fun _ => True) ?hr ?hp (fun _ hk => hk) trivial (Below.refl _ _) (Nat.le_refl _) (by simp) ?_; (case hd => rfl); (case hg => rfl); (case hr => first | (go_simp; done) | (go_simp; rfl)); (case hp => exact (Reps.one (show Kd.M (Kd.int .i64) _ _ _ a0_7 [.int .i64 a0_7] from rfl) (Reps.none _ _)))
        intro v8018 w55 ho56 hb hg_ hnew_
        clear hg_ hnew_
        (first | rw [← Ny8017.out] at ho56 | (simp only [Int.reduceToNat] at ho56; rw [← Ny8017.out] at ho56))
        have n0_ := Aside0.mk (Kd.R_below (by (with_reducible repeat (first | apply Kd.R_alloc | apply Kd.R_drewN | apply Kd.R_drew)); exact HO8013.out) hb)
        have n1_ := Aside0.mk (Kd.R_lower ho56 (below_size (by repeat (first | (with_reducible first | exact HB.out | apply below_alloc | apply pw_below_drewN | apply below_drew1 | refine below_set ?_ (Aside0.out (by assumption))) | exact HB.out))))
        have n2_ := Aside0.mk (blk_below (g := gb8001) (o := .cells #[.int .i64 a0_0, .string a0_1, .string a0_2, .int .i64 a0_3, .string a0_4, .slice A0_5 l0_5.length c0_5, .slice A0_6 l0_6.length c0_6, .int .i64 a0_7] 34 (0, 0)) (by (with_reducible repeat (first | refine blk_drewN ?_ _ | refine blk_drew ?_ | refine blk_alloc ?_ _)); exact BK8001.out) hb)
        have n3_ := Aside0.mk (below_step (by repeat (first | (with_reducible first | exact HB.out | apply below_alloc | apply pw_below_drewN | apply below_drew1 | refine below_set ?_ (Aside0.out (by assumption))) | exact HB.out)) hb)
        clear HO8013
        clear BK8001
        clear HB
        have HO8013 := n0_
        have HO8019 := n1_
        have BK8001 := n2_
        have HB := n3_
        clear n0_ n1_ n2_ n3_
        clear hb ho56
        refine hK.out _ _ ⟨(blk_cell BK8001.out 0).trans rfl, (blk_cell BK8001.out 1).trans rfl, (blk_cell BK8001.out 2).trans rfl, (blk_cell BK8001.out 3).trans rfl, (blk_cell BK8001.out 4).trans rfl, (blk_cell BK8001.out 5).trans rfl, (blk_cell BK8001.out 6).trans rfl, (blk_cell BK8001.out 7).trans rfl⟩ (fun hHeld => ?_)
        clear hK K
        refine norm_ (a' := ?_) ?_ ?_
        rotate_left
        · show Act.put _ (some 57) _ = _
          simp only [Act.put, List.setIfInBounds_toArray, List.set_cons_zero, List.set_cons_succ, i64_w, i32_w]
          rfl
        refine one_ (i := 2) (N := some 54) #[true, true, true, true, true, true, false, false, true] rfl rfl (one_of HT_.out (by kernel_rfl)) (by decide) (fun K hK => ?_)
        refine goes_ Tryd.func26 (by kernel_rfl) rfl #[.slice A0_6 l0_6.length c0_6] (by rfl) rfl rfl (by (try simp only [List.map_toArray, List.map_cons, List.map_nil]); first | done | rfl | (simp only [List.length_drop, List.length_take]; rfl)) ?_
        with_reducible refine (slices_Clone_int_int.calls _ _ l0_6 t8014 _ ?side1 ?side2 A46.out).mono ?_
        (case side1 => repeat (first | exact (Kd.C_below HR0_6.out HB.out) | (with_reducible refine Kd.C_alloc ?_ _) | (with_reducible refine Kd.C_drewN ?_ _) | (with_reducible refine Kd.C_drew ?_)))
        (case side2 => exact HC0_6.out)
        rintro e w57 ⟨v8015, rfl, ho0, hb⟩
        refine ⟨_, rfl, ?_⟩
        have n0_ := Aside0.mk (Kd.R_below (by (with_reducible repeat (first | apply Kd.R_alloc | apply Kd.R_drewN | apply Kd.R_drew)); exact HO8013.out) hb)
        have n1_ := Aside0.mk (Kd.R_elder' (by (with_reducible repeat (first | apply Kd.R_alloc | apply Kd.R_drewN | apply Kd.R_drew)); exact HO8019.out) (Kd.R_base ho0) hb)
        have n2_ := Aside0.mk (Kd.R_lower (Kd.R_new' ho0 (Kd.R_lt (by (with_reducible repeat (first | apply Kd.R_alloc | apply Kd.R_drewN | apply Kd.R_drew)); exact HO8019.out))) (below_size (by repeat (first | (with_reducible first | exact HB.out | apply below_alloc | apply pw_below_drewN | apply below_drew1 | refine below_set ?_ (Aside0.out (by assumption))) | exact HB.out))))
        have n3_ := Aside0.mk (blk_below (g := gb8001) (o := .cells #[.int .i64 a0_0, .string a0_1, .string a0_2, .int .i64 a0_3, .string a0_4, .slice A0_5 l0_5.length c0_5, .slice A0_6 l0_6.length c0_6, .int .i64 a0_7] 34 (0, 0)) (by (with_reducible repeat (first | refine blk_drewN ?_ _ | refine blk_drew ?_ | refine blk_alloc ?_ _)); exact BK8001.out) hb)
        have n4_ := Aside0.mk (below_step (by repeat (first | (with_reducible first | exact HB.out | apply below_alloc | apply pw_below_drewN | apply below_drew1 | refine below_set ?_ (Aside0.out (by assumption))) | exact HB.out)) hb)
        clear HO8013
        clear HO8019
        clear BK8001
        clear HB
        have HO8013 := n0_
        have HO8019 := n1_
        have HO8016 := n2_
        have BK8001 := n3_
        have HB := n4_
        clear n0_ n1_ n2_ n3_ n4_
        (try clear hb)
        (try clear hb2)
        (try clear hk)
        (try clear hi)
        (try clear ho0)
        refine hK.out _ _ ⟨(blk_cell BK8001.out 0).trans rfl, (blk_cell BK8001.out 1).trans rfl, (blk_cell BK8001.out 2).trans rfl, (blk_cell BK8001.out 3).trans rfl, (blk_cell BK8001.out 4).trans rfl, (blk_cell BK8001.out 5).trans rfl, (blk_cell BK8001.out 6).trans rfl, (blk_cell BK8001.out 7).trans rfl⟩ (fun hHeld => ?_)
        clear hK K
        refine norm_ (a' := ?_) ?_ ?_
        rotate_left
        · show Act.put _ (some 54) _ = _
          simp only [Act.put, List.setIfInBounds_toArray, List.set_cons_zero, List.set_cons_succ, i64_w, i32_w]
          rfl
        exact norm_ (by simp only [putAll, Act.put, List.setIfInBounds_toArray, List.set_cons_zero, List.set_cons_succ]) (hCont (v8015, v8018) _ ⟨hHeld, (by (with_reducible repeat (first | apply Kd.R_alloc | apply Kd.R_drewN | apply Kd.R_drew)); exact HO8013.out), (by (with_reducible repeat (first | apply Kd.R_alloc | apply Kd.R_drewN | apply Kd.R_drew)); exact Kd.R_mono HO8016.out (fun _ hk => hk.2)), (by (with_reducible repeat (first | apply Kd.R_alloc | apply Kd.R_drewN | apply Kd.R_drew)); exact Kd.R_mono HO8019.out (fun _ hk => hk.2)), (by (with_reducible repeat (first | refine blk_drewN ?_ _ | refine blk_drew ?_ | refine blk_alloc ?_ _)); exact BK8001.out), (by repeat (first | (with_reducible first | exact HB.out | apply below_alloc | apply pw_below_drewN | apply below_drew1 | refine below_set ?_ (Aside0.out (by assumption))) | exact HB.out))⟩)
    rintro ⟨v8015, v8018⟩ w58 ⟨hS_, h0_, h1_, h2_, h3_, h4_⟩
    have n0_ : Aside0 (Kd.R Kd.string 9 w58 w.heap.size (fun _ => True) v8012 y8011) := ⟨h0_⟩
    have n1_ : Aside0 (Kd.R (Kd.int .i64) 3 w58 w.heap.size (fun k_ => some k_ ≠ (v8018 : Value).ownBlock) v8015 t8014) := ⟨h1_⟩
    have n2_ : Aside0 (Kd.R (Kd.int .i64) 3 w58 w.heap.size (fun k_ => some k_ ≠ (v8015 : Value).ownBlock) v8018 y8017) := ⟨h2_⟩
    have n3_ : Aside0 (w58.heap[gb8001]? = some (.cells #[.int .i64 a0_0, .string a0_1, .string a0_2, .int .i64 a0_3, .string a0_4, .slice A0_5 l0_5.length c0_5, .slice A0_6 l0_6.length c0_6, .int .i64 a0_7] 34 (0, 0))) := ⟨h3_⟩
    have n4_ : Aside0 (Below w.heap.size w w58) := ⟨h4_⟩
    clear HO8013
    clear BK8001
    clear HB
    clear h0_ h1_ h2_ h3_ h4_
    have HO8013 := n0_
    have HO8016 := n1_
    have HO8019 := n2_
    have BK8001 := n3_
    have HB := n4_
    clear n0_ n1_ n2_ n3_ n4_
    have hHeld : w58.cell? ⟨gb8001, 0, none⟩ = some (.int .i64 a0_0) ∧ w58.cell? ⟨gb8001, 1, none⟩ = some (.string a0_1) ∧ w58.cell? ⟨gb8001, 2, none⟩ = some (.string a0_2) ∧ w58.cell? ⟨gb8001, 3, none⟩ = some (.int .i64 a0_3) ∧ w58.cell? ⟨gb8001, 4, none⟩ = some (.string a0_4) ∧ w58.cell? ⟨gb8001, 5, none⟩ = some (.slice A0_5 l0_5.length c0_5) ∧ w58.cell? ⟨gb8001, 6, none⟩ = some (.slice A0_6 l0_6.length c0_6) ∧ w58.cell? ⟨gb8001, 7, none⟩ = some (.int .i64 a0_7) := hS_
    obtain ⟨Ao60, co60, eo60⟩ := Kd.R_slice HO8019.out
    (first | subst eo60 | (injection eo60 with f1_ f2_ f3_; have f4_ := f1_.symm; have f5_ := f3_.symm; clear f1_ f2_ f3_; subst f4_; subst f5_))
    refine norm_ (a' := ?_) ?_ ?_
    rotate_left
    · simp only [putAll, Act.put, List.setIfInBounds_toArray, List.set_cons_zero, List.set_cons_succ]
      rfl
    refine one_ (i := 6) (N := some 58) #[true, true, true, true, true, true, true, false, true] rfl rfl (one_of HT_.out (by kernel_rfl)) (by decide) (fun K hK => ?_)
    refine Kd.R_append_rows_step (Kd.int .i64) (w0 := w) w.heap.size (by rfl) (.tmp 54) (.tmp 57) 25 3 (.int .i64 0) 8 rfl Tryd.underlying25 info3 rfl (by decide) (by omega) v8015 t8014 y8017 _ _ _ (fun k_ => some k_ ≠ (.slice Ao60 y8017.length co60 : Value).ownBlock) (fun _ => False) rfl rfl ?aO ?aR (fun _ _ h => h) (fun _ h => h.elim) ?aF ?aB ?aS ?aL ?_
    (case aR => repeat (first | exact (Kd.R_reads' HO8019.out).2.2 | (with_reducible refine Kd.C_alloc ?_ _) | (with_reducible refine Kd.C_drewN ?_ _) | (with_reducible refine Kd.C_drew ?_)))
    (case aB => exact (by repeat (first | (with_reducible first | exact HB.out | apply below_alloc | apply pw_below_drewN | apply below_drew1 | refine below_set ?_ (Aside0.out (by assumption))) | exact HB.out)))
    (case aF => exact (fun k_ hk => Kd.fresh' (Kd.R_lt (by (with_reducible repeat (first | apply Kd.R_alloc | apply Kd.R_drewN | apply Kd.R_drew)); exact HO8019.out)) k_ hk))
    (case aO => exact (by (with_reducible repeat (first | apply Kd.R_alloc | apply Kd.R_drewN | apply Kd.R_drew)); exact HO8016.out))
    (case aS => exact (below_size (by repeat (first | (with_reducible first | exact HB.out | apply below_alloc | apply pw_below_drewN | apply below_drew1 | refine below_set ?_ (Aside0.out (by assumption))) | exact HB.out))))
    (case aL => have := LMc47.out; omega)
    intro v8021 w59 ho hb hg hat
    rw [← Ny8020.out] at ho
    have n0_ := Aside0.mk (blk_grown (g := gb8001) (o := .cells #[.int .i64 a0_0, .string a0_1, .string a0_2, .int .i64 a0_3, .string a0_4, .slice A0_5 l0_5.length c0_5, .slice A0_6 l0_6.length c0_6, .int .i64 a0_7] 34 (0, 0)) (by (with_reducible repeat (first | refine blk_drewN ?_ _ | refine blk_drew ?_ | refine blk_alloc ?_ _)); exact BK8001.out) hg (Kd.R_ne HO8016.out BK8001.out (by decide)))
    have n1_ := Aside0.mk (Kd.R_over' (by (with_reducible repeat (first | apply Kd.R_alloc | apply Kd.R_drewN | apply Kd.R_drew)); exact HO8013.out) (Kd.R_typed (by (with_reducible repeat (first | apply Kd.R_alloc | apply Kd.R_drewN | apply Kd.R_drew)); exact HO8016.out)) (by decide) hg)
    have n2_ := Aside0.mk (Kd.R_after (ok := (fun _ => True)) (by (with_reducible repeat (first | apply Kd.R_alloc | apply Kd.R_drewN | apply Kd.R_drew)); exact Kd.R_mono HO8019.out (fun _ hk => ⟨trivial, hk⟩)) hg hat)
    have n3_ := Aside0.mk (hb)
    have n4_ := Aside0.mk (ho)
    clear BK8001
    clear HO8013
    clear HO8019
    clear HB
    clear HO8016
    have BK8001 := n0_
    have HO8013 := n1_
    have HO8019 := n2_
    have HB := n3_
    have HO8022 := n4_
    clear n0_ n1_ n2_ n3_ n4_
    clear ho hb hg hat
    obtain ⟨Ao61, co61, eo61⟩ := Kd.R_slice HO8022.out
    (first | subst eo61 | (injection eo61 with f1_ f2_ f3_; have f4_ := f1_.symm; have f5_ := f3_.symm; clear f1_ f2_ f3_; subst f4_; subst f5_))
    refine hK.out _ _ ⟨(blk_cell BK8001.out 0).trans rfl, (blk_cell BK8001.out 1).trans rfl, (blk_cell BK8001.out 2).trans rfl, (blk_cell BK8001.out 3).trans rfl, (blk_cell BK8001.out 4).trans rfl, (blk_cell BK8001.out 5).trans rfl, (blk_cell BK8001.out 6).trans rfl, (blk_cell BK8001.out 7).trans rfl⟩ (fun hHeld => ?_)
    clear hK K
    refine norm_ (a' := ?_) ?_ ?_
    rotate_left
    · show Act.put _ (some 58) _ = _
      simp only [Act.put, List.setIfInBounds_toArray, List.set_cons_zero, List.set_cons_succ, i64_w, i32_w]
      rfl
    refine pure_ (i := 7) (N := some 59) (v := ?_) (a' := ?_) #[true, true, true, true, true, true, true, true, true] rfl rfl (any_of HT_.out (by kernel_rfl)) (fun _ _ _ h => h) (Or.inl ⟨by rfl, ?_⟩) ?_ ?_
    rotate_left
    · intro w'
      go_simp
      first | with_reducible rfl | (rw [if_neg (by omega)]; done) | (rw [if_neg (by (try simp only [decide_eq_true_eq, decide_eq_false_iff_not, eq_iff_iff, iff_true, iff_false] at *); (try simp only [ByteArray.size_extract, ByteArray.size_append, show (⟨#[97, 98, 99]⟩ : ByteArray).size = 3 from rfl, show (⟨#[88, 89, 90]⟩ : ByteArray).size = 3 from rfl, show (⟨#[61]⟩ : ByteArray).size = 1 from rfl, show (⟨#[108, 101, 110]⟩ : ByteArray).size = 3 from rfl, show (⟨#[32]⟩ : ByteArray).size = 1 from rfl, show (⟨#[32, 105, 110, 32]⟩ : ByteArray).size = 4 from rfl, show (⟨#[32, 111, 117, 116, 32]⟩ : ByteArray).size = 5 from rfl, show (⟨#[32, 33, 61, 32]⟩ : ByteArray).size = 4 from rfl, show (⟨#[32, 61, 32]⟩ : ByteArray).size = 3 from rfl] at *); omega)]; done)
    rotate_left
    · simp only [Act.put, List.setIfInBounds_toArray, List.set_cons_zero, List.set_cons_succ, i64_w, i32_w]
      rfl
    refine done_ (done_of HT_.out (by kernel_rfl)) ?_
    try go_wp2
    first | go_loopg [3, 60] k (fun kq v3 v60 w' => ∃ (x3_1 : List ByteArray) (x60_1 : Int), v60 = .int .i64 x60_1 ∧ Aside0 (impl_FormatConstraint.l0 kq x3_1 y8020 (y8020.length : Int) x60_1 = some r) ∧ Aside0 (kq ≤ k) ∧ Aside0 (Kd.R Kd.string 9 w' w.heap.size (fun _ => True) v3 x3_1) ∧ Aside0 (Kd.R (Kd.int .i64) 3 w' w.heap.size (fun _ => True) (.slice Ao61 y8020.length co61) y8020) ∧ Aside0 (w'.heap[gb8001]? = some (.cells #[.int .i64 a0_0, .string a0_1, .string a0_2, .int .i64 a0_3, .string a0_4, (.slice A0_5 l0_5.length c0_5), (.slice A0_6 l0_6.length c0_6), .int .i64 a0_7] 34 (0, 0))) ∧ Aside0 (Below w.heap.size w w')) | (simp only [Act.put, List.setIfInBounds_toArray, List.set_cons_succ, List.set_cons_zero]; go_loopg [3, 60] k (fun kq v3 v60 w' => ∃ (x3_1 : List ByteArray) (x60_1 : Int), v60 = .int .i64 x60_1 ∧ Aside0 (impl_FormatConstraint.l0 kq x3_1 y8020 (y8020.length : Int) x60_1 = some r) ∧ Aside0 (kq ≤ k) ∧ Aside0 (Kd.R Kd.string 9 w' w.heap.size (fun _ => True) v3 x3_1) ∧ Aside0 (Kd.R (Kd.int .i64) 3 w' w.heap.size (fun _ => True) (.slice Ao61 y8020.length co61) y8020) ∧ Aside0 (w'.heap[gb8001]? = some (.cells #[.int .i64 a0_0, .string a0_1, .string a0_2, .int .i64 a0_3, .string a0_4, (.slice A0_5 l0_5.length c0_5), (.slice A0_6 l0_6.length c0_6), .int .i64 a0_7] 34 (0, 0))) ∧ Aside0 (Below w.heap.size w w')))
    case atStart => exact ⟨(y8011), (0), (by first | rfl | (simp; done) | (simp [*]; done)), H', ⟨Nat.le_refl _⟩, ⟨by (with_reducible repeat (first | apply Kd.R_alloc | apply Kd.R_drewN | apply Kd.R_drew)); exact HO8013.out⟩, ⟨by (with_reducible repeat (first | apply Kd.R_alloc | apply Kd.R_drewN | apply Kd.R_drew)); exact Kd.R_mono HO8022.out (fun _ hk => trivial)⟩, ⟨by (with_reducible repeat (first | refine blk_drewN ?_ _ | refine blk_drew ?_ | refine blk_alloc ?_ _)); exact BK8001.out⟩, ⟨by repeat (first | (with_reducible first | exact HB.out | apply below_alloc | apply pw_below_drewN | apply below_drew1 | refine below_set ?_ (Aside0.out (by assumption))) | exact HB.out)⟩⟩
    case round =>
     clear H'
     obtain ⟨x3_1, x60_1, rfl, HA, HK1, HO_3, HO_58, BK8001, HB⟩ := hrel
     cases gk with
     | zero => exact absurd HA.out (by simp [impl_FormatConstraint.l0])
     | succ k1 =>
      have H := HA.out
      clear HA
      simp only [impl_FormatConstraint.l0] at H
      by_cases c62 : x60_1 < (y8020.length : Int)
      rw [if_pos c62] at H
      have c62b0 : decide (x60_1 < (y8020.length : Int)) = true := decide_eq_true c62
      clear c62
      by_cases c63 : 0 ≤ x60_1
      rw [if_pos c63] at H
      have c63b0 : decide (0 ≤ x60_1) = true := decide_eq_true c63
      clear c63
      by_cases c64 : x60_1 < (y8020.length : Int)
      rw [if_pos c64] at H
      have c64b0 : decide (x60_1 < (y8020.length : Int)) = true := decide_eq_true c64
      clear c64
      replace H := Option.bind_eq_some_iff.mp H
      obtain ⟨t8024, A650, H⟩ := H
      replace H : ((some (([t8024] : List ByteArray) : List ByteArray)).bind fun y8025 => (if x3_1.length + y8025.length < 8796093022208 then (impl_FormatConstraint.l0 k1 (x3_1 ++ y8025) y8020 (y8020.length : Int) (wrap64 (x60_1 + 1))) else (none))) = some r := H
      have A65 := Aside0.mk A650
      clear A650
      obtain ⟨y8025, hy8025⟩ : ∃ y_ : List ByteArray, y_ = (([t8024] : List ByteArray)) := ⟨_, rfl⟩
      replace H : (if x3_1.length + y8025.length < 8796093022208 then (impl_FormatConstraint.l0 k1 (x3_1 ++ y8025) y8020 (y8020.length : Int) (wrap64 (x60_1 + 1))) else (none)) = some r := by first | (rw [hy8025]; with_reducible exact H) | (have H2_ := (Option.bind_some _ _).symm.trans H; rw [hy8025]; with_reducible exact H2_) | (have H2_ := (Option.bind_some _ _).symm.trans H; with_reducible exact H2_) | with_reducible exact H | (rw [hy8025]; exact H) | exact H
      have Ny8025 := Aside0.mk hy8025
      clear hy8025
      by_cases c66 : x3_1.length + y8025.length < 8796093022208
      rw [if_pos c66] at H
      have LMc66 := Aside0.mk c66
      clear c66
      obtain ⟨y8028, hy8028⟩ : ∃ y_ : List ByteArray, y_ = (x3_1 ++ y8025) := ⟨_, rfl⟩
      replace H : (impl_FormatConstraint.l0 k1 y8028 y8020 (y8020.length : Int) (wrap64 (x60_1 + 1))) = some r := by first | (rw [hy8028]; with_reducible exact H) | (have H2_ := (Option.bind_some _ _).symm.trans H; rw [hy8028]; with_reducible exact H2_) | (have H2_ := (Option.bind_some _ _).symm.trans H; with_reducible exact H2_) | with_reducible exact H | (rw [hy8028]; exact H) | exact H
      have Ny8028 := Aside0.mk hy8028
      clear hy8028
      have H' := Aside0.mk H
      clear H
      have p8023 : 0 ≤ (x60_1 : Int) := of_decide_eq_true (by first | (with_reducible assumption) | assumption)
      have q8023 : x60_1 < (y8020.length : Int) := of_decide_eq_true (by first | (with_reducible assumption) | assumption)
      obtain ⟨ad8023, e8023, hx8023_0⟩ := Kd.at_int (Kd.R_reads' HO_58.out).2.2 x60_1 p8023 q8023
      cases e8023
      replace p8023 := eq_true p8023
      replace q8023 := eq_true q8023
      have fin0_ := Aside0.mk trivial
      rotate_left
      · rw [if_neg c66] at H
        exact absurd H (by simp)
      · rw [if_neg c64] at H
        exact absurd H (by simp)
      · rw [if_neg c63] at H
        exact absurd H (by simp)
      rw [if_neg c62] at H
      have c62b0 : decide (x60_1 < (y8020.length : Int)) = false := decide_eq_false c62
      clear c62
      replace H := Option.bind_eq_some_iff.mp H
      obtain ⟨t8031, A720, H⟩ := H
      replace H : (some t8031) = some r := H
      have A72 := Aside0.mk A720
      clear A720
      obtain rfl := Option.some.inj H
      obtain ⟨Ao73, co73, eo73⟩ := Kd.R_slice HO_3.out
      subst eo73
      have fin1_ := Aside0.mk trivial
      rotate_left
      all_goals
       go_wp2_with (first | ((with_reducible refine gate_callee (f := 27) rfl ?_); refine goesL_ (some 66) rfl rfl Tryd.func27 (by kernel_rfl) rfl #[.int .i64 (rd y8020 x60_1)] rfl (by (try simp only [List.map_toArray, List.map_cons, List.map_nil]); first | done | rfl | (simp only [List.length_drop, List.length_take]; rfl)) ?_; (with_reducible refine (impl_FormatInt.calls (rd y8020 x60_1) t8024 _ A65.out (HTb.out.below (by repeat (first | (with_reducible first | exact HB.out | apply below_alloc | apply pw_below_drewN | apply below_drew1 | refine below_set ?_ (Aside0.out (by assumption))) | exact HB.out)))).mono ?_); rintro e w67 ⟨rfl, hb⟩; refine ⟨_, rfl, ?_⟩; have n0_ := Aside0.mk (Kd.R_below (by (with_reducible repeat (first | apply Kd.R_alloc | apply Kd.R_drewN | apply Kd.R_drew)); exact HO_3.out) hb); have n1_ := Aside0.mk (Kd.R_below (by (with_reducible repeat (first | apply Kd.R_alloc | apply Kd.R_drewN | apply Kd.R_drew)); exact HO_58.out) hb); have n2_ := Aside0.mk (blk_below (g := gb8001) (o := .cells #[.int .i64 a0_0, .string a0_1, .string a0_2, .int .i64 a0_3, .string a0_4, .slice A0_5 l0_5.length c0_5, .slice A0_6 l0_6.length c0_6, .int .i64 a0_7] 34 (0, 0)) (by (with_reducible repeat (first | refine blk_drewN ?_ _ | refine blk_drew ?_ | refine blk_alloc ?_ _)); exact BK8001.out) hb); have n3_ := Aside0.mk (below_step (by repeat (first | (with_reducible first | exact HB.out | apply below_alloc | apply pw_below_drewN | apply below_drew1 | refine below_set ?_ (Aside0.out (by assumption))) | exact HB.out)) hb); clear HO_3; clear HO_58; clear BK8001; clear HB; have HO_3 := n0_; have HO_58 := n1_; have BK8001 := n2_; have HB := n3_; clear n0_ n1_ n2_ n3_; (try clear hb); (try clear hb2); (try clear hk); (try clear hi)) | ((with_reducible refine gate_dst (N := 67) rfl ?_); refine Kd.R_lit Kd.string _ 9 ?hg (N := 67) ?hd (xs := ([t8024] : List ByteArray)) (inner := [.string t8024]) (ok := fun _ => True) (okp := fun _ => True) ?hr ?hp (fun _ hk => hk) trivial (Below.refl _ _) (Nat.le_refl _) (by simp) ?_; (case hd => rfl); (case hg => rfl); (case hr => first | (go_simp; done) | (go_simp; rfl)); (case hp => exact (Reps.one (show Kd.M Kd.string _ _ _ t8024 [.string t8024] from rfl) (Reps.none _ _))); intro v8026 w68 ho69 hb hg_ hnew_; clear hg_ hnew_; (first | rw [← Ny8025.out] at ho69 | (simp only [Int.reduceToNat] at ho69; rw [← Ny8025.out] at ho69)); have n0_ := Aside0.mk (Kd.R_elder' (by (with_reducible repeat (first | apply Kd.R_alloc | apply Kd.R_drewN | apply Kd.R_drew)); exact HO_3.out) (Kd.R_base ho69) hb); have n1_ := Aside0.mk (Kd.R_below (by (with_reducible repeat (first | apply Kd.R_alloc | apply Kd.R_drewN | apply Kd.R_drew)); exact HO_58.out) hb); have n2_ := Aside0.mk (Kd.R_lower (Kd.R_new' ho69 (Kd.R_lt (by (with_reducible repeat (first | apply Kd.R_alloc | apply Kd.R_drewN | apply Kd.R_drew)); exact HO_3.out))) (below_size (by repeat (first | (with_reducible first | exact HB.out | apply below_alloc | apply pw_below_drewN | apply below_drew1 | refine below_set ?_ (Aside0.out (by assumption))) | exact HB.out)))); have n3_ := Aside0.mk (blk_below (g := gb8001) (o := .cells #[.int .i64 a0_0, .string a0_1, .string a0_2, .int .i64 a0_3, .string a0_4, .slice A0_5 l0_5.length c0_5, .slice A0_6 l0_6.length c0_6, .int .i64 a0_7] 34 (0, 0)) (by (with_reducible repeat (first | refine blk_drewN ?_ _ | refine blk_drew ?_ | refine blk_alloc ?_ _)); exact BK8001.out) hb); have n4_ := Aside0.mk (below_step (by repeat (first | (with_reducible first | exact HB.out | apply below_alloc | apply pw_below_drewN | apply below_drew1 | refine below_set ?_ (Aside0.out (by assumption))) | exact HB.out)) hb); clear HO_3; clear HO_58; clear BK8001; clear HB; have HO_3 := n0_; have HO_58 := n1_; have HO8027 := n2_; have BK8001 := n3_; have HB := n4_; clear n0_ n1_ n2_ n3_ n4_; clear hb ho69; obtain ⟨Ao71, co71, eo71⟩ := Kd.R_slice HO8027.out; subst eo71) | ((with_reducible refine gate_builtin (b := .append) (xs := #[.tmp 64, .tmp 67]) rfl ?_); at_builtin; refine Kd.R_append_rows Kd.string (w0 := w) w.heap.size rfl (.tmp 64) (.tmp 67) 57 9 (.string ⟨#[]⟩) 16 rfl Tryd.underlying57 info9 rfl (by decide) (by omega) u3 x3_1 y8025 _ _ _ (fun k_ => some k_ ≠ (.slice Ao71 y8025.length co71 : Value).ownBlock) (fun _ => False) rfl rfl ?aO ?aR (fun _ _ h => h) (fun _ h => h.elim) ?aF ?aB ?aS ?aL ?_; (case aR => repeat (first | exact (Kd.R_reads' HO8027.out).2.2 | (with_reducible refine Kd.C_alloc ?_ _) | (with_reducible refine Kd.C_drewN ?_ _) | (with_reducible refine Kd.C_drew ?_))); (case aB => exact (by repeat (first | (with_reducible first | exact HB.out | apply below_alloc | apply pw_below_drewN | apply below_drew1 | refine below_set ?_ (Aside0.out (by assumption))) | exact HB.out))); (case aF => exact (fun k_ hk => Kd.fresh' (Kd.R_lt (by (with_reducible repeat (first | apply Kd.R_alloc | apply Kd.R_drewN | apply Kd.R_drew)); exact HO8027.out)) k_ hk)); (case aO => exact (by (with_reducible repeat (first | apply Kd.R_alloc | apply Kd.R_drewN | apply Kd.R_drew)); exact Kd.R_mono HO_3.out (fun _ hk => hk.2))); (case aS => exact (below_size (by repeat (first | (with_reducible first | exact HB.out | apply below_alloc | apply pw_below_drewN | apply below_drew1 | refine below_set ?_ (Aside0.out (by assumption))) | exact HB.out)))); (case aL => have := LMc66.out; omega); intro v8029 w70 ho hb hg hat; rw [← Ny8028.out] at ho; have n0_ := Aside0.mk (Kd.R_over' (by (with_reducible repeat (first | apply Kd.R_alloc | apply Kd.R_drewN | apply Kd.R_drew)); exact HO_58.out) (Kd.R_typed (by (with_reducible repeat (first | apply Kd.R_alloc | apply Kd.R_drewN | apply Kd.R_drew)); exact HO_3.out)) (by decide) hg); have n1_ := Aside0.mk (blk_grown (g := gb8001) (o := .cells #[.int .i64 a0_0, .string a0_1, .string a0_2, .int .i64 a0_3, .string a0_4, .slice A0_5 l0_5.length c0_5, .slice A0_6 l0_6.length c0_6, .int .i64 a0_7] 34 (0, 0)) (by (with_reducible repeat (first | refine blk_drewN ?_ _ | refine blk_drew ?_ | refine blk_alloc ?_ _)); exact BK8001.out) hg (Kd.R_ne HO_3.out BK8001.out (by decide))); have n2_ := Aside0.mk (Kd.R_after (ok := (fun _ => True)) (by (with_reducible repeat (first | apply Kd.R_alloc | apply Kd.R_drewN | apply Kd.R_drew)); exact HO8027.out) hg hat); have n3_ := Aside0.mk (hb); have n4_ := Aside0.mk (ho); clear HO_58; clear BK8001; clear HO8027; clear HB; clear HO_3; have HO_58 := n0_; have BK8001 := n1_; have HO8027 := n2_; have HB := n3_; have HO8030 := n4_; clear n0_ n1_ n2_ n3_ n4_; clear ho hb hg hat) | ((with_reducible refine gate_callee (f := 28) rfl ?_); refine goesL_ (some 71) rfl rfl Tryd.func28 (by kernel_rfl) rfl #[.slice Ao73 x3_1.length co73, .string (⟨#[32]⟩ : ByteArray)] rfl (by (try simp only [List.map_toArray, List.map_cons, List.map_nil]); first | done | rfl | (simp only [List.length_drop, List.length_take]; rfl)) ?_; (with_reducible refine (impl_Join.calls k1 _ _ x3_1 (⟨#[32]⟩ : ByteArray) t8031 _ ?side1 ?side2 A72.out).mono ?_); (case side1 => repeat (first | exact (Kd.R_reads' HO_3.out).2.2 | (with_reducible refine Kd.C_alloc ?_ _) | (with_reducible refine Kd.C_drewN ?_ _) | (with_reducible refine Kd.C_drew ?_))); (case side2 => exact (Kd.R_reads' HO_3.out).2.1); rintro e w74 ⟨rfl, hb⟩; refine ⟨_, rfl, ?_⟩; have n0_ := Aside0.mk (Kd.R_below (by (with_reducible repeat (first | apply Kd.R_alloc | apply Kd.R_drewN | apply Kd.R_drew)); exact HO_3.out) hb); have n1_ := Aside0.mk (Kd.R_below (by (with_reducible repeat (first | apply Kd.R_alloc | apply Kd.R_drewN | apply Kd.R_drew)); exact HO_58.out) hb); have n2_ := Aside0.mk (blk_below (g := gb8001) (o := .cells #[.int .i64 a0_0, .string a0_1, .string a0_2, .int .i64 a0_3, .string a0_4, .slice A0_5 l0_5.length c0_5, .slice A0_6 l0_6.length c0_6, .int .i64 a0_7] 34 (0, 0)) (by (with_reducible repeat (first | refine blk_drewN ?_ _ | refine blk_drew ?_ | refine blk_alloc ?_ _)); exact BK8001.out) hb); have n3_ := Aside0.mk (below_step (by repeat (first | (with_reducible first | exact HB.out | apply below_alloc | apply pw_below_drewN | apply below_drew1 | refine below_set ?_ (Aside0.out (by assumption))) | exact HB.out)) hb); clear HO_3; clear HO_58; clear BK8001; clear HB; have HO_3 := n0_; have HO_58 := n1_; have BK8001 := n2_; have HB := n3_; clear n0_ n1_ n2_ n3_; (try clear hb); (try clear hb2); (try clear hk); (try clear hi)))
       first
       | (clear fin0_
          go_roundg k1
          case measure => have := HK1.out; omega
          case rel => exact ⟨(y8028), (wrap64 (x60_1 + 1)), (by first | rfl | (simp; done) | (simp [*]; done)), H', ⟨by have := HK1.out; omega⟩, ⟨by (with_reducible repeat (first | apply Kd.R_alloc | apply Kd.R_drewN | apply Kd.R_drew)); exact Kd.R_mono HO8030.out (fun _ hk => trivial)⟩, ⟨by (with_reducible repeat (first | apply Kd.R_alloc | apply Kd.R_drewN | apply Kd.R_drew)); exact HO_58.out⟩, ⟨by (with_reducible repeat (first | refine blk_drewN ?_ _ | refine blk_drew ?_ | refine blk_alloc ?_ _)); exact BK8001.out⟩, ⟨by repeat (first | (with_reducible first | exact HB.out | apply below_alloc | apply pw_below_drewN | apply below_drew1 | refine below_set ?_ (Aside0.out (by assumption))) | exact HB.out)⟩⟩)
       | (clear fin1_
          go_ret
          exact ⟨by first | rfl | (simp [errW_none, errW_some] <;> rfl) | (simp [*, errW_none, errW_some] <;> rfl), by repeat (first | (with_reducible first | exact HB.out | apply below_alloc | apply pw_below_drewN | apply below_drew1 | refine below_set ?_ (Aside0.out (by assumption))) | exact HB.out)⟩)
  · rw [if_neg c47] at H
    exact absurd H (by simp)
  · replace c3 := Bool.eq_false_iff.mpr c3
    subst c3
    have H1 : (some (⟨#[]⟩ : ByteArray)) = some r := by rw [if_neg (show ¬ (false = true) by decide)] at H; exact H
    clear H
    have H := H1
    clear H1
    obtain rfl := Option.some.inj H
    go_enter Tryd.func8, Tryd.ntmps8
    go_wp2_with (first | ((with_reducible refine gate_dst (N := 1) rfl ?_); refine box_event ?hg (N := 1) ?hd (cs := #[.int .i64 a0_0, .string a0_1, .string a0_2, .int .i64 a0_3, .string a0_4, .slice A0_5 l0_5.length c0_5, .slice A0_6 l0_6.length c0_6, .int .i64 a0_7]) (t := 34) ?hr ?_; (case hd => rfl); (case hg => rfl); (case hr => first | (go_simp; done) | (go_simp; rfl)); intro gb8001 hg w75 hbox hb; have n0_ := Aside0.mk (below_step (by repeat (first | (with_reducible first | exact HB.out | apply below_alloc | apply pw_below_drewN | apply below_drew1 | refine below_set ?_ (Aside0.out (by assumption))) | exact HB.out)) hb); have n1_ := Aside0.mk (hbox); have n2_ := Aside0.mk ((by rw [hg]; exact (below_size (by repeat (first | (with_reducible first | exact HB.out | apply below_alloc | apply pw_below_drewN | apply below_drew1 | refine below_set ?_ (Aside0.out (by assumption))) | exact HB.out))) : w.heap.size ≤ gb8001)); have n3_ := Aside0.mk ((by rw [hg]; exact (below_size (by repeat (first | (with_reducible first | exact HB.out | apply below_alloc | apply pw_below_drewN | apply below_drew1 | refine below_set ?_ (Aside0.out (by assumption))) | exact HB.out))) : w.heap.size ≤ gb8001)); clear HB; have HB := n0_; have BK8001 := n1_; have GW8001 := n2_; have GE8001 := n3_; clear n0_ n1_ n2_ n3_; clear hb hbox hg; obtain ⟨hcz76_0, hcz76_1, hcz76_2, hcz76_3, hcz76_4, hcz76_5, hcz76_6, hcz76_7, hfz76_0, hfz76_1, hfz76_2, hfz76_3, hfz76_4, hfz76_5, hfz76_6, hfz76_7⟩ := blk8 BK8001.out) | ((with_reducible refine gate_callee (f := 23) rfl ?_); refine goesL_ (some 7) rfl rfl Tryd.func23 (by kernel_rfl) rfl #[.agg #[.int .i64 a0_0, .string a0_1, .string a0_2, .int .i64 a0_3, .string a0_4, .slice A0_5 l0_5.length c0_5, .slice A0_6 l0_6.length c0_6, .int .i64 a0_7]] rfl (by (try simp only [List.map_toArray, List.map_cons, List.map_nil]); first | done | rfl | (simp only [List.length_drop, List.length_take]; rfl)) ?_; (with_reducible refine (impl_IsValidConstraint.calls k a0_0 a0_1 a0_2 a0_3 a0_4 _ _ l0_5 _ _ l0_6 a0_7 _ _ ?side1 ?side2 ?side3 ?side4 A2.out).mono ?_); (case side1 => repeat (first | exact (Kd.C_below HR0_5.out HB.out) | (with_reducible refine Kd.C_alloc ?_ _) | (with_reducible refine Kd.C_drewN ?_ _) | (with_reducible refine Kd.C_drew ?_))); (case side2 => exact HC0_5.out); (case side3 => repeat (first | exact (Kd.C_below HR0_6.out HB.out) | (with_reducible refine Kd.C_alloc ?_ _) | (with_reducible refine Kd.C_drewN ?_ _) | (with_reducible refine Kd.C_drew ?_))); (case side4 => exact HC0_6.out); rintro e w77 ⟨rfl, hb⟩; refine ⟨_, rfl, ?_⟩; have n0_ := Aside0.mk (blk_below (g := gb8001) (o := .cells #[.int .i64 a0_0, .string a0_1, .string a0_2, .int .i64 a0_3, .string a0_4, .slice A0_5 l0_5.length c0_5, .slice A0_6 l0_6.length c0_6, .int .i64 a0_7] 34 (0, 0)) (by (with_reducible repeat (first | refine blk_drewN ?_ _ | refine blk_drew ?_ | refine blk_alloc ?_ _)); exact BK8001.out) hb); have n1_ := Aside0.mk (below_step (by repeat (first | (with_reducible first | exact HB.out | apply below_alloc | apply pw_below_drewN | apply below_drew1 | refine below_set ?_ (Aside0.out (by assumption))) | exact HB.out)) hb); clear BK8001; clear HB; have BK8001 := n0_; have HB := n1_; clear n0_ n1_; (try clear hb); (try clear hb2); (try clear hk); (try clear hi)))
    go_ret
    exact ⟨by first | rfl | (simp [errW_none, errW_some] <;> rfl) | (simp [*, errW_none, errW_some] <;> rfl), by repeat (first | (with_reducible first | exact HB.out | apply below_alloc | apply pw_below_drewN | apply below_drew1 | refine below_set ?_ (Aside0.out (by assumption))) | exact HB.out)⟩

end Go.Proofs.YtdchpohiiigobaaDoor.A


namespace Go.Proofs.YtdchpohiiigobaaDoor.A
open Go.RowKit Go.Proofs.YtdchpohiiigobaaDoor.Ext Go.Proofs.YtdchpohiiigobaaDoorW.PrintWords Go.Proofs.YtdchpohiiigobaaDoorW.PrintLast Go.Proofs.YtdchpohiiigobaaDoorW.PrintMore
attribute [local go_sem] max2_int min2_int max_two min_two max_three min_three max_four min_four   -- for this text's walks alone
set_option linter.unusedVariables false
set_option linter.unusedSimpArgs false

/-! ### laws_FnExactFormatConstraint: function 3 -/
def laws_FnExactFormatConstraint.f (k : Nat) (a0_0 : Int) (a0_1 : ByteArray) (a0_2 : ByteArray) (a0_3 : Int) (a0_4 : ByteArray) (l0_5 : List (S24)) (l0_6 : List Int) (a0_7 : Int) : Option (Bool) := (laws_szConstraint.f k a0_0 a0_1 a0_2 a0_3 a0_4 l0_5 l0_6 a0_7 1048576).bind fun t3002 => (if t3002 < 0 then (some true) else ((laws_toConstraint.f k a0_0 a0_1 a0_2 a0_3 a0_4 l0_5 l0_6 a0_7).bind fun bt3003 => ((spec_FormatConstraint.f k bt3003.1 bt3003.2.1 bt3003.2.2.1 bt3003.2.2.2.1 bt3003.2.2.2.2.1 bt3003.2.2.2.2.2.1 bt3003.2.2.2.2.2.2.1 bt3003.2.2.2.2.2.2.2).bind fun t3015 => ((laws_toConstraint.f k a0_0 a0_1 a0_2 a0_3 a0_4 l0_5 l0_6 a0_7).bind fun bt3016 => ((impl_FormatConstraint.f k bt3016.1 bt3016.2.1 bt3016.2.2.1 bt3016.2.2.2.1 bt3016.2.2.2.2.1 bt3016.2.2.2.2.2.1 bt3016.2.2.2.2.2.2.1 bt3016.2.2.2.2.2.2.2).bind fun t3029 => (if t3029.toList = t3015.toList then ((laws_toConstraint.f k a0_0 a0_1 a0_2 a0_3 a0_4 l0_5 l0_6 a0_7).bind fun bt3030 => ((laws_eqConstraint.f k bt3016.1 bt3016.2.1 bt3016.2.2.1 bt3016.2.2.2.1 bt3016.2.2.2.2.1 bt3016.2.2.2.2.2.1 bt3016.2.2.2.2.2.2.1 bt3016.2.2.2.2.2.2.2 bt3030.1 bt3030.2.1 bt3030.2.2.1 bt3030.2.2.2.1 bt3030.2.2.2.2.1 bt3030.2.2.2.2.2.1 bt3030.2.2.2.2.2.2.1 bt3030.2.2.2.2.2.2.2).bind fun t3042 => (if t3042 = true then (some true) else (some false)))) else (some false)))))))
theorem laws_FnExactFormatConstraint.mono : ∀ a0 a1 a2 a3 a4 a5 a6 a7 k, LeO (laws_FnExactFormatConstraint.f k a0 a1 a2 a3 a4 a5 a6 a7) (laws_FnExactFormatConstraint.f (k + 1) a0 a1 a2 a3 a4 a5 a6 a7) := by
  intro a0 a1 a2 a3 a4 a5 a6 a7 k
  unfold laws_FnExactFormatConstraint.f
  repeat' first
      | with_reducible first | exact impl_FormatConstraint.mono _ _ _ _ _ _ _ _ _ | exact laws_eqConstraint.mono _ _ _ _ _ _ _ _ _ _ _ _ _ _ _ _ _ | exact laws_szConstraint.mono _ _ _ _ _ _ _ _ _ _ | exact laws_toConstraint.mono _ _ _ _ _ _ _ _ _ | exact spec_FormatConstraint.mono _ _ _ _ _ _ _ _ _ | exact LeO.refl _ | exact LeO.none _ | refine LeO.ite ?_ ?_ | refine LeO.bind ?_ (fun _ => ?_)
      | exact impl_FormatConstraint.mono _ _ _ _ _ _ _ _ _ | exact laws_eqConstraint.mono _ _ _ _ _ _ _ _ _ _ _ _ _ _ _ _ _ | exact laws_szConstraint.mono _ _ _ _ _ _ _ _ _ _ | exact laws_toConstraint.mono _ _ _ _ _ _ _ _ _ | exact spec_FormatConstraint.mono _ _ _ _ _ _ _ _ _ | exact LeO.none _ | refine LeO.ite ?_ ?_ | refine LeO.bind ?_ (fun _ => ?_)
set_option maxHeartbeats 8000000 in
set_option maxRecDepth 100000 in
theorem laws_FnExactFormatConstraint.calls (k : Nat) (a0_0 : Int) (a0_1 : ByteArray) (a0_2 : ByteArray) (a0_3 : Int) (a0_4 : ByteArray) (A0_5 : Option Addr) (c0_5 : Nat) (l0_5 : List (S24)) (A0_6 : Option Addr) (c0_6 : Nat) (l0_6 : List Int) (a0_7 : Int) (r : Bool) (w : World) (hr0_5 : Kd.C k24 w A0_5 l0_5.length l0_5) (hc0_5 : l0_5.length ≤ c0_5) (hr0_6 : Kd.C (Kd.int .i64) w A0_6 l0_6.length l0_6) (hc0_6 : l0_6.length ≤ c0_6) (h : laws_FnExactFormatConstraint.f k a0_0 a0_1 a0_2 a0_3 a0_4 l0_5 l0_6 a0_7 = some r) (hr_ : r = true) (hTb : Tb w) :
    Calls Tryd.prog 3 #[.agg #[.int .i64 a0_0, .string a0_1, .string a0_2, .int .i64 a0_3, .string a0_4, .slice A0_5 l0_5.length c0_5, .slice A0_6 l0_6.length c0_6, .int .i64 a0_7]] w fun e w' => e = .returned (.bool r) ∧ Below w.heap.size w w' := by
  have HTb := Aside0.mk hTb
  clear hTb
  have HRT_ := Aside0.mk hr_
  clear hr_
  have hu27 := Tryd.underlying27
  have hu34 := Tryd.underlying34
  have HR0_5 := Aside0.mk hr0_5
  have HC0_5 := Aside0.mk hc0_5
  clear hr0_5 hc0_5
  have HR0_6 := Aside0.mk hr0_6
  have HC0_6 := Aside0.mk hc0_6
  clear hr0_6 hc0_6
  have HB := Aside0.mk (Below.refl w.heap.size w)
  have H : ((laws_szConstraint.f k a0_0 a0_1 a0_2 a0_3 a0_4 l0_5 l0_6 a0_7 1048576).bind fun t3002 => (if t3002 < 0 then (some true) else ((laws_toConstraint.f k a0_0 a0_1 a0_2 a0_3 a0_4 l0_5 l0_6 a0_7).bind fun bt3003 => ((spec_FormatConstraint.f k bt3003.1 bt3003.2.1 bt3003.2.2.1 bt3003.2.2.2.1 bt3003.2.2.2.2.1 bt3003.2.2.2.2.2.1 bt3003.2.2.2.2.2.2.1 bt3003.2.2.2.2.2.2.2).bind fun t3015 => ((laws_toConstraint.f k a0_0 a0_1 a0_2 a0_3 a0_4 l0_5 l0_6 a0_7).bind fun bt3016 => ((impl_FormatConstraint.f k bt3016.1 bt3016.2.1 bt3016.2.2.1 bt3016.2.2.2.1 bt3016.2.2.2.2.1 bt3016.2.2.2.2.2.1 bt3016.2.2.2.2.2.2.1 bt3016.2.2.2.2.2.2.2).bind fun t3029 => (if t3029.toList = t3015.toList then ((laws_toConstraint.f k a0_0 a0_1 a0_2 a0_3 a0_4 l0_5 l0_6 a0_7).bind fun bt3030 => ((laws_eqConstraint.f k bt3016.1 bt3016.2.1 bt3016.2.2.1 bt3016.2.2.2.1 bt3016.2.2.2.2.1 bt3016.2.2.2.2.2.1 bt3016.2.2.2.2.2.2.1 bt3016.2.2.2.2.2.2.2 bt3030.1 bt3030.2.1 bt3030.2.2.1 bt3030.2.2.2.1 bt3030.2.2.2.2.1 bt3030.2.2.2.2.2.1 bt3030.2.2.2.2.2.2.1 bt3030.2.2.2.2.2.2.2).bind fun t3042 => (if t3042 = true then (some true) else (some false)))) else (some false)))))))) = some r := h
  clear h
  replace H := Option.bind_eq_some_iff.mp H
  obtain ⟨t3002, A20, H⟩ := H
  replace H : (if t3002 < 0 then (some true) else ((laws_toConstraint.f k a0_0 a0_1 a0_2 a0_3 a0_4 l0_5 l0_6 a0_7).bind fun bt3003 => ((spec_FormatConstraint.f k bt3003.1 bt3003.2.1 bt3003.2.2.1 bt3003.2.2.2.1 bt3003.2.2.2.2.1 bt3003.2.2.2.2.2.1 bt3003.2.2.2.2.2.2.1 bt3003.2.2.2.2.2.2.2).bind fun t3015 => ((laws_toConstraint.f k a0_0 a0_1 a0_2 a0_3 a0_4 l0_5 l0_6 a0_7).bind fun bt3016 => ((impl_FormatConstraint.f k bt3016.1 bt3016.2.1 bt3016.2.2.1 bt3016.2.2.2.1 bt3016.2.2.2.2.1 bt3016.2.2.2.2.2.1 bt3016.2.2.2.2.2.2.1 bt3016.2.2.2.2.2.2.2).bind fun t3029 => (if t3029.toList = t3015.toList then ((laws_toConstraint.f k a0_0 a0_1 a0_2 a0_3 a0_4 l0_5 l0_6 a0_7).bind fun bt3030 => ((laws_eqConstraint.f k bt3016.1 bt3016.2.1 bt3016.2.2.1 bt3016.2.2.2.1 bt3016.2.2.2.2.1 bt3016.2.2.2.2.2.1 bt3016.2.2.2.2.2.2.1 bt3016.2.2.2.2.2.2.2 bt3030.1 bt3030.2.1 bt3030.2.2.1 bt3030.2.2.2.1 bt3030.2.2.2.2.1 bt3030.2.2.2.2.2.1 bt3030.2.2.2.2.2.2.1 bt3030.2.2.2.2.2.2.2).bind fun t3042 => (if t3042 = true then (some true) else (some false)))) else (some false))))))) = some r := H
  have A2 := Aside0.mk A20
  clear A20
  by_cases c3 : t3002 < 0
  · rw [if_pos c3] at H
    have c3b0 : decide (t3002 < 0) = true := decide_eq_true c3
    clear c3
    obtain rfl := Option.some.inj H
    go_enter Tryd.func3, Tryd.ntmps3
    go_wp2_with (first | ((with_reducible refine gate_dst (N := 1) rfl ?_); refine box_event ?hg (N := 1) ?hd (cs := #[.int .i64 a0_0, .string a0_1, .string a0_2, .int .i64 a0_3, .string a0_4, .slice A0_5 l0_5.length c0_5, .slice A0_6 l0_6.length c0_6, .int .i64 a0_7]) (t := 27) ?hr ?_; (case hd => rfl); (case hg => rfl); (case hr => first | (go_simp; done) | (go_simp; rfl)); intro gb3001 hg w4 hbox hb; have n0_ := Aside0.mk (below_step (by repeat (first | (with_reducible first | exact HB.out | apply below_alloc | apply pw_below_drewN | apply below_drew1 | refine below_set ?_ (Aside0.out (by assumption))) | exact HB.out)) hb); have n1_ := Aside0.mk (hbox); have n2_ := Aside0.mk ((by rw [hg]; exact (below_size (by repeat (first | (with_reducible first | exact HB.out | apply below_alloc | apply pw_below_drewN | apply below_drew1 | refine below_set ?_ (Aside0.out (by assumption))) | exact HB.out))) : w.heap.size ≤ gb3001)); have n3_ := Aside0.mk ((by rw [hg]; exact (below_size (by repeat (first | (with_reducible first | exact HB.out | apply below_alloc | apply pw_below_drewN | apply below_drew1 | refine below_set ?_ (Aside0.out (by assumption))) | exact HB.out))) : w.heap.size ≤ gb3001)); clear HB; have HB := n0_; have BK3001 := n1_; have GW3001 := n2_; have GE3001 := n3_; clear n0_ n1_ n2_ n3_; clear hb hbox hg; obtain ⟨hcz5_0, hcz5_1, hcz5_2, hcz5_3, hcz5_4, hcz5_5, hcz5_6, hcz5_7, hfz5_0, hfz5_1, hfz5_2, hfz5_3, hfz5_4, hfz5_5, hfz5_6, hfz5_7⟩ := blk8 BK3001.out) | ((with_reducible refine gate_callee (f := 5) rfl ?_); refine goesL_ (some 9) rfl rfl Tryd.func5 (by kernel_rfl) rfl #[.agg #[.int .i64 a0_0, .string a0_1, .string a0_2, .int .i64 a0_3, .string a0_4, .slice A0_5 l0_5.length c0_5, .slice A0_6 l0_6.length c0_6, .int .i64 a0_7], .int .i64 1048576] rfl (by (try simp only [List.map_toArray, List.map_cons, List.map_nil]); first | done | rfl | (simp only [List.length_drop, List.length_take]; rfl)) ?_; (with_reducible refine (laws_szConstraint.calls k a0_0 a0_1 a0_2 a0_3 a0_4 _ _ l0_5 _ _ l0_6 a0_7 1048576 t3002 _ ?side1 ?side2 ?side3 ?side4 A2.out).mono ?_); (case side1 => repeat (first | exact (Kd.C_below HR0_5.out HB.out) | (with_reducible refine Kd.C_alloc ?_ _) | (with_reducible refine Kd.C_drewN ?_ _) | (with_reducible refine Kd.C_drew ?_))); (case side2 => exact HC0_5.out); (case side3 => repeat (first | exact (Kd.C_below HR0_6.out HB.out) | (with_reducible refine Kd.C_alloc ?_ _) | (with_reducible refine Kd.C_drewN ?_ _) | (with_reducible refine Kd.C_drew ?_))); (case side4 => exact HC0_6.out); rintro e w6 ⟨rfl, hb⟩; refine ⟨_, rfl, ?_⟩; have n0_ := Aside0.mk (blk_below (g := gb3001) (o := .cells #[.int .i64 a0_0, .string a0_1, .string a0_2, .int .i64 a0_3, .string a0_4, .slice A0_5 l0_5.length c0_5, .slice A0_6 l0_6.length c0_6, .int .i64 a0_7] 27 (0, 0)) (by (with_reducible repeat (first | refine blk_drewN ?_ _ | refine blk_drew ?_ | refine blk_alloc ?_ _)); exact BK3001.out) hb); have n1_ := Aside0.mk (below_step (by repeat (first | (with_reducible first | exact HB.out | apply below_alloc | apply pw_below_drewN | apply below_drew1 | refine below_set ?_ (Aside0.out (by assumption))) | exact HB.out)) hb); clear BK3001; clear HB; have BK3001 := n0_; have HB := n1_; clear n0_ n1_; (try clear hb); (try clear hb2); (try clear hk); (try clear hi)))
    go_ret
    exact ⟨by first | rfl | (simp [errW_none, errW_some] <;> rfl) | (simp [*, errW_none, errW_some] <;> rfl), by repeat (first | (with_reducible first | exact HB.out | apply below_alloc | apply pw_below_drewN | apply below_drew1 | refine below_set ?_ (Aside0.out (by assumption))) | exact HB.out)⟩
  rw [if_neg c3] at H
  have c3b0 : decide (t3002 < 0) = false := decide_eq_false c3
  clear c3
  replace H := Option.bind_eq_some_iff.mp H
  obtain ⟨⟨t3003, t3004, t3005, t3006, t3007, t3008, t3011, t3014⟩, A70, H⟩ := H
  replace H : ((spec_FormatConstraint.f k t3003 t3004 t3005 t3006 t3007 t3008 t3011 t3014).bind fun t3015 => ((laws_toConstraint.f k a0_0 a0_1 a0_2 a0_3 a0_4 l0_5 l0_6 a0_7).bind fun bt3016 => ((impl_FormatConstraint.f k bt3016.1 bt3016.2.1 bt3016.2.2.1 bt3016.2.2.2.1 bt3016.2.2.2.2.1 bt3016.2.2.2.2.2.1 bt3016.2.2.2.2.2.2.1 bt3016.2.2.2.2.2.2.2).bind fun t3029 => (if t3029.toList = t3015.toList then ((laws_toConstraint.f k a0_0 a0_1 a0_2 a0_3 a0_4 l0_5 l0_6 a0_7).bind fun bt3030 => ((laws_eqConstraint.f k bt3016.1 bt3016.2.1 bt3016.2.2.1 bt3016.2.2.2.1 bt3016.2.2.2.2.1 bt3016.2.2.2.2.2.1 bt3016.2.2.2.2.2.2.1 bt3016.2.2.2.2.2.2.2 bt3030.1 bt3030.2.1 bt3030.2.2.1 bt3030.2.2.2.1 bt3030.2.2.2.2.1 bt3030.2.2.2.2.2.1 bt3030.2.2.2.2.2.2.1 bt3030.2.2.2.2.2.2.2).bind fun t3042 => (if t3042 = true then (some true) else (some false)))) else (some false))))) = some r := H
  have A7 := Aside0.mk A70
  clear A70
  replace H := Option.bind_eq_some_iff.mp H
  obtain ⟨t3015, A80, H⟩ := H
  replace H : ((laws_toConstraint.f k a0_0 a0_1 a0_2 a0_3 a0_4 l0_5 l0_6 a0_7).bind fun bt3016 => ((impl_FormatConstraint.f k bt3016.1 bt3016.2.1 bt3016.2.2.1 bt3016.2.2.2.1 bt3016.2.2.2.2.1 bt3016.2.2.2.2.2.1 bt3016.2.2.2.2.2.2.1 bt3016.2.2.2.2.2.2.2).bind fun t3029 => (if t3029.toList = t3015.toList then ((laws_toConstraint.f k a0_0 a0_1 a0_2 a0_3 a0_4 l0_5 l0_6 a0_7).bind fun bt3030 => ((laws_eqConstraint.f k bt3016.1 bt3016.2.1 bt3016.2.2.1 bt3016.2.2.2.1 bt3016.2.2.2.2.1 bt3016.2.2.2.2.2.1 bt3016.2.2.2.2.2.2.1 bt3016.2.2.2.2.2.2.2 bt3030.1 bt3030.2.1 bt3030.2.2.1 bt3030.2.2.2.1 bt3030.2.2.2.2.1 bt3030.2.2.2.2.2.1 bt3030.2.2.2.2.2.2.1 bt3030.2.2.2.2.2.2.2).bind fun t3042 => (if t3042 = true then (some true) else (some false)))) else (some false)))) = some r := H
  have A8 := Aside0.mk A80
  clear A80
  replace H := Option.bind_eq_some_iff.mp H
  obtain ⟨⟨t3016, t3017, t3018, t3019, t3020, t3021, t3024, t3027⟩, A90, H⟩ := H
  replace H : ((impl_FormatConstraint.f k t3016 t3017 t3018 t3019 t3020 t3021 t3024 t3027).bind fun t3029 => (if t3029.toList = t3015.toList then ((laws_toConstraint.f k a0_0 a0_1 a0_2 a0_3 a0_4 l0_5 l0_6 a0_7).bind fun bt3030 => ((laws_eqConstraint.f k t3016 t3017 t3018 t3019 t3020 t3021 t3024 t3027 bt3030.1 bt3030.2.1 bt3030.2.2.1 bt3030.2.2.2.1 bt3030.2.2.2.2.1 bt3030.2.2.2.2.2.1 bt3030.2.2.2.2.2.2.1 bt3030.2.2.2.2.2.2.2).bind fun t3042 => (if t3042 = true then (some true) else (some false)))) else (some false))) = some r := H
  have A9 := Aside0.mk A90
  clear A90
  replace H := Option.bind_eq_some_iff.mp H
  obtain ⟨t3029, A100, H⟩ := H
  replace H : (if t3029.toList = t3015.toList then ((laws_toConstraint.f k a0_0 a0_1 a0_2 a0_3 a0_4 l0_5 l0_6 a0_7).bind fun bt3030 => ((laws_eqConstraint.f k t3016 t3017 t3018 t3019 t3020 t3021 t3024 t3027 bt3030.1 bt3030.2.1 bt3030.2.2.1 bt3030.2.2.2.1 bt3030.2.2.2.2.1 bt3030.2.2.2.2.2.1 bt3030.2.2.2.2.2.2.1 bt3030.2.2.2.2.2.2.2).bind fun t3042 => (if t3042 = true then (some true) else (some false)))) else (some false)) = some r := H
  have A10 := Aside0.mk A100
  clear A100
  by_cases c11 : t3029.toList = t3015.toList
  rw [if_pos c11] at H
  have c11b0 : (t3029.toList == t3015.toList) = true := beq_iff_eq.mpr c11
  have c11b1 : (t3029.toList != t3015.toList) = false := bne_eq_false_iff_eq.mpr c11
  clear c11
  replace H := Option.bind_eq_some_iff.mp H
  obtain ⟨⟨t3030, t3031, t3032, t3033, t3034, t3035, t3038, t3041⟩, A120, H⟩ := H
  replace H : ((laws_eqConstraint.f k t3016 t3017 t3018 t3019 t3020 t3021 t3024 t3027 t3030 t3031 t3032 t3033 t3034 t3035 t3038 t3041).bind fun t3042 => (if t3042 = true then (some true) else (some false))) = some r := H
  have A12 := Aside0.mk A120
  clear A120
  replace H := Option.bind_eq_some_iff.mp H
  obtain ⟨t3042, A130, H⟩ := H
  replace H : (if t3042 = true then (some true) else (some false)) = some r := H
  have A13 := Aside0.mk A130
  clear A130
  by_cases c14 : t3042 = true
  · subst c14
    have H1 : (some true) = some r := by rw [if_pos rfl] at H; exact H
    clear H
    have H := H1
    clear H1
    obtain rfl := Option.some.inj H
    go_enter Tryd.func3, Tryd.ntmps3
    try go_wp2_with (first | ((with_reducible refine gate_dst (N := 1) rfl ?_); refine box_event ?hg (N := 1) ?hd (cs := #[.int .i64 a0_0, .string a0_1, .string a0_2, .int .i64 a0_3, .string a0_4, .slice A0_5 l0_5.length c0_5, .slice A0_6 l0_6.length c0_6, .int .i64 a0_7]) (t := 27) ?hr ?_; (case hd => rfl); (case hg => rfl); (case hr => first | (go_simp; done) | (go_simp; rfl)); intro gb3001 hg w15 hbox hb; have n0_ := Aside0.mk (below_step (by repeat (first | (with_reducible first | exact HB.out | apply below_alloc | apply pw_below_drewN | apply below_drew1 | refine below_set ?_ (Aside0.out (by assumption))) | exact HB.out)) hb); have n1_ := Aside0.mk (hbox); have n2_ := Aside0.mk ((by rw [hg]; exact (below_size (by repeat (first | (with_reducible first | exact HB.out | apply below_alloc | apply pw_below_drewN | apply below_drew1 | refine below_set ?_ (Aside0.out (by assumption))) | exact HB.out))) : w.heap.size ≤ gb3001)); have n3_ := Aside0.mk ((by rw [hg]; exact (below_size (by repeat (first | (with_reducible first | exact HB.out | apply below_alloc | apply pw_below_drewN | apply below_drew1 | refine below_set ?_ (Aside0.out (by assumption))) | exact HB.out))) : w.heap.size ≤ gb3001)); clear HB; have HB := n0_; have BK3001 := n1_; have GW3001 := n2_; have GE3001 := n3_; clear n0_ n1_ n2_ n3_; clear hb hbox hg; obtain ⟨hcz16_0, hcz16_1, hcz16_2, hcz16_3, hcz16_4, hcz16_5, hcz16_6, hcz16_7, hfz16_0, hfz16_1, hfz16_2, hfz16_3, hfz16_4, hfz16_5, hfz16_6, hfz16_7⟩ := blk8 BK3001.out) | ((with_reducible refine gate_callee (f := 5) rfl ?_); refine goesL_ (some 9) rfl rfl Tryd.func5 (by kernel_rfl) rfl #[.agg #[.int .i64 a0_0, .string a0_1, .string a0_2, .int .i64 a0_3, .string a0_4, .slice A0_5 l0_5.length c0_5, .slice A0_6 l0_6.length c0_6, .int .i64 a0_7], .int .i64 1048576] rfl (by (try simp only [List.map_toArray, List.map_cons, List.map_nil]); first | done | rfl | (simp only [List.length_drop, List.length_take]; rfl)) ?_; (with_reducible refine (laws_szConstraint.calls k a0_0 a0_1 a0_2 a0_3 a0_4 _ _ l0_5 _ _ l0_6 a0_7 1048576 t3002 _ ?side1 ?side2 ?side3 ?side4 A2.out).mono ?_); (case side1 => repeat (first | exact (Kd.C_below HR0_5.out HB.out) | (with_reducible refine Kd.C_alloc ?_ _) | (with_reducible refine Kd.C_drewN ?_ _) | (with_reducible refine Kd.C_drew ?_))); (case side2 => exact HC0_5.out); (case side3 => repeat (first | exact (Kd.C_below HR0_6.out HB.out) | (with_reducible refine Kd.C_alloc ?_ _) | (with_reducible refine Kd.C_drewN ?_ _) | (with_reducible refine Kd.C_drew ?_))); (case side4 => exact HC0_6.out); rintro e w17 ⟨rfl, hb⟩; refine ⟨_, rfl, ?_⟩; have n0_ := Aside0.mk (blk_below (g := gb3001) (o := .cells #[.int .i64 a0_0, .string a0_1, .string a0_2, .int .i64 a0_3, .string a0_4, .slice A0_5 l0_5.length c0_5, .slice A0_6 l0_6.length c0_6, .int .i64 a0_7] 27 (0, 0)) (by (with_reducible repeat (first | refine blk_drewN ?_ _ | refine blk_drew ?_ | refine blk_alloc ?_ _)); exact BK3001.out) hb); have n1_ := Aside0.mk (below_step (by repeat (first | (with_reducible first | exact HB.out | apply below_alloc | apply pw_below_drewN | apply below_drew1 | refine below_set ?_ (Aside0.out (by assumption))) | exact HB.out)) hb); clear BK3001; clear HB; have BK3001 := n0_; have HB := n1_; clear n0_ n1_; (try clear hb); (try clear hb2); (try clear hk); (try clear hi); obtain ⟨hcz18_0, hcz18_1, hcz18_2, hcz18_3, hcz18_4, hcz18_5, hcz18_6, hcz18_7, hfz18_0, hfz18_1, hfz18_2, hfz18_3, hfz18_4, hfz18_5, hfz18_6, hfz18_7⟩ := blk8 BK3001.out) | ((with_reducible refine gate_callee (f := 7) rfl ?_); refine goesL_ (some 13) rfl rfl Tryd.func7 (by kernel_rfl) rfl #[.agg #[.int .i64 a0_0, .string a0_1, .string a0_2, .int .i64 a0_3, .string a0_4, .slice A0_5 l0_5.length c0_5, .slice A0_6 l0_6.length c0_6, .int .i64 a0_7]] rfl (by (try simp only [List.map_toArray, List.map_cons, List.map_nil]); first | done | rfl | (simp only [List.length_drop, List.length_take]; rfl)) ?_; (with_reducible refine (laws_toConstraint.calls k a0_0 a0_1 a0_2 a0_3 a0_4 _ _ l0_5 _ _ l0_6 a0_7 t3003 t3004 t3005 t3006 t3007 t3008 t3011 t3014 _ ?side1 ?side2 ?side3 ?side4 A7.out).mono ?_); (case side1 => repeat (first | exact (Kd.C_below HR0_5.out HB.out) | (with_reducible refine Kd.C_alloc ?_ _) | (with_reducible refine Kd.C_drewN ?_ _) | (with_reducible refine Kd.C_drew ?_))); (case side2 => exact HC0_5.out); (case side3 => repeat (first | exact (Kd.C_below HR0_6.out HB.out) | (with_reducible refine Kd.C_alloc ?_ _) | (with_reducible refine Kd.C_drewN ?_ _) | (with_reducible refine Kd.C_drew ?_))); (case side4 => exact HC0_6.out); rintro e w19 ⟨v3009, v3012, rfl, ho0, ho1, hb⟩; refine ⟨_, rfl, ?_⟩; have n0_ := Aside0.mk (Kd.R_lower ho0 (below_size (by repeat (first | (with_reducible first | exact HB.out | apply below_alloc | apply pw_below_drewN | apply below_drew1 | refine below_set ?_ (Aside0.out (by assumption))) | exact HB.out)))); have n1_ := Aside0.mk (Kd.R_lower ho1 (below_size (by repeat (first | (with_reducible first | exact HB.out | apply below_alloc | apply pw_below_drewN | apply below_drew1 | refine below_set ?_ (Aside0.out (by assumption))) | exact HB.out)))); have n2_ := Aside0.mk (blk_below (g := gb3001) (o := .cells #[.int .i64 a0_0, .string a0_1, .string a0_2, .int .i64 a0_3, .string a0_4, .slice A0_5 l0_5.length c0_5, .slice A0_6 l0_6.length c0_6, .int .i64 a0_7] 27 (0, 0)) (by (with_reducible repeat (first | refine blk_drewN ?_ _ | refine blk_drew ?_ | refine blk_alloc ?_ _)); exact BK3001.out) hb); have n3_ := Aside0.mk (below_step (by repeat (first | (with_reducible first | exact HB.out | apply below_alloc | apply pw_below_drewN | apply below_drew1 | refine below_set ?_ (Aside0.out (by assumption))) | exact HB.out)) hb); clear BK3001; clear HB; have HO3010 := n0_; have HO3013 := n1_; have BK3001 := n2_; have HB := n3_; clear n0_ n1_ n2_ n3_; (try clear hb); (try clear hb2); (try clear hk); (try clear hi); (try clear ho0); (try clear ho1); obtain ⟨Ao20, co20, eo20⟩ := Kd.R_slice HO3010.out; subst eo20; obtain ⟨Ao21, co21, eo21⟩ := Kd.R_slice HO3013.out; subst eo21) | ((with_reducible refine gate_callee (f := 6) rfl ?_); refine goesL_ (some 14) rfl rfl Tryd.func6 (by kernel_rfl) rfl #[.agg #[.int .i64 t3003, .string t3004, .string t3005, .int .i64 t3006, .string t3007, .slice Ao20 t3008.length co20, .slice Ao21 t3011.length co21, .int .i64 t3014]] rfl (by (try simp only [List.map_toArray, List.map_cons, List.map_nil]); first | done | rfl | (simp only [List.length_drop, List.length_take]; rfl)) ?_; (with_reducible refine (spec_FormatConstraint.calls k t3003 t3004 t3005 t3006 t3007 _ _ t3008 _ _ t3011 t3014 t3015 _ ?side1 ?side2 ?side3 ?side4 A8.out).mono ?_); (case side1 => repeat (first | exact (Kd.R_reads' HO3010.out).2.2 | (with_reducible refine Kd.C_alloc ?_ _) | (with_reducible refine Kd.C_drewN ?_ _) | (with_reducible refine Kd.C_drew ?_))); (case side2 => exact (Kd.R_reads' HO3010.out).2.1); (case side3 => repeat (first | exact (Kd.R_reads' HO3013.out).2.2 | (with_reducible refine Kd.C_alloc ?_ _) | (with_reducible refine Kd.C_drewN ?_ _) | (with_reducible refine Kd.C_drew ?_))); (case side4 => exact (Kd.R_reads' HO3013.out).2.1); rintro e w22 ⟨rfl, hb⟩; refine ⟨_, rfl, ?_⟩; have n0_ := Aside0.mk (Kd.R_below (by (with_reducible repeat (first | apply Kd.R_alloc | apply Kd.R_drewN | apply Kd.R_drew)); exact HO3010.out) hb); have n1_ := Aside0.mk (Kd.R_below (by (with_reducible repeat (first | apply Kd.R_alloc | apply Kd.R_drewN | apply Kd.R_drew)); exact HO3013.out) hb); have n2_ := Aside0.mk (blk_below (g := gb3001) (o := .cells #[.int .i64 a0_0, .string a0_1, .string a0_2, .int .i64 a0_3, .string a0_4, .slice A0_5 l0_5.length c0_5, .slice A0_6 l0_6.length c0_6, .int .i64 a0_7] 27 (0, 0)) (by (with_reducible repeat (first | refine blk_drewN ?_ _ | refine blk_drew ?_ | refine blk_alloc ?_ _)); exact BK3001.out) hb); have n3_ := Aside0.mk (below_step (by repeat (first | (with_reducible first | exact HB.out | apply below_alloc | apply pw_below_drewN | apply below_drew1 | refine below_set ?_ (Aside0.out (by assumption))) | exact HB.out)) hb); clear HO3010; clear HO3013; clear BK3001; clear HB; have HO3010 := n0_; have HO3013 := n1_; have BK3001 := n2_; have HB := n3_; clear n0_ n1_ n2_ n3_; (try clear hb); (try clear hb2); (try clear hk); (try clear hi); obtain ⟨hcz23_0, hcz23_1, hcz23_2, hcz23_3, hcz23_4, hcz23_5, hcz23_6, hcz23_7, hfz23_0, hfz23_1, hfz23_2, hfz23_3, hfz23_4, hfz23_5, hfz23_6, hfz23_7⟩ := blk8 BK3001.out) | ((with_reducible refine gate_callee (f := 7) rfl ?_); refine goesL_ (some 16) rfl rfl Tryd.func7 (by kernel_rfl) rfl #[.agg #[.int .i64 a0_0, .string a0_1, .string a0_2, .int .i64 a0_3, .string a0_4, .slice A0_5 l0_5.length c0_5, .slice A0_6 l0_6.length c0_6, .int .i64 a0_7]] rfl (by (try simp only [List.map_toArray, List.map_cons, List.map_nil]); first | done | rfl | (simp only [List.length_drop, List.length_take]; rfl)) ?_; (with_reducible refine (laws_toConstraint.calls k a0_0 a0_1 a0_2 a0_3 a0_4 _ _ l0_5 _ _ l0_6 a0_7 t3016 t3017 t3018 t3019 t3020 t3021 t3024 t3027 _ ?side1 ?side2 ?side3 ?side4 A9.out).mono ?_); (case side1 => repeat (first | exact (Kd.C_below HR0_5.out HB.out) | (with_reducible refine Kd.C_alloc ?_ _) | (with_reducible refine Kd.C_drewN ?_ _) | (with_reducible refine Kd.C_drew ?_))); (case side2 => exact HC0_5.out); (case side3 => repeat (first | exact (Kd.C_below HR0_6.out HB.out) | (with_reducible refine Kd.C_alloc ?_ _) | (with_reducible refine Kd.C_drewN ?_ _) | (with_reducible refine Kd.C_drew ?_))); (case side4 => exact HC0_6.out); rintro e w24 ⟨v3022, v3025, rfl, ho0, ho1, hb⟩; refine ⟨_, rfl, ?_⟩; have n0_ := Aside0.mk (Kd.R_elder' (by (with_reducible repeat (first | apply Kd.R_alloc | apply Kd.R_drewN | apply Kd.R_drew)); exact HO3010.out) (Kd.R_base ho0) hb); have n1_ := Aside0.mk (Kd.R_elder' (by (with_reducible repeat (first | apply Kd.R_alloc | apply Kd.R_drewN | apply Kd.R_drew)); exact HO3013.out) (Kd.R_base ho1) hb); have n2_ := Aside0.mk (Kd.R_lower (Kd.R_new' ho0 (Kd.R_lt (by (with_reducible repeat (first | apply Kd.R_alloc | apply Kd.R_drewN | apply Kd.R_drew)); exact HO3010.out))) (below_size (by repeat (first | (with_reducible first | exact HB.out | apply below_alloc | apply pw_below_drewN | apply below_drew1 | refine below_set ?_ (Aside0.out (by assumption))) | exact HB.out)))); have n3_ := Aside0.mk (Kd.R_lower (Kd.R_new' ho1 (Kd.R_lt (by (with_reducible repeat (first | apply Kd.R_alloc | apply Kd.R_drewN | apply Kd.R_drew)); exact HO3013.out))) (below_size (by repeat (first | (with_reducible first | exact HB.out | apply below_alloc | apply pw_below_drewN | apply below_drew1 | refine below_set ?_ (Aside0.out (by assumption))) | exact HB.out)))); have n4_ := Aside0.mk (blk_below (g := gb3001) (o := .cells #[.int .i64 a0_0, .string a0_1, .string a0_2, .int .i64 a0_3, .string a0_4, .slice A0_5 l0_5.length c0_5, .slice A0_6 l0_6.length c0_6, .int .i64 a0_7] 27 (0, 0)) (by (with_reducible repeat (first | refine blk_drewN ?_ _ | refine blk_drew ?_ | refine blk_alloc ?_ _)); exact BK3001.out) hb); have n5_ := Aside0.mk (below_step (by repeat (first | (with_reducible first | exact HB.out | apply below_alloc | apply pw_below_drewN | apply below_drew1 | refine below_set ?_ (Aside0.out (by assumption))) | exact HB.out)) hb); clear HO3010; clear HO3013; clear BK3001; clear HB; have HO3010 := n0_; have HO3013 := n1_; have HO3023 := n2_; have HO3026 := n3_; have BK3001 := n4_; have HB := n5_; clear n0_ n1_ n2_ n3_ n4_ n5_; (try clear hb); (try clear hb2); (try clear hk); (try clear hi); (try clear ho0); (try clear ho1)) | ((with_reducible refine gate_dst (N := 5) rfl ?_); refine box_event ?hg (N := 5) ?hd (cs := #[.int .i64 0, .string (⟨#[]⟩ : ByteArray), .string (⟨#[]⟩ : ByteArray), .int .i64 0, .string (⟨#[]⟩ : ByteArray), .slice none 0 0, .slice none 0 0, .int .i64 0]) (t := 34) ?hr ?_; (case hd => rfl); (case hg => rfl); (case hr => first | (go_simp; done) | (go_simp; rfl)); intro gb3028 hg w25 hbox hb; have n0_ := Aside0.mk (Kd.R_below (by (with_reducible repeat (first | apply Kd.R_alloc | apply Kd.R_drewN | apply Kd.R_drew)); exact HO3010.out) hb); have n1_ := Aside0.mk (Kd.R_below (by (with_reducible repeat (first | apply Kd.R_alloc | apply Kd.R_drewN | apply Kd.R_drew)); exact HO3013.out) hb); have n2_ := Aside0.mk (Kd.R_below (by (with_reducible repeat (first | apply Kd.R_alloc | apply Kd.R_drewN | apply Kd.R_drew)); exact HO3023.out) hb); have n3_ := Aside0.mk (Kd.R_below (by (with_reducible repeat (first | apply Kd.R_alloc | apply Kd.R_drewN | apply Kd.R_drew)); exact HO3026.out) hb); have n4_ := Aside0.mk (blk_below (g := gb3001) (o := .cells #[.int .i64 a0_0, .string a0_1, .string a0_2, .int .i64 a0_3, .string a0_4, .slice A0_5 l0_5.length c0_5, .slice A0_6 l0_6.length c0_6, .int .i64 a0_7] 27 (0, 0)) (by (with_reducible repeat (first | refine blk_drewN ?_ _ | refine blk_drew ?_ | refine blk_alloc ?_ _)); exact BK3001.out) hb); have n5_ := Aside0.mk (below_step (by repeat (first | (with_reducible first | exact HB.out | apply below_alloc | apply pw_below_drewN | apply below_drew1 | refine below_set ?_ (Aside0.out (by assumption))) | exact HB.out)) hb); have n6_ := Aside0.mk (hbox); have n7_ := Aside0.mk ((by rw [hg]; exact (below_size (by repeat (first | (with_reducible first | exact HB.out | apply below_alloc | apply pw_below_drewN | apply below_drew1 | refine below_set ?_ (Aside0.out (by assumption))) | exact HB.out))) : w.heap.size ≤ gb3028)); have n8_ := Aside0.mk ((by rw [hg]; exact (below_size (by repeat (first | (with_reducible first | exact HB.out | apply below_alloc | apply pw_below_drewN | apply below_drew1 | refine below_set ?_ (Aside0.out (by assumption))) | exact HB.out))) : w.heap.size ≤ gb3028)); have n9_ := Aside0.mk ((by rw [hg]; exact Nat.ne_of_lt (blk_lt (g := gb3001) (o := .cells #[.int .i64 a0_0, .string a0_1, .string a0_2, .int .i64 a0_3, .string a0_4, .slice A0_5 l0_5.length c0_5, .slice A0_6 l0_6.length c0_6, .int .i64 a0_7] 27 (0, 0)) (by (with_reducible repeat (first | refine blk_drewN ?_ _ | refine blk_drew ?_ | refine blk_alloc ?_ _)); exact BK3001.out)) : gb3001 ≠ gb3028)); have n10_ := Aside0.mk ((by rw [hg]; exact Nat.ne_of_gt (blk_lt (g := gb3001) (o := .cells #[.int .i64 a0_0, .string a0_1, .string a0_2, .int .i64 a0_3, .string a0_4, .slice A0_5 l0_5.length c0_5, .slice A0_6 l0_6.length c0_6, .int .i64 a0_7] 27 (0, 0)) (by (with_reducible repeat (first | refine blk_drewN ?_ _ | refine blk_drew ?_ | refine blk_alloc ?_ _)); exact BK3001.out)) : gb3028 ≠ gb3001)); clear HO3010; clear HO3013; clear HO3023; clear HO3026; clear BK3001; clear HB; have HO3010 := n0_; have HO3013 := n1_; have HO3023 := n2_; have HO3026 := n3_; have BK3001 := n4_; have HB := n5_; have BK3028 := n6_; have GW3028 := n7_; have GE3028 := n8_; have NB3001_3028 := n9_; have NB3028_3001 := n10_; clear n0_ n1_ n2_ n3_ n4_ n5_ n6_ n7_ n8_ n9_ n10_; clear hb hbox hg; have hnb26 := NB3028_3001.out; have hnc26 := NB3001_3028.out; obtain ⟨hcz27_0, hcz27_1, hcz27_2, hcz27_3, hcz27_4, hcz27_5, hcz27_6, hcz27_7, hfz27_0, hfz27_1, hfz27_2, hfz27_3, hfz27_4, hfz27_5, hfz27_6, hfz27_7⟩ := blk8 BK3028.out; obtain ⟨Ao28, co28, eo28⟩ := Kd.R_slice HO3023.out; subst eo28; obtain ⟨Ao29, co29, eo29⟩ := Kd.R_slice HO3026.out; subst eo29) | ((with_reducible refine gate_callee (f := 8) rfl ?_); refine goesL_ (some 18) rfl rfl Tryd.func8 (by kernel_rfl) rfl #[.agg #[.int .i64 t3016, .string t3017, .string t3018, .int .i64 t3019, .string t3020, .slice Ao28 t3021.length co28, .slice Ao29 t3024.length co29, .int .i64 t3027]] rfl (by (try simp only [List.map_toArray, List.map_cons, List.map_nil]); first | done | rfl | (simp only [List.length_drop, List.length_take]; rfl)) ?_; (with_reducible refine (impl_FormatConstraint.calls k t3016 t3017 t3018 t3019 t3020 _ _ t3021 _ _ t3024 t3027 t3029 _ ?side1 ?side2 ?side3 ?side4 A10.out (HTb.out.below (by repeat (first | (with_reducible first | exact HB.out | apply below_alloc | apply pw_below_drewN | apply below_drew1 | refine below_set ?_ (Aside0.out (by assumption))) | exact HB.out)))).mono ?_); (case side1 => refine (Kd.R_reads' (e := 32) (base := w.heap.size) (ok := fun k_ => (True ∧ some k_ ≠ (.slice Ao20 t3008.length co20 : Value).ownBlock)) (n := t3021.length) (c := co28) ?_).2.2; exact (by (with_reducible repeat (first | apply Kd.R_alloc | apply Kd.R_drewN | apply Kd.R_drew)); exact (Kd.R_mono (Kd.R_far (p := ⟨gb3028, 7, none⟩) (Kd.R_far (p := ⟨gb3028, 6, none⟩) (Kd.R_far (p := ⟨gb3028, 5, none⟩) (Kd.R_far (p := ⟨gb3028, 4, none⟩) (Kd.R_far (p := ⟨gb3028, 3, none⟩) (Kd.R_far (p := ⟨gb3028, 2, none⟩) (Kd.R_far (p := ⟨gb3028, 1, none⟩) (Kd.R_far (p := ⟨gb3028, 0, none⟩) (Kd.R_types HO3023.out BK3028.out (by decide)) (fun _ hk => hk.2) (.int .i64 t3016)) (fun _ hk => hk.2) (.string t3017)) (fun _ hk => hk.2) (.string t3018)) (fun _ hk => hk.2) (.int .i64 t3019)) (fun _ hk => hk.2) (.string t3020)) (fun _ hk => hk.2) (.slice Ao28 t3021.length co28)) (fun _ hk => hk.2) (.slice Ao29 t3024.length co29)) (fun _ hk => hk.2) (.int .i64 t3027)) (fun _ h_ => h_.1)))); (case side2 => exact (Kd.R_reads' HO3023.out).2.1); (case side3 => refine (Kd.R_reads' (e := 3) (base := w.heap.size) (ok := fun k_ => (True ∧ some k_ ≠ (.slice Ao21 t3011.length co21 : Value).ownBlock)) (n := t3024.length) (c := co29) ?_).2.2; exact (by (with_reducible repeat (first | apply Kd.R_alloc | apply Kd.R_drewN | apply Kd.R_drew)); exact (Kd.R_mono (Kd.R_far (p := ⟨gb3028, 7, none⟩) (Kd.R_far (p := ⟨gb3028, 6, none⟩) (Kd.R_far (p := ⟨gb3028, 5, none⟩) (Kd.R_far (p := ⟨gb3028, 4, none⟩) (Kd.R_far (p := ⟨gb3028, 3, none⟩) (Kd.R_far (p := ⟨gb3028, 2, none⟩) (Kd.R_far (p := ⟨gb3028, 1, none⟩) (Kd.R_far (p := ⟨gb3028, 0, none⟩) (Kd.R_types HO3026.out BK3028.out (by decide)) (fun _ hk => hk.2) (.int .i64 t3016)) (fun _ hk => hk.2) (.string t3017)) (fun _ hk => hk.2) (.string t3018)) (fun _ hk => hk.2) (.int .i64 t3019)) (fun _ hk => hk.2) (.string t3020)) (fun _ hk => hk.2) (.slice Ao28 t3021.length co28)) (fun _ hk => hk.2) (.slice Ao29 t3024.length co29)) (fun _ hk => hk.2) (.int .i64 t3027)) (fun _ h_ => h_.1)))); (case side4 => exact (Kd.R_reads' HO3026.out).2.1); rintro e w30 ⟨rfl, hb⟩; refine ⟨_, rfl, ?_⟩; have n0_ := Aside0.mk (Kd.R_below (by (with_reducible repeat (first | apply Kd.R_alloc | apply Kd.R_drewN | apply Kd.R_drew)); exact (Kd.R_mono (Kd.R_far (p := ⟨gb3028, 7, none⟩) (Kd.R_far (p := ⟨gb3028, 6, none⟩) (Kd.R_far (p := ⟨gb3028, 5, none⟩) (Kd.R_far (p := ⟨gb3028, 4, none⟩) (Kd.R_far (p := ⟨gb3028, 3, none⟩) (Kd.R_far (p := ⟨gb3028, 2, none⟩) (Kd.R_far (p := ⟨gb3028, 1, none⟩) (Kd.R_far (p := ⟨gb3028, 0, none⟩) (Kd.R_types HO3010.out BK3028.out (by decide)) (fun _ hk => hk.2) (.int .i64 t3016)) (fun _ hk => hk.2) (.string t3017)) (fun _ hk => hk.2) (.string t3018)) (fun _ hk => hk.2) (.int .i64 t3019)) (fun _ hk => hk.2) (.string t3020)) (fun _ hk => hk.2) (.slice Ao28 t3021.length co28)) (fun _ hk => hk.2) (.slice Ao29 t3024.length co29)) (fun _ hk => hk.2) (.int .i64 t3027)) (fun _ h_ => h_.1))) hb); have n1_ := Aside0.mk (Kd.R_below (by (with_reducible repeat (first | apply Kd.R_alloc | apply Kd.R_drewN | apply Kd.R_drew)); exact (Kd.R_mono (Kd.R_far (p := ⟨gb3028, 7, none⟩) (Kd.R_far (p := ⟨gb3028, 6, none⟩) (Kd.R_far (p := ⟨gb3028, 5, none⟩) (Kd.R_far (p := ⟨gb3028, 4, none⟩) (Kd.R_far (p := ⟨gb3028, 3, none⟩) (Kd.R_far (p := ⟨gb3028, 2, none⟩) (Kd.R_far (p := ⟨gb3028, 1, none⟩) (Kd.R_far (p := ⟨gb3028, 0, none⟩) (Kd.R_types HO3013.out BK3028.out (by decide)) (fun _ hk => hk.2) (.int .i64 t3016)) (fun _ hk => hk.2) (.string t3017)) (fun _ hk => hk.2) (.string t3018)) (fun _ hk => hk.2) (.int .i64 t3019)) (fun _ hk => hk.2) (.string t3020)) (fun _ hk => hk.2) (.slice Ao28 t3021.length co28)) (fun _ hk => hk.2) (.slice Ao29 t3024.length co29)) (fun _ hk => hk.2) (.int .i64 t3027)) (fun _ h_ => h_.1))) hb); have n2_ := Aside0.mk (Kd.R_below (by (with_reducible repeat (first | apply Kd.R_alloc | apply Kd.R_drewN | apply Kd.R_drew)); exact (Kd.R_mono (Kd.R_far (p := ⟨gb3028, 7, none⟩) (Kd.R_far (p := ⟨gb3028, 6, none⟩) (Kd.R_far (p := ⟨gb3028, 5, none⟩) (Kd.R_far (p := ⟨gb3028, 4, none⟩) (Kd.R_far (p := ⟨gb3028, 3, none⟩) (Kd.R_far (p := ⟨gb3028, 2, none⟩) (Kd.R_far (p := ⟨gb3028, 1, none⟩) (Kd.R_far (p := ⟨gb3028, 0, none⟩) (Kd.R_types HO3023.out BK3028.out (by decide)) (fun _ hk => hk.2) (.int .i64 t3016)) (fun _ hk => hk.2) (.string t3017)) (fun _ hk => hk.2) (.string t3018)) (fun _ hk => hk.2) (.int .i64 t3019)) (fun _ hk => hk.2) (.string t3020)) (fun _ hk => hk.2) (.slice Ao28 t3021.length co28)) (fun _ hk => hk.2) (.slice Ao29 t3024.length co29)) (fun _ hk => hk.2) (.int .i64 t3027)) (fun _ h_ => h_.1))) hb); have n3_ := Aside0.mk (Kd.R_below (by (with_reducible repeat (first | apply Kd.R_alloc | apply Kd.R_drewN | apply Kd.R_drew)); exact (Kd.R_mono (Kd.R_far (p := ⟨gb3028, 7, none⟩) (Kd.R_far (p := ⟨gb3028, 6, none⟩) (Kd.R_far (p := ⟨gb3028, 5, none⟩) (Kd.R_far (p := ⟨gb3028, 4, none⟩) (Kd.R_far (p := ⟨gb3028, 3, none⟩) (Kd.R_far (p := ⟨gb3028, 2, none⟩) (Kd.R_far (p := ⟨gb3028, 1, none⟩) (Kd.R_far (p := ⟨gb3028, 0, none⟩) (Kd.R_types HO3026.out BK3028.out (by decide)) (fun _ hk => hk.2) (.int .i64 t3016)) (fun _ hk => hk.2) (.string t3017)) (fun _ hk => hk.2) (.string t3018)) (fun _ hk => hk.2) (.int .i64 t3019)) (fun _ hk => hk.2) (.string t3020)) (fun _ hk => hk.2) (.slice Ao28 t3021.length co28)) (fun _ hk => hk.2) (.slice Ao29 t3024.length co29)) (fun _ hk => hk.2) (.int .i64 t3027)) (fun _ h_ => h_.1))) hb); have n4_ := Aside0.mk (blk_below (g := gb3001) (o := .cells #[.int .i64 a0_0, .string a0_1, .string a0_2, .int .i64 a0_3, .string a0_4, .slice A0_5 l0_5.length c0_5, .slice A0_6 l0_6.length c0_6, .int .i64 a0_7] 27 (0, 0)) (by (with_reducible repeat (first | refine blk_drewN ?_ _ | refine blk_drew ?_ | refine blk_alloc ?_ _)); refine blk_far ?_ NB3001_3028.out _; (with_reducible repeat (first | refine blk_drewN ?_ _ | refine blk_drew ?_ | refine blk_alloc ?_ _)); refine blk_far ?_ NB3001_3028.out _; (with_reducible repeat (first | refine blk_drewN ?_ _ | refine blk_drew ?_ | refine blk_alloc ?_ _)); refine blk_far ?_ NB3001_3028.out _; (with_reducible repeat (first | refine blk_drewN ?_ _ | refine blk_drew ?_ | refine blk_alloc ?_ _)); refine blk_far ?_ NB3001_3028.out _; (with_reducible repeat (first | refine blk_drewN ?_ _ | refine blk_drew ?_ | refine blk_alloc ?_ _)); refine blk_far ?_ NB3001_3028.out _; (with_reducible repeat (first | refine blk_drewN ?_ _ | refine blk_drew ?_ | refine blk_alloc ?_ _)); refine blk_far ?_ NB3001_3028.out _; (with_reducible repeat (first | refine blk_drewN ?_ _ | refine blk_drew ?_ | refine blk_alloc ?_ _)); refine blk_far ?_ NB3001_3028.out _; (with_reducible repeat (first | refine blk_drewN ?_ _ | refine blk_drew ?_ | refine blk_alloc ?_ _)); refine blk_far ?_ NB3001_3028.out _; (with_reducible repeat (first | refine blk_drewN ?_ _ | refine blk_drew ?_ | refine blk_alloc ?_ _)); exact BK3001.out) hb); have n5_ := Aside0.mk (blk_below (g := gb3028) (o := .cells #[.int .i64 t3016, .string t3017, .string t3018, .int .i64 t3019, .string t3020, .slice Ao28 t3021.length co28, .slice Ao29 t3024.length co29, .int .i64 t3027] 34 (0, 0)) (by (with_reducible repeat (first | refine blk_drewN ?_ _ | refine blk_drew ?_ | refine blk_alloc ?_ _)); refine blk_put (cs := #[.int .i64 t3016, .string t3017, .string t3018, .int .i64 t3019, .string t3020, .slice Ao28 t3021.length co28, .slice Ao29 t3024.length co29, .int .i64 0]) ?_ 7 _ rfl; (with_reducible repeat (first | refine blk_drewN ?_ _ | refine blk_drew ?_ | refine blk_alloc ?_ _)); refine blk_put (cs := #[.int .i64 t3016, .string t3017, .string t3018, .int .i64 t3019, .string t3020, .slice Ao28 t3021.length co28, .slice none 0 0, .int .i64 0]) ?_ 6 _ rfl; (with_reducible repeat (first | refine blk_drewN ?_ _ | refine blk_drew ?_ | refine blk_alloc ?_ _)); refine blk_put (cs := #[.int .i64 t3016, .string t3017, .string t3018, .int .i64 t3019, .string t3020, .slice none 0 0, .slice none 0 0, .int .i64 0]) ?_ 5 _ rfl; (with_reducible repeat (first | refine blk_drewN ?_ _ | refine blk_drew ?_ | refine blk_alloc ?_ _)); refine blk_put (cs := #[.int .i64 t3016, .string t3017, .string t3018, .int .i64 t3019, .string (⟨#[]⟩ : ByteArray), .slice none 0 0, .slice none 0 0, .int .i64 0]) ?_ 4 _ rfl; (with_reducible repeat (first | refine blk_drewN ?_ _ | refine blk_drew ?_ | refine blk_alloc ?_ _)); refine blk_put (cs := #[.int .i64 t3016, .string t3017, .string t3018, .int .i64 0, .string (⟨#[]⟩ : ByteArray), .slice none 0 0, .slice none 0 0, .int .i64 0]) ?_ 3 _ rfl; (with_reducible repeat (first | refine blk_drewN ?_ _ | refine blk_drew ?_ | refine blk_alloc ?_ _)); refine blk_put (cs := #[.int .i64 t3016, .string t3017, .string (⟨#[]⟩ : ByteArray), .int .i64 0, .string (⟨#[]⟩ : ByteArray), .slice none 0 0, .slice none 0 0, .int .i64 0]) ?_ 2 _ rfl; (with_reducible repeat (first | refine blk_drewN ?_ _ | refine blk_drew ?_ | refine blk_alloc ?_ _)); refine blk_put (cs := #[.int .i64 t3016, .string (⟨#[]⟩ : ByteArray), .string (⟨#[]⟩ : ByteArray), .int .i64 0, .string (⟨#[]⟩ : ByteArray), .slice none 0 0, .slice none 0 0, .int .i64 0]) ?_ 1 _ rfl; (with_reducible repeat (first | refine blk_drewN ?_ _ | refine blk_drew ?_ | refine blk_alloc ?_ _)); refine blk_put (cs := #[.int .i64 0, .string (⟨#[]⟩ : ByteArray), .string (⟨#[]⟩ : ByteArray), .int .i64 0, .string (⟨#[]⟩ : ByteArray), .slice none 0 0, .slice none 0 0, .int .i64 0]) ?_ 0 _ rfl; (with_reducible repeat (first | refine blk_drewN ?_ _ | refine blk_drew ?_ | refine blk_alloc ?_ _)); exact BK3028.out) hb); have n6_ := Aside0.mk (below_step (by repeat (first | (with_reducible first | exact HB.out | apply below_alloc | apply pw_below_drewN | apply below_drew1 | refine below_set ?_ (Aside0.out (by assumption))) | exact HB.out)) hb); clear HO3010; clear HO3013; clear HO3023; clear HO3026; clear BK3001; clear BK3028; clear HB; have HO3010 := n0_; have HO3013 := n1_; have HO3023 := n2_; have HO3026 := n3_; have BK3001 := n4_; have BK3028 := n5_; have HB := n6_; clear n0_ n1_ n2_ n3_ n4_ n5_ n6_; (try clear hb); (try clear hb2); (try clear hk); (try clear hi)))
    have n0_ := Aside0.mk (Kd.R_drew HO3010.out)
    have n1_ := Aside0.mk (Kd.R_drew HO3013.out)
    have n2_ := Aside0.mk (Kd.R_drew HO3023.out)
    have n3_ := Aside0.mk (Kd.R_drew HO3026.out)
    have n4_ := Aside0.mk (blk_drew BK3001.out)
    have n5_ := Aside0.mk (blk_drew BK3028.out)
    have n6_ := Aside0.mk (below_drew1 HB.out)
    clear HO3010
    clear HO3013
    clear HO3023
    clear HO3026
    clear BK3001
    clear BK3028
    clear HB
    have HO3010 := n0_
    have HO3013 := n1_
    have HO3023 := n2_
    have HO3026 := n3_
    have BK3001 := n4_
    have BK3028 := n5_
    have HB := n6_
    clear n0_ n1_ n2_ n3_ n4_ n5_ n6_
    refine start_ (n := 5) (S := fun w' => w'.cell? ⟨gb3028, 0, none⟩ = some (.int .i64 t3016) ∧ w'.cell? ⟨gb3028, 1, none⟩ = some (.string t3017) ∧ w'.cell? ⟨gb3028, 2, none⟩ = some (.string t3018) ∧ w'.cell? ⟨gb3028, 3, none⟩ = some (.int .i64 t3019) ∧ w'.cell? ⟨gb3028, 4, none⟩ = some (.string t3020) ∧ w'.cell? ⟨gb3028, 5, none⟩ = some (.slice Ao28 t3021.length co28) ∧ w'.cell? ⟨gb3028, 6, none⟩ = some (.slice Ao29 t3024.length co29) ∧ w'.cell? ⟨gb3028, 7, none⟩ = some (.int .i64 t3027) ∧ w'.cell? ⟨gb3001, 0, none⟩ = some (.int .i64 a0_0) ∧ w'.cell? ⟨gb3001, 1, none⟩ = some (.string a0_1) ∧ w'.cell? ⟨gb3001, 2, none⟩ = some (.string a0_2) ∧ w'.cell? ⟨gb3001, 3, none⟩ = some (.int .i64 a0_3) ∧ w'.cell? ⟨gb3001, 4, none⟩ = some (.string a0_4) ∧ w'.cell? ⟨gb3001, 5, none⟩ = some (.slice A0_5 l0_5.length c0_5) ∧ w'.cell? ⟨gb3001, 6, none⟩ = some (.slice A0_6 l0_6.length c0_6) ∧ w'.cell? ⟨gb3001, 7, none⟩ = some (.int .i64 a0_7)) (ds := []) #[false, false, false, false, false] (by kernel_rfl) rfl rfl ⟨(blk_cell BK3028.out 0).trans rfl, (blk_cell BK3028.out 1).trans rfl, (blk_cell BK3028.out 2).trans rfl, (blk_cell BK3028.out 3).trans rfl, (blk_cell BK3028.out 4).trans rfl, (blk_cell BK3028.out 5).trans rfl, (blk_cell BK3028.out 6).trans rfl, (blk_cell BK3028.out 7).trans rfl, (blk_cell BK3001.out 0).trans rfl, (blk_cell BK3001.out 1).trans rfl, (blk_cell BK3001.out 2).trans rfl, (blk_cell BK3001.out 3).trans rfl, (blk_cell BK3001.out 4).trans rfl, (blk_cell BK3001.out 5).trans rfl, (blk_cell BK3001.out 6).trans rfl, (blk_cell BK3001.out 7).trans rfl⟩ (fun hHeld => ?_)
    generalize w30.drew = w31 at HO3010 HO3013 HO3023 HO3026 BK3001 BK3028 HB hHeld ⊢
    refine take_ (i := 0) (N := some 22) (v := ?_) (a' := ?_) #[true, false, false, false, false] rfl rfl (by kernel_rfl) (fun _ _ _ h => h) (Or.inl ⟨by rfl, ?_⟩) hHeld ?_ ?_
    rotate_left
    · rintro w' ⟨s0, s1, s2, s3, s4, s5, s6, s7, s8, s9, s10, s11, s12, s13, s14, s15⟩
      go_simp
      first | with_reducible rfl | (rw [if_neg (by omega)]; done)
    rotate_left
    · simp only [Act.put, List.setIfInBounds_toArray, List.set_cons_zero, List.set_cons_succ, i64_w, i32_w]
      rfl
    refine take_ (i := 1) (N := some 23) (v := ?_) (a' := ?_) #[true, true, false, false, false] rfl rfl (by kernel_rfl) (fun _ _ _ h => h) (Or.inl ⟨by rfl, ?_⟩) hHeld ?_ ?_
    rotate_left
    · rintro w' ⟨s0, s1, s2, s3, s4, s5, s6, s7, s8, s9, s10, s11, s12, s13, s14, s15⟩
      go_simp
      first | with_reducible rfl | (rw [if_neg (by omega)]; done)
    rotate_left
    · simp only [Act.put, List.setIfInBounds_toArray, List.set_cons_zero, List.set_cons_succ, i64_w, i32_w]
      rfl
    refine one_ (i := 2) (N := some 24) #[true, true, true, false, false] rfl rfl (by kernel_rfl) (by decide) (fun K hK => ?_)
    refine goes_ Tryd.func7 (by kernel_rfl) rfl #[.agg #[.int .i64 a0_0, .string a0_1, .string a0_2, .int .i64 a0_3, .string a0_4, .slice A0_5 l0_5.length c0_5, .slice A0_6 l0_6.length c0_6, .int .i64 a0_7]] (by rfl) rfl rfl (by (try simp only [List.map_toArray, List.map_cons, List.map_nil]); first | done | rfl | (simp only [List.length_drop, List.length_take]; rfl)) ?_
    with_reducible refine (laws_toConstraint.calls k a0_0 a0_1 a0_2 a0_3 a0_4 _ _ l0_5 _ _ l0_6 a0_7 t3030 t3031 t3032 t3033 t3034 t3035 t3038 t3041 _ ?side1 ?side2 ?side3 ?side4 A12.out).mono ?_
    (case side1 => repeat (first | exact (Kd.C_below HR0_5.out HB.out) | (with_reducible refine Kd.C_alloc ?_ _) | (with_reducible refine Kd.C_drewN ?_ _) | (with_reducible refine Kd.C_drew ?_)))
    (case side2 => exact HC0_5.out)
    (case side3 => repeat (first | exact (Kd.C_below HR0_6.out HB.out) | (with_reducible refine Kd.C_alloc ?_ _) | (with_reducible refine Kd.C_drewN ?_ _) | (with_reducible refine Kd.C_drew ?_)))
    (case side4 => exact HC0_6.out)
    rintro e w32 ⟨v3036, v3039, rfl, ho0, ho1, hb⟩
    refine ⟨_, rfl, ?_⟩
    have n0_ := Aside0.mk (Kd.R_elder' (by (with_reducible repeat (first | apply Kd.R_alloc | apply Kd.R_drewN | apply Kd.R_drew)); exact HO3010.out) (Kd.R_base ho0) hb)
    have n1_ := Aside0.mk (Kd.R_elder' (by (with_reducible repeat (first | apply Kd.R_alloc | apply Kd.R_drewN | apply Kd.R_drew)); exact HO3013.out) (Kd.R_base ho1) hb)
    have n2_ := Aside0.mk (Kd.R_elder' (by (with_reducible repeat (first | apply Kd.R_alloc | apply Kd.R_drewN | apply Kd.R_drew)); exact HO3023.out) (Kd.R_base ho0) hb)
    have n3_ := Aside0.mk (Kd.R_elder' (by (with_reducible repeat (first | apply Kd.R_alloc | apply Kd.R_drewN | apply Kd.R_drew)); exact HO3026.out) (Kd.R_base ho1) hb)
    have n4_ := Aside0.mk (Kd.R_lower (Kd.R_new' (Kd.R_new' ho0 (Kd.R_lt (by (with_reducible repeat (first | apply Kd.R_alloc | apply Kd.R_drewN | apply Kd.R_drew)); exact HO3010.out))) (Kd.R_lt (by (with_reducible repeat (first | apply Kd.R_alloc | apply Kd.R_drewN | apply Kd.R_drew)); exact HO3023.out))) (below_size (by repeat (first | (with_reducible first | exact HB.out | apply below_alloc | apply pw_below_drewN | apply below_drew1 | refine below_set ?_ (Aside0.out (by assumption))) | exact HB.out))))
    have n5_ := Aside0.mk (Kd.R_lower (Kd.R_new' (Kd.R_new' ho1 (Kd.R_lt (by (with_reducible repeat (first | apply Kd.R_alloc | apply Kd.R_drewN | apply Kd.R_drew)); exact HO3013.out))) (Kd.R_lt (by (with_reducible repeat (first | apply Kd.R_alloc | apply Kd.R_drewN | apply Kd.R_drew)); exact HO3026.out))) (below_size (by repeat (first | (with_reducible first | exact HB.out | apply below_alloc | apply pw_below_drewN | apply below_drew1 | refine below_set ?_ (Aside0.out (by assumption))) | exact HB.out))))
    have n6_ := Aside0.mk (blk_below (g := gb3001) (o := .cells #[.int .i64 a0_0, .string a0_1, .string a0_2, .int .i64 a0_3, .string a0_4, .slice A0_5 l0_5.length c0_5, .slice A0_6 l0_6.length c0_6, .int .i64 a0_7] 27 (0, 0)) (by (with_reducible repeat (first | refine blk_drewN ?_ _ | refine blk_drew ?_ | refine blk_alloc ?_ _)); exact BK3001.out) hb)
    have n7_ := Aside0.mk (blk_below (g := gb3028) (o := .cells #[.int .i64 t3016, .string t3017, .string t3018, .int .i64 t3019, .string t3020, .slice Ao28 t3021.length co28, .slice Ao29 t3024.length co29, .int .i64 t3027] 34 (0, 0)) (by (with_reducible repeat (first | refine blk_drewN ?_ _ | refine blk_drew ?_ | refine blk_alloc ?_ _)); exact BK3028.out) hb)
    have n8_ := Aside0.mk (below_step (by repeat (first | (with_reducible first | exact HB.out | apply below_alloc | apply pw_below_drewN | apply below_drew1 | refine below_set ?_ (Aside0.out (by assumption))) | exact HB.out)) hb)
    clear HO3010
    clear HO3013
    clear HO3023
    clear HO3026
    clear BK3001
    clear BK3028
    clear HB
    have HO3010 := n0_
    have HO3013 := n1_
    have HO3023 := n2_
    have HO3026 := n3_
    have HO3037 := n4_
    have HO3040 := n5_
    have BK3001 := n6_
    have BK3028 := n7_
    have HB := n8_
    clear n0_ n1_ n2_ n3_ n4_ n5_ n6_ n7_ n8_
    (try clear hb)
    (try clear hb2)
    (try clear hk)
    (try clear hi)
    (try clear ho0)
    (try clear ho1)
    obtain ⟨Ao33, co33, eo33⟩ := Kd.R_slice HO3037.out
    (first | subst eo33 | (injection eo33 with f1_ f2_ f3_; have f4_ := f1_.symm; have f5_ := f3_.symm; clear f1_ f2_ f3_; subst f4_; subst f5_))
    obtain ⟨Ao34, co34, eo34⟩ := Kd.R_slice HO3040.out
    (first | subst eo34 | (injection eo34 with f1_ f2_ f3_; have f4_ := f1_.symm; have f5_ := f3_.symm; clear f1_ f2_ f3_; subst f4_; subst f5_))
    refine hK.out _ _ ⟨(blk_cell BK3028.out 0).trans rfl, (blk_cell BK3028.out 1).trans rfl, (blk_cell BK3028.out 2).trans rfl, (blk_cell BK3028.out 3).trans rfl, (blk_cell BK3028.out 4).trans rfl, (blk_cell BK3028.out 5).trans rfl, (blk_cell BK3028.out 6).trans rfl, (blk_cell BK3028.out 7).trans rfl, (blk_cell BK3001.out 0).trans rfl, (blk_cell BK3001.out 1).trans rfl, (blk_cell BK3001.out 2).trans rfl, (blk_cell BK3001.out 3).trans rfl, (blk_cell BK3001.out 4).trans rfl, (blk_cell BK3001.out 5).trans rfl, (blk_cell BK3001.out 6).trans rfl, (blk_cell BK3001.out 7).trans rfl⟩ (fun hHeld => ?_)
    clear hK K
    refine norm_ (a' := ?_) ?_ ?_
    rotate_left
    · show Act.put _ (some 24) _ = _
      simp only [Act.put, List.setIfInBounds_toArray, List.set_cons_zero, List.set_cons_succ, i64_w, i32_w]
      rfl
    refine one_ (i := 3) (N := some 25) #[true, true, true, true, false] rfl rfl (by kernel_rfl) (by decide) (fun K hK => ?_)
    refine goes_ Tryd.func9 (by kernel_rfl) rfl #[.agg #[.int .i64 t3016, .string t3017, .string t3018, .int .i64 t3019, .string t3020, .slice Ao28 t3021.length co28, .slice Ao29 t3024.length co29, .int .i64 t3027], .agg #[.int .i64 t3030, .string t3031, .string t3032, .int .i64 t3033, .string t3034, .slice Ao33 t3035.length co33, .slice Ao34 t3038.length co34, .int .i64 t3041]] (by rfl) rfl rfl (by (try simp only [List.map_toArray, List.map_cons, List.map_nil]); first | done | rfl | (simp only [List.length_drop, List.length_take]; rfl)) ?_
    with_reducible refine (laws_eqConstraint.calls k t3016 t3017 t3018 t3019 t3020 _ _ t3021 _ _ t3024 t3027 t3030 t3031 t3032 t3033 t3034 _ _ t3035 _ _ t3038 t3041 _ _ ?side1 ?side2 ?side3 ?side4 ?side5 ?side6 ?side7 ?side8 A13.out).mono ?_
    (case side1 => repeat (first | exact (Kd.R_reads' HO3023.out).2.2 | (with_reducible refine Kd.C_alloc ?_ _) | (with_reducible refine Kd.C_drewN ?_ _) | (with_reducible refine Kd.C_drew ?_)))
    (case side2 => exact (Kd.R_reads' HO3023.out).2.1)
    (case side3 => repeat (first | exact (Kd.R_reads' HO3026.out).2.2 | (with_reducible refine Kd.C_alloc ?_ _) | (with_reducible refine Kd.C_drewN ?_ _) | (with_reducible refine Kd.C_drew ?_)))
    (case side4 => exact (Kd.R_reads' HO3026.out).2.1)
    (case side5 => repeat (first | exact (Kd.R_reads' HO3037.out).2.2 | (with_reducible refine Kd.C_alloc ?_ _) | (with_reducible refine Kd.C_drewN ?_ _) | (with_reducible refine Kd.C_drew ?_)))
    (case side6 => exact (Kd.R_reads' HO3037.out).2.1)
    (case side7 => repeat (first | exact (Kd.R_reads' HO3040.out).2.2 | (with_reducible refine Kd.C_alloc ?_ _) | (with_reducible refine Kd.C_drewN ?_ _) | (with_reducible refine Kd.C_drew ?_)))
    (case side8 => exact (Kd.R_reads' HO3040.out).2.1)
    rintro e w35 ⟨rfl, hb⟩
    refine ⟨_, rfl, ?_⟩
    have n0_ := Aside0.mk (Kd.R_below (by (with_reducible repeat (first | apply Kd.R_alloc | apply Kd.R_drewN | apply Kd.R_drew)); exact HO3010.out) hb)
    have n1_ := Aside0.mk (Kd.R_below (by (with_reducible repeat (first | apply Kd.R_alloc | apply Kd.R_drewN | apply Kd.R_drew)); exact HO3013.out) hb)
    have n2_ := Aside0.mk (Kd.R_below (by (with_reducible repeat (first | apply Kd.R_alloc | apply Kd.R_drewN | apply Kd.R_drew)); exact HO3023.out) hb)
    have n3_ := Aside0.mk (Kd.R_below (by (with_reducible repeat (first | apply Kd.R_alloc | apply Kd.R_drewN | apply Kd.R_drew)); exact HO3026.out) hb)
    have n4_ := Aside0.mk (Kd.R_below (by (with_reducible repeat (first | apply Kd.R_alloc | apply Kd.R_drewN | apply Kd.R_drew)); exact HO3037.out) hb)
    have n5_ := Aside0.mk (Kd.R_below (by (with_reducible repeat (first | apply Kd.R_alloc | apply Kd.R_drewN | apply Kd.R_drew)); exact HO3040.out) hb)
    have n6_ := Aside0.mk (blk_below (g := gb3001) (o := .cells #[.int .i64 a0_0, .string a0_1, .string a0_2, .int .i64 a0_3, .string a0_4, .slice A0_5 l0_5.length c0_5, .slice A0_6 l0_6.length c0_6, .int .i64 a0_7] 27 (0, 0)) (by (with_reducible repeat (first | refine blk_drewN ?_ _ | refine blk_drew ?_ | refine blk_alloc ?_ _)); exact BK3001.out) hb)
    have n7_ := Aside0.mk (blk_below (g := gb3028) (o := .cells #[.int .i64 t3016, .string t3017, .string t3018, .int .i64 t3019, .string t3020, .slice Ao28 t3021.length co28, .slice Ao29 t3024.length co29, .int .i64 t3027] 34 (0, 0)) (by (with_reducible repeat (first | refine blk_drewN ?_ _ | refine blk_drew ?_ | refine blk_alloc ?_ _)); exact BK3028.out) hb)
    have n8_ := Aside0.mk (below_step (by repeat (first | (with_reducible first | exact HB.out | apply below_alloc | apply pw_below_drewN | apply below_drew1 | refine below_set ?_ (Aside0.out (by assumption))) | exact HB.out)) hb)
    clear HO3010
    clear HO3013
    clear HO3023
    clear HO3026
    clear HO3037
    clear HO3040
    clear BK3001
    clear BK3028
    clear HB
    have HO3010 := n0_
    have HO3013 := n1_
    have HO3023 := n2_
    have HO3026 := n3_
    have HO3037 := n4_
    have HO3040 := n5_
    have BK3001 := n6_
    have BK3028 := n7_
    have HB := n8_
    clear n0_ n1_ n2_ n3_ n4_ n5_ n6_ n7_ n8_
    (try clear hb)
    (try clear hb2)
    (try clear hk)
    (try clear hi)
    refine hK.out _ _ ⟨(blk_cell BK3028.out 0).trans rfl, (blk_cell BK3028.out 1).trans rfl, (blk_cell BK3028.out 2).trans rfl, (blk_cell BK3028.out 3).trans rfl, (blk_cell BK3028.out 4).trans rfl, (blk_cell BK3028.out 5).trans rfl, (blk_cell BK3028.out 6).trans rfl, (blk_cell BK3028.out 7).trans rfl, (blk_cell BK3001.out 0).trans rfl, (blk_cell BK3001.out 1).trans rfl, (blk_cell BK3001.out 2).trans rfl, (blk_cell BK3001.out 3).trans rfl, (blk_cell BK3001.out 4).trans rfl, (blk_cell BK3001.out 5).trans rfl, (blk_cell BK3001.out 6).trans rfl, (blk_cell BK3001.out 7).trans rfl⟩ (fun hHeld => ?_)
    clear hK K
    refine norm_ (a' := ?_) ?_ ?_
    rotate_left
    · show Act.put _ (some 25) _ = _
      simp only [Act.put, List.setIfInBounds_toArray, List.set_cons_zero, List.set_cons_succ, i64_w, i32_w]
      rfl
    refine pure_ (i := 4) (N := some 26) (v := ?_) (a' := ?_) #[true, true, true, true, true] rfl rfl (by kernel_rfl) (fun _ _ _ h => h) (Or.inl ⟨by rfl, ?_⟩) ?_ ?_
    rotate_left
    · intro w'
      go_simp
      first | with_reducible rfl | (rw [if_neg (by omega)]; done)
    rotate_left
    · simp only [Act.put, List.setIfInBounds_toArray, List.set_cons_zero, List.set_cons_succ, i64_w, i32_w]
      rfl
    refine done_ (by kernel_rfl) ?_
    try go_wp2
    go_ret
    exact ⟨by first | rfl | (simp [errW_none, errW_some] <;> rfl) | (simp [*, errW_none, errW_some] <;> rfl), by repeat (first | (with_reducible first | exact HB.out | apply below_alloc | apply pw_below_drewN | apply below_drew1 | refine below_set ?_ (Aside0.out (by assumption))) | exact HB.out)⟩
  · replace c14 := Bool.eq_false_iff.mpr c14
    subst c14
    have H1 : (some false) = some r := by rw [if_neg (show ¬ (false = true) by decide)] at H; exact H
    clear H
    have H := H1
    clear H1
    exact absurd ((Option.some.inj H).trans HRT_.out) (by decide)
  · rw [if_neg c11] at H
    have c11b0 : (t3029.toList == t3015.toList) = false := beq_eq_false_iff_ne.mpr c11
    have c11b1 : (t3029.toList != t3015.toList) = true := bne_iff_ne.mpr c11
    exact absurd ((Option.some.inj H).trans HRT_.out) (by decide)

end Go.Proofs.YtdchpohiiigobaaDoor.A


namespace Go.Proofs.YtdchpohiiigobaaDoor.Br
set_option linter.unusedVariables false
set_option linter.unusedSimpArgs false
open Go Go.Proofs.YtdchpohiiigobaaDoorW.PrintWords

/-- Whatever reads at type t, with at most n of fuel, is of kind d and well formed. -/
def BrN (P : Program) (n : Nat) (t : TypeId) {α : Type} (d : Kd α) (wf : α → Prop) : Prop :=
  ∀ (H : Type) (enc : TypeId × Value → H) (w : World) (base : Nat) (spare : Nat → Bool) (held : Bool) (m : Nat) (cs : List Value) (x : DataW H × List MemPlace),
    m ≤ n → DataW.trod enc P w base spare held m t cs = some x → ∃ a, d.K w a cs ∧ wf a
def Br (P : Program) (t : TypeId) {α : Type} (d : Kd α) (wf : α → Prop) : Prop := ∀ n, BrN P n t d wf

/-- The same of the fields of a struct, from offset o on. -/
def BF (P : Program) (n : Nat) (fs : List Field) (o : Nat) {α : Type} (d : Kd α) (wf : α → Prop) : Prop :=
  ∀ (H : Type) (enc : TypeId × Value → H) (w : World) (base : Nat) (spare : Nat → Bool) (held : Bool) (m : Nat) (cs : List Value) (xs : List (DataW H × List MemPlace)),
    m ≤ n → cs.length = d.sz → xs.length = fs.length →
    (∀ (i : Nat) (f : Field), fs[i]? = some f → DataW.trod enc P w base spare held m f.type ((cs.drop (f.offset - o)).take (P.cellsOf f.type)) = xs[i]?) → ∃ a, d.K w a cs ∧ wf a

theorem BrN.mono {P : Program} {n m : Nat} {t : TypeId} {α : Type} {d : Kd α} {wf : α → Prop} (h : BrN P n t d wf) (hm : m ≤ n) : BrN P m t d wf :=
  fun H enc w base spare held k cs x hk => h H enc w base spare held k cs x (Nat.le_trans hk hm)
theorem BrN.imp {P : Program} {n : Nat} {t : TypeId} {α : Type} {d : Kd α} {wf wf' : α → Prop} (h : BrN P n t d wf) (hi : ∀ a, wf a → wf' a) : BrN P n t d wf' :=
  fun H enc w base spare held k cs x hk hx => by
    obtain ⟨a, h1, h2⟩ := h H enc w base spare held k cs x hk hx
    exact ⟨a, h1, hi a h2⟩
theorem BrN.zero (P : Program) (t : TypeId) {α : Type} (d : Kd α) (wf : α → Prop) : BrN P 0 t d wf := by
  intro H enc w base spare held m cs x hm hx
  obtain rfl : m = 0 := by omega
  simp [DataW.trod] at hx

theorem br_int {P : Program} {t : TypeId} {k : IntKind} (ht : P.underlying t = some (.int k)) (n : Nat) : BrN P n t (Kd.int k) (fun a => (Lit.int k a).wf = true) := by
  intro H enc w base spare held m cs x _ hx
  obtain ⟨a, rfl, _, hw⟩ := DataW.trod_int ht hx
  exact ⟨a, rfl, hw⟩
theorem br_string {P : Program} {t : TypeId} (ht : P.underlying t = some .string) (n : Nat) : BrN P n t Kd.string (fun s => s.size ≤ 9223372036854775807) := by
  intro H enc w base spare held m cs x _ hx
  obtain ⟨a, rfl, _, hw⟩ := DataW.trod_string ht hx
  exact ⟨a, rfl, by simpa [maxLen] using hw⟩

theorem list_of_all {α : Type} {Q : Nat → α → Prop} (n : Nat) (h : ∀ i, i < n → ∃ a, Q i a) : ∃ l : List α, l.length = n ∧ ∀ i a, l[i]? = some a → Q i a := by
  induction n with
  | zero => exact ⟨[], rfl, fun i a h => by simp at h⟩
  | succ n ih =>
    obtain ⟨l, hl, hq⟩ := ih (fun i hi => h i (by omega))
    obtain ⟨a, ha⟩ := h n (by omega)
    refine ⟨l ++ [a], by simp [hl], fun i b hb => ?_⟩
    rcases Nat.lt_or_ge i l.length with hi | hi
    · rw [List.getElem?_append_left hi] at hb
      exact hq i b hb
    · rw [List.getElem?_append_right hi] at hb
      obtain ⟨h0, rfl⟩ : i - l.length = 0 ∧ a = b := by
        rcases Nat.eq_zero_or_pos (i - l.length) with h0 | h0
        · rw [h0] at hb; exact ⟨h0, by simpa using hb⟩
        · rw [List.getElem?_eq_none (by simp; omega)] at hb; simp at hb
      obtain rfl : i = n := by omega
      exact ha

theorem cells_at {w : World} {base : Nat} {a : Addr} {n : Nat} {cs : List Value} (h : w.cells? base a n = some cs) : cs.length = n ∧ ∀ i u, cs[i]? = some u → w.cell? (a.add i) = some u := by
  unfold World.cells? at h
  split at h
  · have hl := mapM_some_length h
    refine ⟨by simpa using hl, fun i u hu => ?_⟩
    have hi : i < n := by
      have := (List.getElem?_eq_some_iff.1 hu).1
      simp at hl
      omega
    have := mapM_some_get h i i (by simp [hi])
    rw [this, hu]
  · simp at h

theorem br_slice {P : Program} {t e : TypeId} {α : Type} {d : Kd α} {wf : α → Prop} {n : Nat} (ht : P.underlying t = some (.slice e)) (hs : P.cellsOf e = d.sz) (h : BrN P n e d wf) :
    BrN P (n + 1) t (Kd.slice e d) (fun l => l.length ≤ 9223372036854775807 ∧ ∀ a ∈ l, wf a) := by
  intro H enc w base spare held m cs x hm hx
  rcases DataW.trod_slice ht hx with ⟨rfl, _⟩ | ⟨a, len, cap, elems, rest, k, rfl, rfl, _, _, hl, hc, he, hg, _, _⟩
  · exact ⟨[], ⟨none, 0, rfl, Nat.le_refl _, Kd.C_nil d w⟩, by simp, by simp⟩
  · have hq : ∀ i, i < len → ∃ b, (∃ c, c.length = d.sz ∧ d.K w b c ∧ ∀ j u, c[j]? = some u → w.cell? (a.add (i * d.sz + j)) = some u) ∧ wf b := by
      intro i hi
      have g := hg i hi
      rw [List.getElem?_eq_getElem (by omega)] at g
      obtain ⟨c, hc1, hc2⟩ := Option.bind_eq_some_iff.1 g
      obtain ⟨b, hb, hw⟩ := h H enc w base spare held k c _ (by omega) hc2
      obtain ⟨h1, h2⟩ := cells_at hc1
      refine ⟨b, ⟨c, by rw [h1, hs], hb, fun j u hu => ?_⟩, hw⟩
      have := h2 j u hu
      rw [Addr.add_add, hs] at this
      exact this
    obtain ⟨l, hl1, hl2⟩ := list_of_all len hq
    have hlen : len ≤ 9223372036854775807 := by simp only [maxLen] at hc; omega
    refine ⟨l, ⟨some a, cap, by rw [hl1], by omega, rfl, by omega, fun _ => ⟨a, rfl, fun j p hp => (hl2 j p hp).1⟩⟩, by omega, fun b hb => ?_⟩
    obtain ⟨i, hi, rfl⟩ := List.mem_iff_getElem.1 hb
    exact (hl2 i _ (List.getElem?_eq_getElem hi)).2
theorem br_slice' {P : Program} {t e : TypeId} {α : Type} {d : Kd α} {wf : α → Prop} (ht : P.underlying t = some (.slice e)) (hs : P.cellsOf e = d.sz) (h : ∀ n, BrN P n e d wf) (n : Nat) :
    BrN P n t (Kd.slice e d) (fun l => l.length ≤ 9223372036854775807 ∧ ∀ a ∈ l, wf a) := (br_slice ht hs (h n)).mono (Nat.le_succ n)

theorem bf_one {P : Program} {n o : Nat} {f : Field} {α : Type} {d : Kd α} {wf : α → Prop} (ho : f.offset = o) (hs : P.cellsOf f.type = d.sz) (h : BrN P n f.type d wf) : BF P n [f] o d wf := by
  intro H enc w base spare held m cs xs hm hl hx hf
  have g := hf 0 f rfl
  rw [ho, Nat.sub_self, List.drop_zero, hs, ← hl, List.take_length, List.getElem?_eq_getElem (by simp at hx; omega)] at g
  exact h H enc w base spare held m cs _ hm g
theorem bf_cons {P : Program} {n o : Nat} {f : Field} {fs : List Field} {α β : Type} {d : Kd α} {d' : Kd β} {wf : α → Prop} {wf' : β → Prop} (ho : f.offset = o) (hs : P.cellsOf f.type = d.sz) (h : BrN P n f.type d wf)
    (hfs : BF P n fs (o + d.sz) d' wf') (hle : ∀ g ∈ fs, o + d.sz ≤ g.offset) : BF P n (f :: fs) o (Kd.pair d d') (fun x => wf x.1 ∧ wf' x.2) := by
  intro H enc w base spare held m cs xs hm hl hx hf
  have hl' : cs.length = d.sz + d'.sz := hl
  have g := hf 0 f rfl
  rw [ho, Nat.sub_self, List.drop_zero, hs, List.getElem?_eq_getElem (by simp at hx; omega)] at g
  obtain ⟨a, ha, hwa⟩ := h H enc w base spare held m _ _ hm g
  cases xs with
  | nil => simp at hx
  | cons y ys =>
    obtain ⟨b, hb, hwb⟩ := hfs H enc w base spare held m (cs.drop d.sz) ys hm (by rw [List.length_drop]; omega) (by simpa using hx) (fun i q hq => by
      have g2 := hf (i + 1) q (by simpa using hq)
      have hm : q ∈ fs := List.mem_of_getElem? hq
      have := hle q hm
      rw [List.drop_drop, show d.sz + (q.offset - (o + d.sz)) = q.offset - o by omega]
      simpa using g2)
    exact ⟨(a, b), ⟨cs.take d.sz, cs.drop d.sz, (List.take_append_drop _ _).symm, ha, hb⟩, hwa, hwb⟩
theorem br_struct {P : Program} {t : TypeId} {fs : Array Field} {α : Type} {d : Kd α} {wf : α → Prop} {n : Nat} (ht : P.underlying t = some (.struct fs)) (hs : P.cellsOf t = d.sz) (h : BF P n fs.toList 0 d wf) : BrN P (n + 1) t d wf := by
  intro H enc w base spare held m cs x hm hx
  obtain ⟨xs, k, rfl, _, hl, hxs, hf⟩ := DataW.trod_struct ht hx
  exact h H enc w base spare held k cs xs (by omega) (by rw [hl, hs]) (by simpa using hxs) (fun i f hi => by simpa using hf i f (by simpa using hi))
theorem br_struct' {P : Program} {t : TypeId} {fs : Array Field} {α : Type} {d : Kd α} {wf : α → Prop} (ht : P.underlying t = some (.struct fs)) (hs : P.cellsOf t = d.sz) (h : ∀ n, BF P n fs.toList 0 d wf) (n : Nat) : BrN P n t d wf :=
  (br_struct ht hs (h n)).mono (Nat.le_succ n)
theorem br_iso {P : Program} {n : Nat} {t : TypeId} {α β : Type} {d : Kd α} {wf : α → Prop} {f : β → α} (g : α → β) (hg : ∀ y, f (g y) = y) (h : BrN P n t d wf) : BrN P n t (Kd.iso d f) (fun x => wf (f x)) := by
  intro H enc w base spare held m cs x hm hx
  obtain ⟨a, h1, h2⟩ := h H enc w base spare held m cs x hm hx
  exact ⟨g a, by show d.K w (f (g a)) cs; rw [hg]; exact h1, by show wf (f (g a)); rw [hg]; exact h2⟩
/-- A type nested in itself. -/
theorem br_fix {P : Program} {t : TypeId} {α : Type} {F : Kd α → Kd α} {sz : Nat} {E : List Nat} {hs : ∀ n, (Kd.upto F sz E n).sz = sz} {hE : ∀ n q, q ∈ (Kd.upto F sz E n).E → q ∈ E} {wf : Nat → α → Prop}
    (h : ∀ n, BrN P n t (Kd.upto F sz E n) (wf n)) (n : Nat) : BrN P n t (Kd.fix F sz E hs hE) (fun a => ∃ k, wf k a) := by
  intro H enc w base spare held m cs x hm hx
  obtain ⟨a, h1, h2⟩ := h n H enc w base spare held m cs x hm hx
  exact ⟨a, ⟨n, h1⟩, n, h2⟩
theorem arr_of {xs : Array Value} {l : List Value} (h : xs.toList = l) : xs = l.toArray := by rw [← h]

end Go.Proofs.YtdchpohiiigobaaDoor.Br


namespace Go.Proofs.YtdchpohiiigobaaDoor.BtFnExactFormatConstraint
open Go Go.RowKit Go.Proofs.YtdchpohiiigobaaDoor.A Go.Proofs.YtdchpohiiigobaaDoor.Br Go.Proofs.YtdchpohiiigobaaDoorW.PrintWords
set_option linter.unusedVariables false
def wf24N : Nat → S24 → Prop
  | 0, _ => False
  | n + 1, x => ((Lit.int .i64 x.f0).wf = true) ∧ ((x.f1 : ByteArray).size ≤ 9223372036854775807) ∧ ((x.f2 : (List S24)).length ≤ 9223372036854775807 ∧ ∀ a ∈ x.f2, wf24N n a)
def wf24 (x : S24) : Prop := ∃ n, wf24N n x
theorem br24N : ∀ n, BrN Tryd.prog n 24 (Kd.upto F24 3 [24] n) (wf24N n)
  | 0 => BrN.zero _ _ _ _
  | n + 1 => by
    have ih := br24N n
    exact (br_iso (f := (fun x : S24 => (x.f0, x.f1, x.f2))) (fun y => ⟨y.1, y.2.1, y.2.2⟩) (fun _ => rfl) (br_struct Tryd.underlying24 (show Tryd.prog.cellsOf 24 = 3 by kernel_rfl) (bf_cons rfl (show Tryd.prog.cellsOf 3 = 1 by kernel_rfl) (br_int Tryd.underlying3 n) (bf_cons rfl (show Tryd.prog.cellsOf 9 = 1 by kernel_rfl) (br_string Tryd.underlying9 n) (bf_one rfl (show Tryd.prog.cellsOf 22 = 1 by kernel_rfl) ((br_slice Tryd.underlying22 (show Tryd.prog.cellsOf 24 = (Kd.upto F24 3 [24] n).sz by rw [sz24]; kernel_rfl) ih).mono (Nat.le_succ n))) (of_decide_eq_true (by kernel_rfl))) (of_decide_eq_true (by kernel_rfl))))).imp (fun _ h => h)
theorem br24 (n : Nat) : BrN Tryd.prog n 24 k24 wf24 := br_fix br24N n
end Go.Proofs.YtdchpohiiigobaaDoor.BtFnExactFormatConstraint

namespace Go.Proofs.YtdchpohiiigobaaDoor.Pure
open Go Go.RowKit Go.Proofs.YtdchpohiiigobaaDoor.Br Go.Proofs.YtdchpohiiigobaaDoorW.PrintWords Go.Proofs.YtdchpohiiigobaaDoorW.PrintLast Go.Proofs.YtdchpohiiigobaaDoor.A Go.Proofs.YtdchpohiiigobaaDoor.Ext Go.Proofs.YtdchpohiiigobaaDoor.BtFnExactFormatConstraint
set_option linter.unusedVariables false
def FnExactFormatConstraint.Pure : Prop := ∀ (a0_0 : Int) (a0_1 : ByteArray) (a0_2 : ByteArray) (a0_3 : Int) (a0_4 : ByteArray) (l0_5 : (List S24)) (l0_6 : (List Int)) (a0_7 : Int), ((Lit.int .i64 a0_0).wf = true) → ((a0_1 : ByteArray).size ≤ 9223372036854775807) → ((a0_2 : ByteArray).size ≤ 9223372036854775807) → ((Lit.int .i64 a0_3).wf = true) → ((a0_4 : ByteArray).size ≤ 9223372036854775807) → ((l0_5 : (List S24)).length ≤ 9223372036854775807 ∧ ∀ a ∈ l0_5, wf24 a) → ((l0_6 : (List Int)).length ≤ 9223372036854775807 ∧ ∀ a ∈ l0_6, (Lit.int .i64 a).wf = true) → ((Lit.int .i64 a0_7).wf = true) → ∃ k, laws_FnExactFormatConstraint.f k a0_0 a0_1 a0_2 a0_3 a0_4 l0_5 l0_6 a0_7 = some true
end Go.Proofs.YtdchpohiiigobaaDoor.Pure

namespace Go.Proofs.YtdchpohiiigobaaDoor.Pl
set_option linter.unusedVariables false
set_option linter.unusedSimpArgs false
open Go.RowKit Go.Proofs.YtdchpohiiigobaaDoorW.PrintWords

/-- From some number of rounds on, it answers r. -/
def Evt {α : Type} (g : Nat → Option α) (r : α) : Prop := ∃ K, ∀ k, K ≤ k → g k = some r
section
variable {α β : Type}
theorem Evt.const {g : Option α} {r : α} (h : g = some r) : Evt (fun _ => g) r := ⟨0, fun _ _ => h⟩
theorem Evt.ret (r : α) : Evt (fun _ => some r) r := Evt.const rfl
theorem Evt.bind {g : Nat → Option α} {f : Nat → α → Option β} {a : α} {r : β} (hg : Evt g a) (hf : Evt (fun k => f k a) r) : Evt (fun k => (g k).bind (f k)) r := by
  obtain ⟨K, hK⟩ := hg
  obtain ⟨L, hL⟩ := hf
  exact ⟨max K L, fun k hk => by show (g k).bind (f k) = some r; rw [hK k (by omega)]; exact hL k (by omega)⟩
theorem Evt.bindc {g : Option α} {f : Nat → α → Option β} {a : α} {r : β} (hg : g = some a) (hf : Evt (fun k => f k a) r) : Evt (fun k => g.bind (f k)) r := Evt.bind (Evt.const hg) hf
theorem Evt.step {g : Nat → Option α} {r : α} (h : Evt (fun k => g (k + 1)) r) : Evt g r := by
  obtain ⟨K, hK⟩ := h
  exact ⟨K + 1, fun k hk => by
    obtain ⟨m, rfl⟩ : ∃ m, k = m + 1 := ⟨k - 1, by omega⟩
    exact hK m (by omega)⟩
theorem Evt.pos {c : Prop} [Decidable c] {t e : Nat → Option α} {r : α} (h : c) (ht : Evt t r) : Evt (fun k => if c then t k else e k) r := by
  obtain ⟨K, hK⟩ := ht
  exact ⟨K, fun k hk => (if_pos h).trans (hK k hk)⟩
theorem Evt.neg {c : Prop} [Decidable c] {t e : Nat → Option α} {r : α} (h : ¬ c) (ht : Evt e r) : Evt (fun k => if c then t k else e k) r := by
  obtain ⟨K, hK⟩ := ht
  exact ⟨K, fun k hk => (if_neg h).trans (hK k hk)⟩
theorem Evt.ite {c : Prop} [Decidable c] {t e : Nat → Option α} {x y : α} (ht : c → Evt t x) (he : ¬ c → Evt e y) : Evt (fun k => if c then t k else e k) (if c then x else y) := by
  by_cases h : c
  · rw [if_pos h]; exact Evt.pos h (ht h)
  · rw [if_neg h]; exact Evt.neg h (he h)
theorem Evt.get {g : Nat → Option α} {r : α} (h : Evt g r) : ∃ k, g k = some r := by
  obtain ⟨K, hK⟩ := h
  exact ⟨K, hK K (Nat.le_refl _)⟩
theorem Evt.of_eq {g g' : Nat → Option α} {r : α} (h : ∀ k, g k = g' k) (h' : Evt g' r) : Evt g r := by
  obtain ⟨K, hK⟩ := h'
  exact ⟨K, fun k hk => by rw [h]; exact hK k hk⟩
theorem Evt.cast {g : Nat → Option α} {r r' : α} (h : Evt g r) (e : r = r') : Evt g r' := e ▸ h
/-- A loop that counts up from 0 to n: what it answers at i is R i. -/
theorem Evt.up (l : Nat → Int → Option α) (n : Nat) (R : Nat → α) (hend : Evt (fun k => l k (n : Int)) (R n))
    (hstep : ∀ i : Nat, i < n → Evt (fun k => l k ((i + 1 : Nat) : Int)) (R (i + 1)) → Evt (fun k => l k (i : Int)) (R i)) : Evt (fun k => l k 0) (R 0) := by
  have h : ∀ d i : Nat, i + d = n → Evt (fun k => l k (i : Int)) (R i) := by
    intro d
    induction d with
    | zero =>
      intro i hi
      obtain rfl : i = n := by omega
      exact hend
    | succ d ih =>
      intro i hi
      exact hstep i (by omega) (ih (i + 1) (by omega))
  exact h n 0 (by omega)
end

theorem w64 {x : Int} (h : -9223372036854775808 ≤ x) (h' : x ≤ 9223372036854775807) : wrap64 x = x := by unfold wrap64; omega
/-- The counter's next value. -/
theorem w64s {i : Nat} (h : i < 9223372036854775807) : wrap64 ((i : Int) + 1) = ((i + 1 : Nat) : Int) := by
  rw [w64 (by omega) (by omega)]; omega

theorem bt0 (s : ByteArray) (i : Int) : 0 ≤ bt s i := (bt_range s i).1
theorem bt255 (s : ByteArray) (i : Int) : bt s i ≤ 255 := (bt_range s i).2
theorem bt_get (s : ByteArray) (i : Nat) (h : i < (bytesOf s).length) : bt s (i : Int) = (bytesOf s)[i] := by
  rw [← rd_bytesOf]
  simp [rd, h]
theorem bytesOf_inj {s t : ByteArray} (h : bytesOf s = bytesOf t) : s = t := by
  have h1 : s.data.toList = t.data.toList := by
    refine List.map_inj_right (f := fun b : UInt8 => (b.toNat : Int)) (fun x y hxy => ?_) |>.1 h
    exact UInt8.toNat_inj.1 (Int.ofNat_inj.1 hxy)
  cases s; cases t
  simp only [ByteArray.mk.injEq]
  exact Array.toList_inj.1 h1
theorem toList_eq_iff (s t : ByteArray) : s.toList = t.toList ↔ s = t := by
  rw [Lib.toList_data, Lib.toList_data]
  constructor
  · intro h
    cases s; cases t
    simp only [ByteArray.mk.injEq]
    exact Array.toList_inj.1 h
  · rintro rfl; rfl
theorem toList_nil_iff (s : ByteArray) : s.toList = ([] : List UInt8) ↔ s.size = 0 := by
  rw [Lib.toList_data, ← data_length, List.length_eq_zero_iff]
theorem mem_bytes (s : ByteArray) {c : Int} (h : c ∈ bytesOf s) : 0 ≤ c ∧ c ≤ 255 := by
  unfold bytesOf at h
  obtain ⟨b, _, rfl⟩ := List.mem_map.1 h
  have := b.toNat_lt
  omega
theorem bytesOf_append (s t : ByteArray) : bytesOf (s ++ t) = bytesOf s ++ bytesOf t := by
  simp [bytesOf, ByteArray.data_append]
theorem bytesOf_extract (s : ByteArray) (a b : Nat) : bytesOf (s.extract a b) = ((bytesOf s).drop a).take (b - a) := by
  have h := Lib.extract_toList s a b
  rw [Lib.toList_data] at h
  unfold bytesOf
  rw [h, List.map_take, List.map_drop]
theorem bytesOf_tail (s : ByteArray) (a : Nat) : bytesOf (s.extract a s.size) = (bytesOf s).drop a := by
  rw [bytesOf_extract, List.take_of_length_le]
  rw [List.length_drop, bytesOf_length]
  exact Nat.le_refl _

/-- A letter's number. -/
def ltI (c : Int) : Int := if 97 = c then 0 else if 98 = c then 1 else if 99 = c then 2 else -1
def varI (c : Int) : Int := if 88 = c then 0 else if 89 = c then 1 else if 90 = c then 2 else -1
def isVr (c : Int) : Bool := decide (88 ≤ c ∧ c ≤ 90)
theorem ix_abc : ∀ n : Nat, n < 256 → Lib.indexByte [97, 98, 99] n.toUInt8 = ltI (n : Int) := by decide +kernel
theorem ix_XYZ : ∀ n : Nat, n < 256 → Lib.indexByte [88, 89, 90] n.toUInt8 = varI (n : Int) := by decide +kernel
theorem varI_isVar (c : Int) : decide (varI c ≥ 0) = isVr c := by
  unfold varI isVr
  split
  · subst_vars; rfl
  · split
    · subst_vars; rfl
    · split
      · subst_vars; rfl
      · simp; omega
theorem ltI_nonneg (c : Int) : 0 ≤ ltI c ↔ (97 ≤ c ∧ c ≤ 99) := by
  unfold ltI
  split
  · subst_vars; simp
  · split
    · subst_vars; simp
    · split
      · subst_vars; simp
      · simp; omega
theorem ltI_le (c : Int) : ltI c ≤ 2 := by
  unfold ltI
  repeat' split
  all_goals omega
theorem ltI_ge (c : Int) : -1 ≤ ltI c := by
  unfold ltI
  repeat' split
  all_goals omega
theorem bt_abc0 : bt (⟨#[97, 98, 99]⟩ : ByteArray) 0 = 97 := by decide
theorem bt_abc1 : bt (⟨#[97, 98, 99]⟩ : ByteArray) 1 = 98 := by decide
theorem bt_abc2 : bt (⟨#[97, 98, 99]⟩ : ByteArray) 2 = 99 := by decide
theorem bt_XYZ0 : bt (⟨#[88, 89, 90]⟩ : ByteArray) 0 = 88 := by decide
theorem bt_XYZ1 : bt (⟨#[88, 89, 90]⟩ : ByteArray) 1 = 89 := by decide
theorem bt_XYZ2 : bt (⟨#[88, 89, 90]⟩ : ByteArray) 2 = 90 := by decide
theorem w64_a : wrap64 1 = 1 := by unfold wrap64; omega
theorem w64_b : wrap64 2 = 2 := by unfold wrap64; omega
theorem w64_c : wrap64 3 = 3 := by unfold wrap64; omega
theorem w64_1 : wrap64 (0 + 1) = 1 := by unfold wrap64; omega
theorem w64_2 : wrap64 (1 + 1) = 2 := by unfold wrap64; omega
theorem w64_3 : wrap64 (2 + 1) = 3 := by unfold wrap64; omega

theorem indexByte_nonneg (l : List UInt8) (c : UInt8) : 0 ≤ Lib.indexByte l c ↔ c ∈ l := by
  induction l with
  | nil => simp [Lib.indexByte]
  | cons b l ih =>
    unfold Lib.indexByte
    by_cases h : b = c
    · subst h; simp
    · have hb : (b == c) = false := by simpa using h
      rw [hb]
      have hge := Lib.indexByte_ge l c
      by_cases h2 : Lib.indexByte l c = -1
      · simp only [h2]
        simp
        refine ⟨fun e => h e.symm, fun hm => ?_⟩
        have := ih.2 hm
        omega
      · have h3 : (Lib.indexByte l c == -1) = false := by simpa using h2
        rw [h3]
        simp
        constructor
        · intro _; exact .inr (ih.1 (by omega))
        · rintro (e | hm)
          · exact absurd e.symm h
          · have := ih.2 hm; omega
theorem mem_data (s : ByteArray) (n : Nat) (hn : n < 256) : n.toUInt8 ∈ s.data.toList ↔ (n : Int) ∈ bytesOf s := by
  unfold bytesOf
  rw [List.mem_map]
  constructor
  · intro h
    exact ⟨_, h, by simp [Nat.mod_eq_of_lt hn]⟩
  · rintro ⟨b, hb, e⟩
    have e2 : b.toNat = n := by omega
    subst e2
    simpa using hb
theorem w64_sub {a : Int} {n : Nat} (ha : -1 ≤ a) (ha' : a ≤ 1048576) (hn : n ≤ 9223372036854775807) : wrap64 (a - (n : Int)) = a - (n : Int) := w64 (by omega) (by omega)
end Go.Proofs.YtdchpohiiigobaaDoor.Pl

namespace Go.Proofs.YtdchpohiiigobaaDoor.F
set_option linter.unusedVariables false
set_option linter.unusedSimpArgs false
open Go.RowKit Go.Proofs.YtdchpohiiigobaaDoorW.PrintWords Go.Proofs.YtdchpohiiigobaaDoor.Pl Go.Proofs.YtdchpohiiigobaaDoor.A Go.Proofs.YtdchpohiiigobaaDoor.Ext

/-- From some numbers of rounds on, the depth's and the loop's. -/
def Evt2 {α : Type} (g : Nat → Nat → Option α) (r : α) : Prop := ∃ K, ∀ i j, K ≤ i → K ≤ j → g i j = some r
theorem Evt2.ret {α : Type} (r : α) : Evt2 (fun _ _ => some r) r := ⟨0, fun _ _ _ _ => rfl⟩
theorem Evt2.bind {α β : Type} {g : Nat → Option α} {f : Nat → Nat → α → Option β} {a : α} {r : β} (hg : Evt g a) (hf : Evt2 (fun i j => f i j a) r) : Evt2 (fun i j => (g i).bind (f i j)) r := by
  obtain ⟨K, hK⟩ := hg
  obtain ⟨L, hL⟩ := hf
  exact ⟨max K L, fun i j hi hj => by show (g i).bind (f i j) = some r; rw [hK i (by omega)]; exact hL i j (by omega) (by omega)⟩
theorem Evt2.bind2 {α β : Type} {g : Nat → Nat → Option α} {f : Nat → Nat → α → Option β} {a : α} {r : β} (hg : Evt2 g a) (hf : Evt2 (fun i j => f i j a) r) : Evt2 (fun i j => (g i j).bind (f i j)) r := by
  obtain ⟨K, hK⟩ := hg
  obtain ⟨L, hL⟩ := hf
  exact ⟨max K L, fun i j hi hj => by show (g i j).bind (f i j) = some r; rw [hK i j (by omega) (by omega)]; exact hL i j (by omega) (by omega)⟩
theorem Evt2.pos {α : Type} {c : Prop} [Decidable c] {t e : Nat → Nat → Option α} {r : α} (h : c) (ht : Evt2 t r) : Evt2 (fun i j => if c then t i j else e i j) r := by
  obtain ⟨K, hK⟩ := ht
  exact ⟨K, fun i j hi hj => by show (if c then t i j else e i j) = some r; rw [if_pos h]; exact hK i j hi hj⟩
theorem Evt2.neg {α : Type} {c : Prop} [Decidable c] {t e : Nat → Nat → Option α} {r : α} (h : ¬ c) (he : Evt2 e r) : Evt2 (fun i j => if c then t i j else e i j) r := by
  obtain ⟨K, hK⟩ := he
  exact ⟨K, fun i j hi hj => by show (if c then t i j else e i j) = some r; rw [if_neg h]; exact hK i j hi hj⟩
theorem Evt2.step {α : Type} {g : Nat → Nat → Option α} {r : α} (h : Evt2 (fun i j => g i (j + 1)) r) : Evt2 g r := by
  obtain ⟨K, hK⟩ := h
  refine ⟨K + 1, fun i j hi hj => ?_⟩
  obtain ⟨j, rfl⟩ : ∃ m, j = m + 1 := ⟨j - 1, by omega⟩
  exact hK i j (by omega) (by omega)
theorem Evt2.diag {α : Type} {g : Nat → Nat → Option α} {r : α} (h : Evt2 g r) : Evt (fun k => g k k) r := by
  obtain ⟨K, hK⟩ := h
  exact ⟨K, fun k hk => hK k k hk hk⟩
theorem Evt2.cast {α : Type} {g : Nat → Nat → Option α} {r r' : α} (h : Evt2 g r) (e : r = r') : Evt2 g r' := e ▸ h

/-- Lengths that a machine can hold, at every depth. -/
def RxOk : Nat → S24 → Prop
  | 0, _ => False
  | n + 1, x => x.f1.size ≤ 9223372036854775807 ∧ x.f2.length ≤ 9223372036854775807 ∧ ∀ a ∈ x.f2, RxOk n a
/-- Twice the nodes, to a depth; a height; and that a row of trees bears at most c nodes. -/
def cntN : Nat → List S32 → Nat
  | 0, _ => 0
  | d + 1, xs => (xs.map fun y => 2 + cntN d y.f2).sum
def htN : Nat → S32 → Bool
  | 0, _ => false
  | d + 1, x => x.f2.all (htN d)
def Bd (l : List S32) (c : Nat) : Prop := (∀ d, cntN d l ≤ 2 * c) ∧ ∃ N, ∀ d, N ≤ d → l.all (htN d) = true
/-- A copy of what weighing lets through. -/
inductive Sm : S32 → Prop
  | mk (a : Int) (b : ByteArray) (l : List S32) (h : l.length ≤ 1048576) (hs : ∀ x ∈ l, Sm x) (hb : ∃ c, c ≤ 1048576 ∧ Bd l c) : Sm ⟨a, b, l⟩
theorem Sm.len {x : S32} (h : Sm x) : x.f2.length ≤ 1048576 := by cases h; assumption
theorem rxL_at (l : List S24) (i : Nat) (h : i < l.length) : rd_T24 l (i : Int) = l[i] := by simp [rd_T24, h]
theorem rxI_at (l : List S32) (i : Nat) (h : i < l.length) : rd_T32 l (i : Int) = l[i] := by simp [rd_T32, h]
theorem rx_eta (y : S32) : (⟨y.f0, y.f1, y.f2⟩ : S32) = y := by cases y; rfl
/-- Its copy. -/
def Cp (x : S24) (y : S32) : Prop := Sm y ∧ Evt (fun k => laws_toRegex.f k x.f0 x.f1 x.f2) (y.f0, y.f1, y.f2)
def CpN (c : Nat) (x : S24) (y : S32) : Prop := Cp x y ∧ Bd y.f2 c
def LN (l : List S24) (c : Nat) : Prop := ∃ ys : List S32, ys.length = l.length ∧ (∀ (i : Nat) (h : i < l.length) (h' : i < ys.length), Cp l[i] ys[i]) ∧ Bd ys c
theorem LN_nil : LN [] 0 := ⟨[], rfl, fun i h => absurd h (by simp), fun d => by cases d <;> simp [cntN], 0, fun _ _ => rfl⟩
theorem LN_cons {x : S24} {l : List S24} {c c' : Nat} (h : ∃ y, CpN c x y) (h' : LN l c') : LN (x :: l) (1 + c + c') := by
  obtain ⟨y, hy, b1, N1, n1⟩ := h
  obtain ⟨ys, e, hc, b2, N2, n2⟩ := h'
  refine ⟨y :: ys, by simp [e], fun i hi hi' => ?_, fun d => ?_, max (N1 + 1) N2, fun d hd => ?_⟩
  · cases i with
    | zero => exact hy
    | succ i => exact hc i (by simpa using hi) (by simpa using hi')
  · cases d with
    | zero => simp [cntN]
    | succ d =>
      have h1 := b1 d
      have h2 := b2 (d + 1)
      simp only [cntN, List.map_cons, List.sum_cons] at h2 ⊢
      omega
  · obtain ⟨d', rfl⟩ : ∃ d', d = d' + 1 := ⟨d - 1, by omega⟩
    rw [List.all_cons, n2 (d' + 1) (by omega), Bool.and_true]
    exact n1 d' (by omega)
theorem toRegex_ev (a : Int) (b : ByteArray) (l : List S24) (hl : l.length ≤ 1048576) (c : Nat) (hcc : c ≤ 1048576) (h : LN l c) : ∃ y, CpN c ⟨a, b, l⟩ y := by
  obtain ⟨ys, e, hc, hbd⟩ := h
  refine ⟨⟨a, b, ys⟩, ⟨Sm.mk a b ys (by omega) (fun y hy => ?_) ⟨c, hcc, hbd⟩, ?_⟩, hbd⟩
  · obtain ⟨i, hi, rfl⟩ := List.mem_iff_getElem.1 hy
    exact (hc i (by omega) hi).1
  · refine Evt.step ?_
    simp only [laws_toRegex.f]
    refine Evt2.diag (g := fun i j => laws_toRegexG.f (fun _ => laws_toRegex.f i) j a b l) ?_
    simp only [laws_toRegexG.f, laws_toRegexSG.f]
    refine Evt2.bind2 (a := ys) (Evt2.pos (by omega) (Evt2.pos (by omega) ?_)) (Evt2.ret _)
    rw [Int.toNat_natCast]
    have hh : ∀ d i : Nat, i + d = l.length → Evt2 (fun p q => laws_toRegexSG.l0 (fun _ => laws_toRegex.f p) q l (ys.take i ++ List.replicate (l.length - i) z32) (i : Int)) ys := by
      intro d
      induction d with
      | zero =>
        intro i hi
        refine Evt2.step ?_
        simp only [laws_toRegexSG.l0]
        refine Evt2.neg (by omega) ((Evt2.ret _).cast ?_)
        rw [show l.length - i = 0 by omega, List.take_of_length_le (by omega)]
        simp
      | succ d ih =>
        intro i hi
        have hi' : i < l.length := by omega
        refine Evt2.step ?_
        simp only [laws_toRegexSG.l0]
        rw [rxL_at l i hi']
        refine Evt2.pos (by omega) (Evt2.pos (by omega) (Evt2.bind (hc i hi' (by omega)).2 (Evt2.pos (by simp; omega) ?_)))
        rw [Int.toNat_natCast, w64s (by omega)]
        have hx : (ys.take i).length = i := by rw [List.length_take]; omega
        have e2 : (ys.take i ++ List.replicate (l.length - i) z32).set i (ys[i]'(by omega)) = ys.take (i + 1) ++ List.replicate (l.length - (i + 1)) z32 := by
          rw [List.set_append_right _ _ (by omega), hx, Nat.sub_self, show l.length - i = (l.length - (i + 1)) + 1 by omega, List.replicate_succ, List.set_cons_zero, List.take_succ_eq_append_getElem (by omega), List.append_assoc]
          rfl
        simp only [rx_eta, e2]
        exact ih (i + 1) (by omega)
    simpa using hh l.length 0 (by omega)
theorem szRegex_evN : ∀ n (x : S24), RxOk n x → ∀ v : Int, 0 ≤ v → v ≤ 1048576 → ∃ t, Evt (fun k => laws_szRegex.f k x.f0 x.f1 x.f2 v) t ∧ (t = -1 ∨ (0 ≤ t ∧ t ≤ v ∧ ∃ (c : Nat) (y : S32), (c : Int) ≤ v - t ∧ CpN c x y)) := by
  intro n
  induction n with
  | zero => intro x h; exact h.elim
  | succ n ih =>
    rintro ⟨a, b, l⟩ ⟨h1, h2, h3⟩ v hv hv'
    simp only at h1 h2 h3
    have hs : ∃ t, Evt2 (fun i j => laws_szRegexG.f (fun _ => laws_szRegex.f i) j a b l v) t ∧ (t = -1 ∨ (0 ≤ t ∧ t ≤ v ∧ ∃ (c : Nat) (y : S32), (c : Int) ≤ v - t ∧ CpN c ⟨a, b, l⟩ y)) := by
      simp only [laws_szRegexG.f, laws_szRegexSG.f]
      rw [w64_sub (by omega) (by omega) h1]
      by_cases c1 : v - b.size < 0
      · exact ⟨-1, Evt2.pos c1 (Evt2.ret _), .inl rfl⟩
      rw [w64_sub (by omega) (by omega) h2]
      by_cases c2 : v - b.size - l.length < 0
      · exact ⟨-1, Evt2.neg c1 (Evt2.bind2 (Evt2.pos c2 (Evt2.ret _)) (Evt2.pos (by decide) (Evt2.ret _))), .inl rfl⟩
      have hh : ∀ d i : Nat, i + d = l.length → ∀ u : Int, 0 ≤ u → u ≤ 1048576 → ∃ t, Evt2 (fun p q => laws_szRegexSG.l0 (fun _ => laws_szRegex.f p) q l u (i : Int)) t ∧ (t = -1 ∨ (0 ≤ t ∧ t ≤ u ∧ ∃ c : Nat, LN (l.drop i) c ∧ (c : Int) ≤ u - t + (l.length - i))) := by
        intro d
        induction d with
        | zero =>
          intro i hi u hu hu'
          refine ⟨u, Evt2.step ?_, .inr ⟨hu, Int.le_refl _, ?_⟩⟩
          · simp only [laws_szRegexSG.l0]
            exact Evt2.neg (by omega) (Evt2.ret _)
          · rw [List.drop_of_length_le (by omega)]
            exact ⟨0, LN_nil, by omega⟩
        | succ d ihd =>
          intro i hi u hu hu'
          have hi' : i < l.length := by omega
          obtain ⟨t, ht, hc⟩ := ih l[i] (h3 _ (List.getElem_mem hi')) u hu hu'
          by_cases c3 : t < 0
          · refine ⟨-1, Evt2.step ?_, .inl rfl⟩
            simp only [laws_szRegexSG.l0]
            rw [rxL_at l i hi']
            exact Evt2.pos (by omega) (Evt2.pos (by omega) (Evt2.bind ht (Evt2.pos c3 (Evt2.ret _))))
          · have hc' := hc.resolve_left (by omega)
            obtain ⟨t', ht', hc2⟩ := ihd (i + 1) (by omega) t (by omega) (by omega)
            refine ⟨t', Evt2.step ?_, ?_⟩
            · simp only [laws_szRegexSG.l0]
              rw [rxL_at l i hi', w64s (by omega)]
              exact Evt2.pos (by omega) (Evt2.pos (by omega) (Evt2.bind ht (Evt2.neg c3 ht')))
            · rcases hc2 with h4 | ⟨h4, h5, c2, h6, h7⟩
              · exact .inl h4
              · obtain ⟨_, _, c1', y, hy1, hy2⟩ := hc'
                refine .inr ⟨h4, by omega, 1 + c1' + c2, ?_, by omega⟩
                rw [List.drop_eq_getElem_cons hi']
                exact LN_cons ⟨y, hy2⟩ h6
      obtain ⟨t, ht, hc⟩ := hh l.length 0 (by omega) (v - b.size - l.length) (by omega) (by omega)
      by_cases c4 : t < 0
      · exact ⟨-1, Evt2.neg c1 (Evt2.bind2 (Evt2.neg c2 ht) (Evt2.pos c4 (Evt2.ret _))), .inl rfl⟩
      · obtain ⟨k1, k2, c5, k3, k4⟩ := hc.resolve_left (by omega)
        obtain ⟨y, hy⟩ := toRegex_ev a b l (by omega) c5 (by omega) (by simpa using k3)
        exact ⟨t, Evt2.neg c1 (Evt2.bind2 (Evt2.neg c2 ht) (Evt2.neg c4 (Evt2.ret _))), .inr ⟨k1, by omega, c5, y, by omega, hy⟩⟩
    obtain ⟨t, ht, hc⟩ := hs
    refine ⟨t, Evt.step ?_, hc⟩
    simp only [laws_szRegex.f]
    exact Evt2.diag ht
theorem szRegex_ev (n : Nat) (x : S24) (h : RxOk n x) (v : Int) (hv : 0 ≤ v) (hv' : v ≤ 1048576) : ∃ t, Evt (fun k => laws_szRegex.f k x.f0 x.f1 x.f2 v) t ∧ (t = -1 ∨ (0 ≤ t ∧ t ≤ v ∧ ∃ y, Cp x y)) := by
  obtain ⟨t, h1, h2⟩ := szRegex_evN n x h v hv hv'
  exact ⟨t, h1, h2.imp id fun ⟨h3, h4, _, y, _, h5⟩ => ⟨h3, h4, y, h5.1⟩⟩

end Go.Proofs.YtdchpohiiigobaaDoor.F


namespace Go.Proofs.YtdchpohiiigobaaDoor.F
set_option linter.unusedVariables false
set_option linter.unusedSimpArgs false
open Go.RowKit Go.Proofs.YtdchpohiiigobaaDoorW.PrintWords Go.Proofs.YtdchpohiiigobaaDoor.Pl Go.Proofs.YtdchpohiiigobaaDoor.A Go.Proofs.YtdchpohiiigobaaDoor.Ext

theorem spec_LetterIndex_ev (c : Int) : Evt (fun k => spec_LetterIndex.f k c) (ltI c) := by
  refine ⟨4, fun k hk => ?_⟩
  obtain ⟨m, rfl⟩ : ∃ m, k = m + 4 := ⟨k - 4, by omega⟩
  unfold ltI
  by_cases h0 : (97 : Int) = c
  · simp [spec_LetterIndex.f, spec_LetterIndex.l0, w64_a, w64_b, w64_c, bt_abc0, bt_abc1, bt_abc2, h0]
  · by_cases h1 : (98 : Int) = c
    · simp [spec_LetterIndex.f, spec_LetterIndex.l0, w64_a, w64_b, w64_c, bt_abc0, bt_abc1, bt_abc2, h0, h1]
    · by_cases h2 : (99 : Int) = c
      · simp [spec_LetterIndex.f, spec_LetterIndex.l0, w64_a, w64_b, w64_c, bt_abc0, bt_abc1, bt_abc2, h0, h1, h2]
      · simp [spec_LetterIndex.f, spec_LetterIndex.l0, w64_a, w64_b, w64_c, bt_abc0, bt_abc1, bt_abc2, h0, h1, h2]
theorem impl_LetterIndex_eq {c : Int} (h0 : 0 ≤ c) (h1 : c ≤ 255) : impl_LetterIndex.f c = some (ltI c) := by
  obtain ⟨n, rfl⟩ := Int.eq_ofNat_of_zero_le h0
  simp only [impl_LetterIndex.f, strings_IndexByte.f, Option.bind_some]
  rw [Int.toNat_natCast]
  exact congrArg some (ix_abc n (by omega))

def allL (l : List Int) : Bool := l.all fun c => decide (0 ≤ ltI c)
theorem impl_isLetters_ev (s : ByteArray) (hs : s.size ≤ 9223372036854775807) : Evt (fun k => impl_isLetters.f k s) (allL (bytesOf s)) := by
  have h := Evt.up (fun k i => impl_isLetters.l0 k s i) s.size (fun i => allL ((bytesOf s).drop i)) ?_ ?_
  · simpa [impl_isLetters.f] using h
  · refine Evt.step ?_
    simp only [impl_isLetters.l0]
    rw [List.drop_of_length_le (by rw [bytesOf_length]; omega)]
    exact Evt.neg (by omega) (Evt.ret _)
  · intro i hi h
    refine Evt.step ?_
    simp only [impl_isLetters.l0]
    refine Evt.pos (by omega) (Evt.pos (by omega) (Evt.bindc (impl_LetterIndex_eq (bt0 _ _) (bt255 _ _)) ?_))
    have hl : i < (bytesOf s).length := by rw [bytesOf_length]; exact hi
    rw [List.drop_eq_getElem_cons hl, ← bt_get s i hl]
    by_cases hc : ltI (bt s i) < 0
    · exact Evt.pos hc (Evt.const (by simp [allL, show ¬ (0 ≤ ltI (bt s i)) by omega]))
    · rw [w64s (by omega)]
      exact Evt.neg hc (h.cast (by simp [allL, show 0 ≤ ltI (bt s i) by omega]))
/-- A word. -/
def isW (s : ByteArray) : Bool := allL (bytesOf s) && decide (s.size ≤ 30)
theorem impl_IsWord_ev (s : ByteArray) (hs : s.size ≤ 9223372036854775807) : Evt (fun k => impl_IsWord.f k s) (isW s) := by
  unfold isW
  simp only [impl_IsWord.f]
  by_cases h : s.size ≤ 30
  · exact Evt.pos (by omega) (Evt.bind (impl_isLetters_ev s hs) (Evt.const (by simp [h])))
  · exact Evt.neg (by omega) (Evt.const (by simp [h]))
theorem spec_IsWord_ev (s : ByteArray) (hs : s.size ≤ 9223372036854775807) : Evt (fun k => spec_IsWord.f k s) (isW s) := by
  have h := Evt.up (fun k i => spec_IsWord.l0 k s i) s.size (fun i => allL ((bytesOf s).drop i) && decide (s.size ≤ 30)) ?_ ?_
  · simpa [spec_IsWord.f, isW] using h
  · refine Evt.step ?_
    simp only [spec_IsWord.l0]
    rw [List.drop_of_length_le (by rw [bytesOf_length]; omega)]
    refine Evt.neg (by omega) (Evt.const ?_)
    have e : ((s.size : Int) ≤ 30) = (s.size ≤ 30) := by apply propext; omega
    simp [allL, e]
  · intro i hi h
    refine Evt.step ?_
    simp only [spec_IsWord.l0]
    refine Evt.pos (by omega) (Evt.pos (by omega) (Evt.bind (spec_LetterIndex_ev _) ?_))
    have hl : i < (bytesOf s).length := by rw [bytesOf_length]; exact hi
    rw [List.drop_eq_getElem_cons hl, ← bt_get s i hl]
    by_cases hc : ltI (bt s i) < 0
    · exact Evt.pos hc (Evt.const (by simp [allL, show ¬ (0 ≤ ltI (bt s i)) by omega]))
    · rw [w64s (by omega)]
      exact Evt.neg hc (h.cast (by simp [allL, show 0 ≤ ltI (bt s i) by omega]))

end Go.Proofs.YtdchpohiiigobaaDoor.F


namespace Go.Proofs.YtdchpohiiigobaaDoor.F
set_option linter.unusedVariables false
set_option linter.unusedSimpArgs false
open Go.RowKit Go.Proofs.YtdchpohiiigobaaDoorW.PrintWords Go.Proofs.YtdchpohiiigobaaDoor.Pl Go.Proofs.YtdchpohiiigobaaDoor.A Go.Proofs.YtdchpohiiigobaaDoor.Ext

/-- How many arguments a kind has. -/
def arN (a : Int) : Nat := if a = 5 ∨ a = 6 ∨ a = 7 then 2 else if a = 8 ∨ a = 9 then 1 else 0
theorem arN_le (a : Int) : arN a ≤ 2 := by
  unfold arN
  split
  · omega
  · split <;> omega
/-- The shape of one node. -/
def kOk (a : Int) (b : ByteArray) (n : Nat) : Bool :=
  if a = 3 then decide (b.size = 1) && isW b && decide (n = 0) else decide (1 ≤ a ∧ a ≤ 9) && decide (b.size = 0) && decide (n = arN a)
theorem kOk_len {a : Int} {b : ByteArray} {n : Nat} (h : kOk a b n = true) : n = arN a := by
  unfold kOk at h
  split at h
  · next e => subst e; simp at h; simp [h.2, arN]
  · simp at h; exact h.2
/-- The nodes of a valid expression of a depth of at most n; more than 16 are told as 17, and so is what is not valid. -/
def nds : Nat → S32 → Nat
  | 0, _ => 17
  | n + 1, x => if kOk x.f0 x.f1 x.f2.length = true then min (1 + (x.f2.map (nds n)).sum) 17 else 17
theorem nds_le (n : Nat) (x : S32) : nds n x ≤ 17 := by
  cases n with
  | zero => exact Nat.le_refl _
  | succ n => unfold nds; split <;> omega
/-- A tree of a height of at most n. -/
def Ht : Nat → S32 → Prop
  | 0, _ => False
  | n + 1, x => x.f2.length ≤ 1048576 ∧ ∀ a ∈ x.f2, Ht n a
theorem Ht_mono : ∀ n (x : S32), Ht n x → Ht (n + 1) x := by
  intro n
  induction n with
  | zero => intro x h; exact h.elim
  | succ n ih => intro x h; exact ⟨h.1, fun a ha => ih a (h.2 a ha)⟩
theorem Ht_le {n m : Nat} (h : n ≤ m) (x : S32) (hx : Ht n x) : Ht m x := by
  induction h with
  | refl => exact hx
  | step _ ih => exact Ht_mono _ _ ih
theorem Sm.ht {x : S32} (h : Sm x) : ∃ n, Ht n x := by
  induction h with
  | mk a b l hl hs hb ih =>
    have h3 : ∃ n, ∀ a ∈ l, Ht n a := by
      clear hl hs hb
      induction l with
      | nil => exact ⟨0, fun a ha => by cases ha⟩
      | cons x l ihl =>
        obtain ⟨n, hn⟩ := ihl (fun a ha => ih a (List.mem_cons_of_mem _ ha))
        obtain ⟨m, hm⟩ := ih x (List.mem_cons_self ..)
        refine ⟨max n m, fun a ha => ?_⟩
        rcases List.mem_cons.1 ha with rfl | ha
        · exact Ht_le (by omega) _ hm
        · exact Ht_le (by omega) _ (hn a ha)
    obtain ⟨n, hn⟩ := h3
    exact ⟨n + 1, hl, hn⟩
/-- All nodes, the depth, and whether each node has its shape. -/
def siz : Nat → S32 → Nat
  | 0, _ => 1
  | n + 1, x => 1 + (x.f2.map (siz n)).sum
def dep : Nat → S32 → Nat
  | 0, _ => 1
  | n + 1, x => (x.f2.map (dep n)).foldr max 0 + 1
def alls : Nat → S32 → Bool
  | 0, _ => true
  | n + 1, x => (x.f2.all (alls n)) && kOk x.f0 x.f1 x.f2.length
theorem siz_pos (n : Nat) (x : S32) : 1 ≤ siz n x := by cases n <;> simp [siz]
theorem dep_pos (n : Nat) (x : S32) : 1 ≤ dep n x := by cases n <;> simp [dep]
theorem dep_le_siz (n : Nat) : ∀ x : S32, dep n x ≤ siz n x := by
  induction n with
  | zero => intro x; simp [dep, siz]
  | succ n ih =>
    intro x
    simp only [dep, siz]
    generalize x.f2 = l
    induction l with
    | nil => simp
    | cons y l ihl => simp only [List.map_cons, List.foldr_cons, List.sum_cons]; have := ih y; omega
theorem nds_eq (n : Nat) : ∀ (x : S32) (e : Nat), Ht n x → nds e x = if alls n x = true ∧ dep n x ≤ e ∧ siz n x ≤ 16 then siz n x else 17 := by
  induction n with
  | zero => intro x e h; exact h.elim
  | succ n ih =>
    intro x e h
    cases e with
    | zero =>
      have := dep_pos (n + 1) x
      rw [if_neg (by omega)]
      rfl
    | succ e =>
      unfold nds
      by_cases hk : kOk x.f0 x.f1 x.f2.length = true
      · rw [if_pos hk]
        have hl := kOk_len hk
        have h2 := arN_le x.f0
        obtain ⟨_, hm⟩ := h
        simp only [alls, dep, siz, hk, Bool.and_true]
        generalize x.f2 = l at *
        match l with
        | [] => simp
        | [p] =>
          have ip := ih p e (hm p (by simp))
          have hp := siz_pos n p
          have hq := dep_pos n p
          simp only [List.map_cons, List.map_nil, List.sum_cons, List.sum_nil, List.foldr_cons, List.foldr_nil, List.all_cons, List.all_nil, Bool.and_true, ip]
          by_cases c1 : alls n p = true <;> by_cases c2 : dep n p ≤ e <;> by_cases c3 : siz n p ≤ 16 <;> simp only [c1, c2, c3, true_and, false_and, and_true, and_false, if_true, if_false, Bool.false_eq_true] <;> first | omega | (split <;> omega)
        | [p, q] =>
          have ip := ih p e (hm p (by simp))
          have iq := ih q e (hm q (by simp))
          have hp := siz_pos n p
          have hq := siz_pos n q
          have hp' := dep_pos n p
          have hq' := dep_pos n q
          simp only [List.map_cons, List.map_nil, List.sum_cons, List.sum_nil, List.foldr_cons, List.foldr_nil, List.all_cons, List.all_nil, Bool.and_true, ip, iq, Bool.and_eq_true]
          by_cases c1 : alls n p = true <;> by_cases c2 : dep n p ≤ e <;> by_cases c3 : siz n p ≤ 16 <;> by_cases c1' : alls n q = true <;> by_cases c2' : dep n q ≤ e <;> by_cases c3' : siz n q ≤ 16 <;> simp only [c1, c2, c3, c1', c2', c3', true_and, false_and, and_true, and_false, if_true, if_false, Bool.false_eq_true] <;> first | omega | (split <;> omega)
        | p :: q :: r :: l => simp at hl; omega
      · rw [if_neg hk, if_neg]
        simp [alls, hk]

end Go.Proofs.YtdchpohiiigobaaDoor.F


namespace Go.Proofs.YtdchpohiiigobaaDoor.F
set_option linter.unusedVariables false
set_option linter.unusedSimpArgs false
open Go.RowKit Go.Proofs.YtdchpohiiigobaaDoorW.PrintWords Go.Proofs.YtdchpohiiigobaaDoor.Pl Go.Proofs.YtdchpohiiigobaaDoor.A Go.Proofs.YtdchpohiiigobaaDoor.Ext

theorem impl_isVariable_eq {c : Int} (h0 : 0 ≤ c) (h1 : c ≤ 255) : impl_isVariable.f c = some (isVr c) := by
  obtain ⟨n, rfl⟩ := Int.eq_ofNat_of_zero_le h0
  simp only [impl_isVariable.f, strings_IndexByte.f, Option.bind_some]
  rw [Int.toNat_natCast, ← varI_isVar, ← ix_XYZ n (by omega)]
theorem spec_l8Var_eq (c : Int) : spec_l8Var.f c = some (isVr c) := by
  unfold spec_l8Var.f isVr
  by_cases h : c ≥ 88
  · rw [if_pos h]; simp [show 88 ≤ c from h]
  · rw [if_neg h]; simp [show ¬ 88 ≤ c from h]

def isT (c : Int) : Bool := decide (0 ≤ ltI c) || isVr c
/-- A term. -/
def isTm (s : ByteArray) : Bool := (bytesOf s).all isT && decide (s.size ≤ 12)
theorem spec_IsTerm_ev (s : ByteArray) (hs : s.size ≤ 9223372036854775807) : Evt (fun k => spec_IsTerm.f k s) (isTm s) := by
  have h := Evt.up (fun k i => spec_IsTerm.l0 k s i) s.size (fun i => ((bytesOf s).drop i).all isT && decide (s.size ≤ 12)) ?_ ?_
  · simpa [spec_IsTerm.f, isTm] using h
  · refine Evt.step ?_
    simp only [spec_IsTerm.l0]
    rw [List.drop_of_length_le (by rw [bytesOf_length]; omega)]
    refine Evt.neg (by omega) (Evt.const ?_)
    have e : ((s.size : Int) ≤ 12) = (s.size ≤ 12) := by apply propext; omega
    simp [e]
  · intro i hi h
    refine Evt.step ?_
    simp only [spec_IsTerm.l0]
    refine Evt.pos (by omega) (Evt.pos (by omega) (Evt.bind (spec_LetterIndex_ev _) ?_))
    have hl : i < (bytesOf s).length := by rw [bytesOf_length]; exact hi
    rw [List.drop_eq_getElem_cons hl, ← bt_get s i hl, w64s (by omega)]
    by_cases hc : ltI (bt s i) < 0
    · refine Evt.pos hc (Evt.bindc (spec_l8Var_eq _) ?_)
      by_cases hv : isVr (bt s i) = true
      · exact Evt.pos hv (h.cast (by simp [isT, hv]))
      · exact Evt.neg hv (Evt.const (by simp [isT, hv, show ¬ (0 ≤ ltI (bt s i)) by omega]))
    · exact Evt.neg hc (h.cast (by simp [isT, show 0 ≤ ltI (bt s i) by omega]))
theorem impl_IsTerm_ev (s : ByteArray) : Evt (fun k => impl_IsTerm.f k s) (isTm s) := by
  simp only [impl_IsTerm.f]
  by_cases h12 : (s.size : Int) > 12
  · exact Evt.pos h12 (Evt.const (by simp [isTm, show ¬ s.size ≤ 12 by omega]))
  refine Evt.neg h12 ?_
  have h := Evt.up (fun k i => impl_IsTerm.l0 k s i) s.size (fun i => ((bytesOf s).drop i).all isT) ?_ ?_
  · exact h.cast (by simp [isTm, show s.size ≤ 12 by omega])
  · refine Evt.step ?_
    simp only [impl_IsTerm.l0]
    rw [List.drop_of_length_le (by rw [bytesOf_length]; omega)]
    exact Evt.neg (by omega) (Evt.ret _)
  · intro i hi h
    refine Evt.step ?_
    simp only [impl_IsTerm.l0]
    refine Evt.pos (by omega) (Evt.pos (by omega) (Evt.bindc (impl_LetterIndex_eq (bt0 _ _) (bt255 _ _)) ?_))
    have hl : i < (bytesOf s).length := by rw [bytesOf_length]; exact hi
    rw [List.drop_eq_getElem_cons hl, ← bt_get s i hl, w64s (by omega)]
    by_cases hc : ltI (bt s i) < 0
    · refine Evt.pos hc (Evt.bindc (impl_isVariable_eq (bt0 _ _) (bt255 _ _)) ?_)
      by_cases hv : isVr (bt s i) = true
      · exact Evt.pos hv (h.cast (by simp [isT, hv]))
      · exact Evt.neg hv (Evt.const (by simp [isT, hv, show ¬ (0 ≤ ltI (bt s i)) by omega]))
    · exact Evt.neg hc (h.cast (by simp [isT, show 0 ≤ ltI (bt s i) by omega]))


end Go.Proofs.YtdchpohiiigobaaDoor.F


namespace Go.Proofs.YtdchpohiiigobaaDoor.F
set_option linter.unusedVariables false
set_option linter.unusedSimpArgs false
open Go.RowKit Go.Proofs.YtdchpohiiigobaaDoorW.PrintWords Go.Proofs.YtdchpohiiigobaaDoor.Pl Go.Proofs.YtdchpohiiigobaaDoor.A Go.Proofs.YtdchpohiiigobaaDoor.Ext

theorem impl_argsOf_ev (a : Int) : Evt (fun k => impl_argsOf.f k a) (if 1 ≤ a ∧ a ≤ 9 then (arN a : Int) else -1) := by
  refine ⟨3, fun k hk => ?_⟩
  obtain ⟨m, rfl⟩ : ∃ m, k = m + 3 := ⟨k - 3, by omega⟩
  have h : a = 1 ∨ a = 2 ∨ a = 3 ∨ a = 4 ∨ a = 5 ∨ a = 6 ∨ a = 7 ∨ a = 8 ∨ a = 9 ∨ ¬ (1 ≤ a ∧ a ≤ 9) := by omega
  rcases h with rfl | rfl | rfl | rfl | rfl | rfl | rfl | rfl | rfl | h
  all_goals first
    | simp [impl_argsOf.f, impl_argsOf.j0, impl_argsOf.j1, arN, -Int.reduceNeg]; done
    | skip
  rw [if_neg h]
  have e : ∀ c : Int, 1 ≤ c → c ≤ 9 → ¬ a = c := fun c h1 h2 h3 => h (by omega)
  have eb : ∀ c : Int, 1 ≤ c → c ≤ 9 → (a == c) = false := fun c h1 h2 => by simpa using e c h1 h2
  simp [impl_argsOf.f, impl_argsOf.j0, impl_argsOf.j1, e 1, e 2, e 3, e 4, e 5, e 6, e 7, e 8, e 9, eb 4, eb 9]
theorem impl_nodesOf_j0t (v a : Int) (b : ByteArray) (l : List S32) : Evt (fun k => impl_nodesOf.j0 k v true a b l) 17 := by
  refine Evt.step ?_
  simp only [impl_nodesOf.j0]
  exact Evt.pos trivial (Evt.ret _)
theorem impl_nodesOf_l0 (n : Nat) (hn : n ≤ 6) (l : List S32) (hl : l.length ≤ 2) (ih : ∀ x ∈ l, Evt (fun k => impl_nodesOf.f k x.f0 x.f1 x.f2 (n : Int)) ((nds n x : Nat) : Int)) :
    ∀ d i acc : Nat, i + d = l.length → acc ≤ 1 + 17 * i → Evt (fun k => impl_nodesOf.l0 k ((n + 1 : Nat) : Int) (acc : Int) l (l.length : Int) (i : Int)) ((min (acc + ((l.drop i).map (nds n)).sum) 17 : Nat) : Int) := by
  intro d
  induction d with
  | zero =>
    intro i acc hi ha
    refine Evt.step ?_
    simp only [impl_nodesOf.l0]
    refine Evt.neg (by omega) ((Evt.ret _).cast ?_)
    rw [List.drop_of_length_le (by omega)]
    simp only [mn, List.map_nil, List.sum_nil, Nat.add_zero]
    split <;> omega
  | succ d ihd =>
    intro i acc hi ha
    have hi' : i < l.length := by omega
    have hx := nds_le n l[i]
    refine Evt.step ?_
    simp only [impl_nodesOf.l0]
    rw [rxI_at l i hi', w64s (by omega), w64 (x := ((n + 1 : Nat) : Int) - 1) (by omega) (by omega), show ((n + 1 : Nat) : Int) - 1 = (n : Int) by omega]
    refine Evt.pos (by omega) (Evt.pos (by omega) (Evt.pos (by omega) (Evt.bind (ih _ (List.getElem_mem hi')) ?_)))
    rw [w64 (by omega) (by omega), show (acc : Int) + ((nds n l[i] : Nat) : Int) = ((acc + nds n l[i] : Nat) : Int) by omega]
    refine (ihd (i + 1) (acc + nds n l[i]) (by omega) (by omega)).cast ?_
    rw [List.drop_eq_getElem_cons hi', List.map_cons, List.sum_cons, Nat.add_assoc]
theorem impl_nodesOf_ev (n : Nat) : n ≤ 6 → ∀ x : S32, Evt (fun k => impl_nodesOf.f k x.f0 x.f1 x.f2 (n : Int)) ((nds n x : Nat) : Int) := by
  induction n with
  | zero =>
    intro _ x
    refine Evt.step ?_
    simp only [impl_nodesOf.f]
    exact Evt.pos (by omega) ((impl_nodesOf_j0t _ _ _ _).cast (by simp [nds]))
  | succ n ih =>
    intro hn x
    refine Evt.step ?_
    simp only [impl_nodesOf.f]
    refine Evt.neg (by omega) (Evt.bind (impl_argsOf_ev _) ?_)
    unfold nds
    by_cases hlen : (x.f2.length : Int) = (if 1 ≤ x.f0 ∧ x.f0 ≤ 9 then (arN x.f0 : Int) else -1)
    · have e : ((x.f2.length : Int) != (if 1 ≤ x.f0 ∧ x.f0 ≤ 9 then (arN x.f0 : Int) else -1)) = false := by simp [hlen]
      rw [e]
      have hr : 1 ≤ x.f0 ∧ x.f0 ≤ 9 := by
        by_cases hr : 1 ≤ x.f0 ∧ x.f0 ≤ 9
        · exact hr
        · rw [if_neg hr] at hlen; omega
      rw [if_pos hr] at hlen
      have ha := arN_le x.f0
      have hj1 : Evt (fun k => impl_nodesOf.j1 k ((n + 1 : Nat) : Int) x.f0 x.f1 x.f2) ((min (1 + (x.f2.map (nds n)).sum) 17 : Nat) : Int) := by
        refine Evt.step ?_
        simp only [impl_nodesOf.j1]
        have := impl_nodesOf_l0 n (by omega) x.f2 (by omega) (fun y _ => ih (by omega) y) x.f2.length 0 1 (by omega) (by omega)
        simpa using this
      refine Evt.step ?_
      simp only [impl_nodesOf.j0]
      refine Evt.neg (by decide) ?_
      by_cases h3 : x.f0 = 3
      · refine Evt.pos h3 ?_
        have h0 : x.f2.length = 0 := by rw [h3] at hlen; simp [arN] at hlen; simp [hlen]
        by_cases h1 : x.f1.size = 1
        · refine Evt.pos (by omega) (Evt.bind (impl_IsWord_ev _ (by omega)) ?_)
          cases hw : isW x.f1 with
          | true => exact Evt.pos rfl (hj1.cast (by simp [kOk, h3, h1, hw, h0]))
          | false => exact Evt.neg (by decide) ((Evt.ret _).cast (by simp [kOk, h3, h1, hw]))
        · exact Evt.neg (by omega) ((Evt.ret _).cast (by simp [kOk, h3, h1]))
      · refine Evt.neg h3 ?_
        by_cases h1 : x.f1.size = 0
        · have h4 : x.f2.length = arN x.f0 := by omega
          exact Evt.pos ((toList_nil_iff _).2 h1) (hj1.cast (by simp [kOk, h3, h1, hr, h4]))
        · exact Evt.neg (fun h => h1 ((toList_nil_iff _).1 h)) ((Evt.ret _).cast (by simp [kOk, h3, h1]))
    · have e : ((x.f2.length : Int) != (if 1 ≤ x.f0 ∧ x.f0 ≤ 9 then (arN x.f0 : Int) else -1)) = true := bne_iff_ne.mpr hlen
      rw [e]
      refine (impl_nodesOf_j0t _ _ _ _).cast ?_
      rw [if_neg]
      · rfl
      · intro hk
        have := kOk_len hk
        refine hlen ?_
        have hr : 1 ≤ x.f0 ∧ x.f0 ≤ 9 := by
          unfold kOk at hk
          split at hk
          · omega
          · simp at hk; exact hk.1.1
        rw [if_pos hr]; omega
theorem impl_IsValidRegex_ev (x : S32) : Evt (fun k => impl_IsValidRegex.f k x.f0 x.f1 x.f2) (decide (nds 6 x ≤ 16)) := by
  simp only [impl_IsValidRegex.f]
  refine Evt.bind (impl_nodesOf_ev 6 (Nat.le_refl _) x) ((Evt.ret _).cast ?_)
  have e : (((nds 6 x : Nat) : Int) ≤ 16) = (nds 6 x ≤ 16) := by apply propext; omega
  simp [e]

theorem spec_l3Left_ev (n : Nat) : ∀ x : S32, Ht n x → ∀ v : Int, 0 ≤ v → v ≤ 16 → ∃ r, Evt (fun k => spec_l3Left.f k x.f0 x.f1 x.f2 v) r ∧ r ≤ 16 ∧ (if (siz n x : Int) ≤ v then r = v - siz n x else r < 0) := by
  induction n with
  | zero => intro x h; exact h.elim
  | succ n ih =>
    rintro ⟨a, b, l⟩ ⟨hl, hm⟩ v h0 h1
    simp only at hl hm
    have hh : ∀ d i : Nat, i + d = l.length → ∀ u : Int, u ≤ 16 → ∃ r, Evt (fun k => spec_l3Left.l0 k u (i : Int) a b l) r ∧ r ≤ 16 ∧ (if ((((l.drop i).map (siz n)).sum : Nat) : Int) ≤ u then r = u - (((l.drop i).map (siz n)).sum : Nat) else r < 0) := by
      intro d
      induction d with
      | zero =>
        intro i hi u hu
        refine ⟨u, Evt.step ?_, hu, ?_⟩
        · simp only [spec_l3Left.l0]
          exact Evt.neg (by omega) (Evt.ret _)
        · rw [List.drop_of_length_le (by omega)]
          simp only [List.map_nil, List.sum_nil]
          split <;> omega
      | succ d ihd =>
        intro i hi u hu
        have hi' : i < l.length := by omega
        rw [List.drop_eq_getElem_cons hi', List.map_cons, List.sum_cons]
        by_cases hu0 : u ≥ 0
        · obtain ⟨r, hr, hr', hc⟩ := ih l[i] (hm _ (List.getElem_mem hi')) u hu0 hu
          obtain ⟨r2, hr2, hr2', hc2⟩ := ihd (i + 1) (by omega) r hr'
          refine ⟨r2, Evt.step ?_, hr2', ?_⟩
          · simp only [spec_l3Left.l0]
            rw [rxI_at l i hi', w64s (by omega)]
            exact Evt.pos (by omega) (Evt.pos hu0 (Evt.pos (by omega) (Evt.bind hr hr2)))
          · generalize (((l.drop (i + 1)).map (siz n)).sum) = s at *
            generalize siz n l[i] = t at *
            split at hc <;> split at hc2 <;> split <;> omega
        · refine ⟨u, Evt.step ?_, hu, ?_⟩
          · simp only [spec_l3Left.l0]
            exact Evt.pos (by omega) (Evt.neg hu0 (Evt.ret _))
          · rw [if_neg (by omega)]; omega
    obtain ⟨r, hr, hr', hc⟩ := hh l.length 0 (by omega) (v - 1) (by omega)
    refine ⟨r, Evt.step ?_, hr', ?_⟩
    · simp only [spec_l3Left.f]
      rw [w64 (by omega) (by omega)]
      exact hr
    · rw [List.drop_zero] at hc
      have e : siz (n + 1) (⟨a, b, l⟩ : S32) = 1 + (l.map (siz n)).sum := by simp [siz]
      by_cases hs : ((siz (n + 1) (⟨a, b, l⟩ : S32) : Nat) : Int) ≤ v
      · rw [if_pos hs]
        rw [if_pos (by omega)] at hc
        omega
      · rw [if_neg hs]
        rw [if_neg (by omega)] at hc
        exact hc
theorem mem_sum {n : Nat} (l : List S32) (y : S32) (h : y ∈ l) : siz n y ≤ (l.map (siz n)).sum := by
  induction l with
  | nil => cases h
  | cons x l ih =>
    rw [List.map_cons, List.sum_cons]
    rcases List.mem_cons.1 h with rfl | h
    · omega
    · have := ih h; omega
theorem spec_l3Depth_ev (n : Nat) : ∀ x : S32, Ht n x → siz n x ≤ 16 → Evt (fun k => spec_l3Depth.f k x.f0 x.f1 x.f2) (dep n x : Int) := by
  induction n with
  | zero => intro x h; exact h.elim
  | succ n ih =>
    rintro ⟨a, b, l⟩ ⟨hl, hm⟩ hs
    simp only at hl hm
    simp only [siz] at hs
    have hx : ∀ y ∈ l, siz n y ≤ 16 := by
      intro y hy
      have : siz n y ≤ (l.map (siz n)).sum := mem_sum l y hy
      omega
    have hh : ∀ d i : Nat, i + d = l.length → ∀ u : Nat, u ≤ 16 → Evt (fun k => spec_l3Depth.l0 k (u : Int) (i : Int) a b l) ((max u (((l.drop i).map (dep n)).foldr max 0) + 1 : Nat) : Int) := by
      intro d
      induction d with
      | zero =>
        intro i hi u hu
        refine Evt.step ?_
        simp only [spec_l3Depth.l0]
        rw [List.drop_of_length_le (by omega)]
        refine Evt.neg (by omega) ((Evt.ret _).cast ?_)
        rw [w64 (by omega) (by omega)]
        simp
      | succ d ihd =>
        intro i hi u hu
        have hi' : i < l.length := by omega
        have h1 := hx _ (List.getElem_mem hi')
        have h2 := dep_le_siz n l[i]
        refine Evt.step ?_
        simp only [spec_l3Depth.l0]
        rw [List.drop_eq_getElem_cons hi', List.map_cons, List.foldr_cons]
        rw [rxI_at l i hi', w64s (by omega)]
        refine Evt.pos (by omega) (Evt.pos (by omega) (Evt.bind (ih _ (hm _ (List.getElem_mem hi')) h1) (Evt.bindc (a := ((max u (dep n l[i]) : Nat) : Int)) ?_ ?_)))
        · simp only [spec_l1Max.f]
          split
          · congr 1; omega
          · congr 1; omega
        · refine (ihd (i + 1) (by omega) (max u (dep n l[i])) (by omega)).cast ?_
          congr 1
          generalize ((l.drop (i + 1)).map (dep n)).foldr max 0 = z
          omega
    refine Evt.step ?_
    simp only [spec_l3Depth.f]
    refine (hh l.length 0 (by omega) 0 (by omega)).cast ?_
    simp [dep]
theorem spec_l3Args_ev (a : Int) : Evt (fun k => spec_l3Args.f k a) (arN a : Int) := by
  refine ⟨1, fun k hk => ?_⟩
  obtain ⟨m, rfl⟩ : ∃ m, k = m + 1 := ⟨k - 1, by omega⟩
  have h : a = 5 ∨ a = 6 ∨ a = 7 ∨ a = 8 ∨ a = 9 ∨ (a ≠ 5 ∧ a ≠ 6 ∧ a ≠ 7 ∧ a ≠ 8 ∧ a ≠ 9) := by omega
  rcases h with rfl | rfl | rfl | rfl | rfl | ⟨h1, h2, h3, h4, h5⟩
  all_goals simp [spec_l3Args.f, spec_l3Args.j0, arN, *]
theorem spec_l3All_ev (n : Nat) : ∀ x : S32, Ht n x → Evt (fun k => spec_l3All.f k x.f0 x.f1 x.f2) (alls n x) := by
  induction n with
  | zero => intro x h; exact h.elim
  | succ n ih =>
    rintro ⟨a, b, l⟩ ⟨hl, hm⟩
    simp only at hl hm
    refine Evt.step ?_
    simp only [spec_l3All.f, alls]
    have hh := Evt.up (fun k i => spec_l3All.l0 k i a b l) l.length (fun i => (l.drop i).all (alls n) && kOk a b l.length) ?_ ?_
    · simpa using hh
    · refine Evt.step ?_
      simp only [spec_l3All.l0]
      rw [List.drop_of_length_le (by omega)]
      refine Evt.neg (by omega) ?_
      simp only [List.all_nil, Bool.true_and]
      unfold kOk
      by_cases h3 : a = 3
      · rw [if_pos h3]
        refine Evt.pos h3 ?_
        by_cases h1 : b.size = 1
        · refine Evt.pos (by omega) (Evt.bind (spec_IsWord_ev _ (by omega)) ?_)
          cases hw : isW b with
          | true =>
            refine Evt.pos rfl ((Evt.ret _).cast ?_)
            have e : ((l.length : Int) == 0) = decide (l.length = 0) := by rw [show ((l.length : Int) == 0) = decide ((l.length : Int) = 0) from rfl]; congr 1; apply propext; omega
            simp [h1, e]
          | false => exact Evt.neg (by decide) ((Evt.ret _).cast (by simp))
        · exact Evt.neg (by omega) ((Evt.ret _).cast (by simp [h1]))
      · rw [if_neg h3]
        refine Evt.neg h3 ?_
        by_cases hr : 1 ≤ a ∧ a ≤ 9
        · refine Evt.bindc (a := true) (by simp [spec_l1In.f, hr.1, hr.2]) (Evt.pos rfl ?_)
          by_cases h1 : b.size = 0
          · refine Evt.pos ((toList_nil_iff _).2 h1) (Evt.bind (spec_l3Args_ev _) ((Evt.ret _).cast ?_))
            have e : ((l.length : Int) == (arN a : Int)) = decide (l.length = arN a) := by rw [show ((l.length : Int) == (arN a : Int)) = decide ((l.length : Int) = (arN a : Int)) from rfl]; congr 1; apply propext; omega
            simp [h1, hr.1, hr.2, e]
          · exact Evt.neg (fun h => h1 ((toList_nil_iff _).1 h)) ((Evt.ret _).cast (by simp [h1]))
        · refine Evt.bindc (a := false) ?_ (Evt.neg (by decide) ((Evt.ret _).cast (by simp [hr])))
          simp only [spec_l1In.f]
          by_cases hr1 : a ≥ 1
          · rw [if_pos hr1]; congr 1; simp; omega
          · rw [if_neg hr1]
    · intro i hi h
      refine Evt.step ?_
      simp only [spec_l3All.l0]
      rw [rxI_at l i hi, w64s (by omega), List.drop_eq_getElem_cons hi]
      refine Evt.pos (by omega) (Evt.pos (by omega) (Evt.bind (ih _ (hm _ (List.getElem_mem hi))) ?_))
      rw [List.all_cons]
      cases alls n l[i] with
      | true => exact Evt.pos rfl (h.cast (by simp))
      | false => exact Evt.neg (by decide) ((Evt.ret _).cast (by simp))
theorem spec_IsValidRegex_ev (x : S32) (h : Sm x) : Evt (fun k => spec_IsValidRegex.f k x.f0 x.f1 x.f2) (decide (nds 6 x ≤ 16)) := by
  obtain ⟨n, hn⟩ := h.ht
  rw [nds_eq n x 6 hn]
  simp only [spec_IsValidRegex.f]
  obtain ⟨r, hr, _, hc⟩ := spec_l3Left_ev n x hn 16 (by omega) (by omega)
  refine Evt.bind hr ?_
  by_cases h1 : siz n x ≤ 16
  · rw [if_pos (by omega)] at hc
    refine Evt.pos (by omega) (Evt.bind (spec_l3Depth_ev n x hn h1) ?_)
    by_cases h2 : dep n x ≤ 6
    · refine Evt.pos (by omega) (Evt.bind (spec_l3All_ev n x hn) ((Evt.ret _).cast ?_))
      cases ha : alls n x <;> simp [h1, h2]
    · exact Evt.neg (by omega) ((Evt.ret _).cast (by simp [h2]))
  · rw [if_neg (by omega)] at hc
    exact Evt.neg (by omega) ((Evt.ret _).cast (by simp [h1]))

end Go.Proofs.YtdchpohiiigobaaDoor.F


namespace Go.Proofs.YtdchpohiiigobaaDoor.F
set_option linter.unusedVariables false
set_option linter.unusedSimpArgs false
open Go.RowKit Go.Proofs.YtdchpohiiigobaaDoorW.PrintWords Go.Proofs.YtdchpohiiigobaaDoor.Pl Go.Proofs.YtdchpohiiigobaaDoor.A Go.Proofs.YtdchpohiiigobaaDoor.Ext

theorem eqRegex_ev (x : S32) (h : Sm x) : Evt (fun k => laws_eqRegex.f k x.f0 x.f1 x.f2 x.f0 x.f1 x.f2) true := by
  induction h with
  | mk a b l hl hs _ ih =>
    refine Evt.step ?_
    simp only [laws_eqRegex.f]
    refine Evt2.diag (g := fun i j => laws_eqRegexG.f (fun _ => laws_eqRegex.f i) j a b l a b l) ?_
    simp only [laws_eqRegexG.f, laws_eqRegexSG.f]
    refine Evt2.pos trivial (Evt2.pos trivial (Evt2.bind2 (a := true) (Evt2.pos trivial ?_) (Evt2.pos rfl (Evt2.ret _))))
    have hh : ∀ d i : Nat, i + d = l.length → Evt2 (fun p q => laws_eqRegexSG.l0 (fun _ => laws_eqRegex.f p) q l l (i : Int)) true := by
      intro d
      induction d with
      | zero =>
        intro i hi
        refine Evt2.step ?_
        simp only [laws_eqRegexSG.l0]
        exact Evt2.neg (by omega) (Evt2.ret _)
      | succ d ihd =>
        intro i hi
        have hi' : i < l.length := by omega
        refine Evt2.step ?_
        simp only [laws_eqRegexSG.l0]
        rw [rxI_at l i hi', w64s (by omega)]
        exact Evt2.pos (by omega) (Evt2.pos (by omega) (Evt2.pos (by omega) (Evt2.bind (ih _ (List.getElem_mem hi')) (Evt2.pos rfl (ihd (i + 1) (by omega))))))
    exact hh l.length 0 (by omega)

end Go.Proofs.YtdchpohiiigobaaDoor.F


namespace Go.Proofs.YtdchpohiiigobaaDoor.F
set_option linter.unusedVariables false
set_option linter.unusedSimpArgs false
open Go.RowKit Go.Proofs.YtdchpohiiigobaaDoorW.PrintWords Go.Proofs.YtdchpohiiigobaaDoor.Pl Go.Proofs.YtdchpohiiigobaaDoor.A

theorem szIntS_eq (l : List Int) (a : Int) (ha : -1 ≤ a) (ha' : a ≤ 1048576) (hl : l.length ≤ 9223372036854775807) :
    ∃ t, laws_szIntS.f l a = some t ∧ (t = -1 ∨ (0 ≤ t ∧ t = a - l.length)) := by
  unfold laws_szIntS.f
  rw [w64_sub ha ha' hl]
  by_cases h1 : a - l.length < 0
  · exact ⟨-1, by rw [if_pos h1], .inl rfl⟩
  · rw [if_neg h1]; exact ⟨_, rfl, .inr ⟨by omega, rfl⟩⟩
theorem set_next (l : List Int) (i n : Nat) (hn : l.length = n) (hi : i < n) : (l.take i ++ List.replicate (n - i) 0).set i (rd l (i : Int)) = l.take (i + 1) ++ List.replicate (n - (i + 1)) 0 := by
  have hl : (l.take i).length = i := by rw [List.length_take]; omega
  have e : rd l (i : Int) = l[i] := by simp [rd, show i < l.length by omega]
  rw [List.set_append_right _ _ (by omega), hl, Nat.sub_self, show n - i = (n - (i + 1)) + 1 by omega, List.replicate_succ, List.set_cons_zero, List.take_succ_eq_append_getElem (by omega), e, List.append_assoc]
  rfl
theorem toIntS_ev (l : List Int) (hl : l.length ≤ 35184372088832) : Evt (fun k => laws_toIntS.f k l) l := by
  simp only [laws_toIntS.f]
  refine Evt.pos (by omega) (Evt.pos (by omega) ?_)
  rw [Int.toNat_natCast]
  have h : ∀ d i : Nat, i + d = l.length → Evt (fun k => laws_toIntS.l0 k l (l.take i ++ List.replicate (l.length - i) 0) (i : Int)) l := by
    intro d
    induction d with
    | zero =>
      intro i hi
      refine Evt.step ?_
      simp only [laws_toIntS.l0]
      refine Evt.neg (by omega) (Evt.const ?_)
      obtain rfl : i = l.length := by omega
      simp
    | succ d ih =>
      intro i hi
      refine Evt.step ?_
      simp only [laws_toIntS.l0]
      rw [w64s (by omega), Int.toNat_natCast, set_next l i l.length rfl (by omega)]
      exact Evt.pos (by omega) (Evt.pos (by omega) (Evt.pos (by simp; omega) (ih (i + 1) (by omega))))
  simpa using h l.length 0 (by omega)
theorem eqIntS_ev (l l' : List Int) (hl : l.length ≤ 9223372036854775807) : Evt (fun k => laws_eqIntS.f k l l') (decide (l = l')) := by
  simp only [laws_eqIntS.f]
  by_cases he : l.length = l'.length
  · refine Evt.pos (by omega) ?_
    have h := Evt.up (fun k i => laws_eqIntS.l0 k l l' i) l.length (fun i => decide (l.drop i = l'.drop i)) ?_ ?_
    · simpa using h
    · refine Evt.step ?_
      simp only [laws_eqIntS.l0]
      refine Evt.neg (by omega) (Evt.const ?_)
      rw [List.drop_of_length_le (Nat.le_refl _), List.drop_of_length_le (by omega)]
      rfl
    · intro i hi h
      refine Evt.step ?_
      simp only [laws_eqIntS.l0]
      have hi' : i < l'.length := by omega
      refine Evt.pos (by omega) (Evt.pos (by omega) (Evt.pos (by omega) ?_))
      rw [List.drop_eq_getElem_cons hi, List.drop_eq_getElem_cons hi', w64s (by omega)]
      have e1 : rd l (i : Int) = l[i] := by simp [rd, hi]
      have e2 : rd l' (i : Int) = l'[i] := by simp [rd, hi']
      rw [e1, e2]
      by_cases hc : l[i] = l'[i]
      · exact Evt.pos hc (h.cast (by rw [hc]; simp only [List.cons.injEq, true_and]))
      · exact Evt.neg hc (Evt.const (by rw [decide_eq_false (fun e => hc (List.cons.inj e).1)]))
  · refine Evt.neg (by omega) (Evt.const ?_)
    have : l ≠ l' := fun e => he (by rw [e])
    simp [this]

end Go.Proofs.YtdchpohiiigobaaDoor.F


namespace Go.Proofs.YtdchpohiiigobaaDoor.F
set_option linter.unusedVariables false
set_option linter.unusedSimpArgs false
open Go.RowKit Go.Proofs.YtdchpohiiigobaaDoorW.PrintWords Go.Proofs.YtdchpohiiigobaaDoor.Pl Go.Proofs.YtdchpohiiigobaaDoor.A Go.Proofs.YtdchpohiiigobaaDoor.Ext

/-- A copy of a constraint: of its expression, that is. -/
def CpC (a : Int) (b c : ByteArray) (d : Int) (e : ByteArray) (l : List S24) (m : List Int) (n : Int) (y : List S32) : Prop :=
  Sm ⟨d, e, y⟩ ∧ m.length ≤ 1048576 ∧ Evt (fun k => laws_toConstraint.f k a b c d e l m n) (a, b, c, d, e, y, m, n)
theorem szConstraint_ev (a : Int) (b c : ByteArray) (d : Int) (e : ByteArray) (l : List S24) (m : List Int) (n : Int) (N : Nat) (v : Int) (hv : 0 ≤ v) (hv' : v ≤ 1048576) (hb : b.size ≤ 9223372036854775807) (hc : c.size ≤ 9223372036854775807) (hr : RxOk N ⟨d, e, l⟩) (hm : m.length ≤ 9223372036854775807) :
    ∃ t, Evt (fun k => laws_szConstraint.f k a b c d e l m n v) t ∧ (t = -1 ∨ (0 ≤ t ∧ t ≤ v ∧ ∃ y, CpC a b c d e l m n y)) := by
  simp only [laws_szConstraint.f]
  rw [w64_sub (by omega) (by omega) hb]
  by_cases c1 : v - b.size < 0
  · exact ⟨-1, Evt.pos c1 (Evt.ret _), .inl rfl⟩
  rw [w64_sub (by omega) (by omega) hc]
  by_cases c2 : v - b.size - c.size < 0
  · exact ⟨-1, Evt.neg c1 (Evt.pos c2 (Evt.ret _)), .inl rfl⟩
  obtain ⟨t, ht, h1⟩ := szRegex_ev N ⟨d, e, l⟩ hr (v - b.size - c.size) (by omega) (by omega)
  simp only at ht
  rcases h1 with rfl | ⟨h1, h2, h3⟩
  · exact ⟨-1, Evt.neg c1 (Evt.neg c2 (Evt.bind ht (Evt.pos (by decide) (Evt.ret _)))), .inl rfl⟩
  obtain ⟨u, hu, h4⟩ := szIntS_eq m t (by omega) (by omega) hm
  rcases h4 with rfl | ⟨h4, h5⟩
  · exact ⟨-1, Evt.neg c1 (Evt.neg c2 (Evt.bind ht (Evt.neg (by omega) (Evt.bindc hu (Evt.pos (by decide) (Evt.ret _)))))), .inl rfl⟩
  refine ⟨u, Evt.neg c1 (Evt.neg c2 (Evt.bind ht (Evt.neg (by omega) (Evt.bindc hu (Evt.neg (by omega) (Evt.ret _)))))), .inr ⟨h4, by omega, ?_⟩⟩
  obtain ⟨⟨d', e', y⟩, hs, he⟩ := h3
  simp only at he
  have hde : d' = d ∧ e' = e := by
    obtain ⟨K, hK⟩ := he
    have h6 := hK (K + 1) (by omega)
    simp only [laws_toRegex.f, laws_toRegexG.f] at h6
    obtain ⟨z, _, h7⟩ := Option.bind_eq_some_iff.mp h6
    simp only [Option.some.injEq, Prod.mk.injEq] at h7
    exact ⟨h7.1.symm, h7.2.1.symm⟩
  obtain ⟨rfl, rfl⟩ := hde
  refine ⟨y, hs, by omega, ?_⟩
  simp only [laws_toConstraint.f]
  exact Evt.bind he (Evt.bind (toIntS_ev m (by omega)) (Evt.ret _))
theorem eqConstraint_ev (a : Int) (b c : ByteArray) (d : Int) (e : ByteArray) (y : List S32) (m : List Int) (n : Int) (hy : Sm ⟨d, e, y⟩) (hm : m.length ≤ 1048576) : Evt (fun k => laws_eqConstraint.f k a b c d e y m n a b c d e y m n) true := by
  simp only [laws_eqConstraint.f]
  exact Evt.pos trivial (Evt.pos trivial (Evt.pos trivial (Evt.bind (eqRegex_ev _ hy) (Evt.pos rfl (Evt.bind (eqIntS_ev m m (by omega)) (Evt.pos (by simp) (Evt.pos trivial (Evt.ret _))))))))

end Go.Proofs.YtdchpohiiigobaaDoor.F


namespace Go.Proofs.YtdchpohiiigobaaDoor.F
set_option linter.unusedVariables false
set_option linter.unusedSimpArgs false
open Go.RowKit Go.Proofs.YtdchpohiiigobaaDoorW.PrintWords Go.Proofs.YtdchpohiiigobaaDoor.Pl Go.Proofs.YtdchpohiiigobaaDoor.A Go.Proofs.YtdchpohiiigobaaDoor.Ext

def zR (d : Int) (e : ByteArray) (l : List S32) : Bool := decide (d = 0) && decide (e.size = 0) && ((l.length : Int) == 0)
theorem spec_l9Zero_eq (d : Int) (e : ByteArray) (l : List S32) : spec_l9Zero.f d e l = some (zR d e l) := by
  unfold spec_l9Zero.f zR
  by_cases h1 : d = 0
  · by_cases h2 : e.size = 0
    · rw [if_pos h1, if_pos ((toList_nil_iff _).2 h2)]; simp [h1, h2]
    · rw [if_pos h1, if_neg (fun h => h2 ((toList_nil_iff _).1 h))]; simp [h2]
  · rw [if_neg h1]; simp [h1]
theorem impl_isZeroRegex_eq (d : Int) (e : ByteArray) (l : List S32) : impl_isZeroRegex.f d e l = some (zR d e l) := by
  unfold impl_isZeroRegex.f zR
  by_cases h1 : d = 0
  · by_cases h2 : e.size = 0
    · rw [if_pos h1, if_pos ((toList_nil_iff _).2 h2)]; simp [h1, h2]
    · rw [if_pos h1, if_neg (fun h => h2 ((toList_nil_iff _).1 h))]; simp [h2]
  · rw [if_neg h1]; simp [h1]
def inR (a lo hi : Int) : Bool := decide (lo ≤ a ∧ a ≤ hi)
theorem spec_l1In_eq (a lo hi : Int) : spec_l1In.f a lo hi = some (inR a lo hi) := by
  unfold spec_l1In.f inR
  by_cases h : a ≥ lo
  · rw [if_pos h]; congr 1; simp [show lo ≤ a from h]
  · rw [if_neg h]; congr 1; simp; omega
theorem impl_within_eq (a lo hi : Int) : impl_within.f a lo hi = some (inR a lo hi) := by
  unfold impl_within.f inR
  by_cases h : a ≥ lo
  · rw [if_pos h]; congr 1; simp [show lo ≤ a from h]
  · rw [if_neg h]; congr 1; simp; omega
def cfs (m : List Int) : Bool := m.all fun c => inR c (-9) 9
theorem rdI_at (m : List Int) (i : Nat) (h : i < m.length) : rd m (i : Int) = m[i] := by simp [rd, h]
theorem spec_l9Coeffs_ev (m : List Int) (hm : m.length ≤ 1048576) : Evt (fun k => spec_l9Coeffs.f k m) (cfs m && ((m.length : Int) == 3)) := by
  have h := Evt.up (fun k i => spec_l9Coeffs.l0 k m i) m.length (fun i => cfs (m.drop i) && ((m.length : Int) == 3)) ?_ ?_
  · simpa [spec_l9Coeffs.f] using h
  · refine Evt.step ?_
    simp only [spec_l9Coeffs.l0]
    rw [List.drop_of_length_le (by omega)]
    exact Evt.neg (by omega) ((Evt.ret _).cast (by simp [cfs]))
  · intro i hi h
    refine Evt.step ?_
    simp only [spec_l9Coeffs.l0]
    rw [rdI_at m i hi, w64s (by omega), List.drop_eq_getElem_cons hi]
    refine Evt.pos (by omega) (Evt.pos (by omega) (Evt.bindc (spec_l1In_eq _ _ _) ?_))
    have e : cfs (m[i] :: m.drop (i + 1)) = (inR m[i] (-9) 9 && cfs (m.drop (i + 1))) := rfl
    rw [e]
    cases inR m[i] (-9) 9 with
    | true => exact Evt.pos rfl (h.cast (by simp))
    | false => exact Evt.neg (by decide) ((Evt.ret _).cast (by simp))
theorem impl_coeffs_ev (m : List Int) (hm : m.length ≤ 1048576) : Evt (fun k => slices_ContainsFunc_int_int.f k m) (!cfs m) := by
  simp only [slices_ContainsFunc_int_int.f, slices_IndexFunc_int_int.f]
  have h : ∀ d i : Nat, i + d = m.length → ∃ r, Evt (fun k => slices_IndexFunc_int_int.l0 k m (m.length : Int) (i : Int)) r ∧ decide (r ≥ 0) = !cfs (m.drop i) := by
    intro d
    induction d with
    | zero =>
      intro i hi
      refine ⟨-1, Evt.step ?_, ?_⟩
      · simp only [slices_IndexFunc_int_int.l0]
        exact Evt.neg (by omega) (Evt.ret _)
      · rw [List.drop_of_length_le (by omega)]; rfl
    | succ d ih =>
      intro i hi
      have hi' : i < m.length := by omega
      have e : cfs (m[i] :: m.drop (i + 1)) = (inR m[i] (-9) 9 && cfs (m.drop (i + 1))) := rfl
      rw [List.drop_eq_getElem_cons hi', e]
      obtain ⟨r, hr, hc⟩ := ih (i + 1) (by omega)
      cases hq : inR m[i] (-9) 9 with
      | true =>
        refine ⟨r, Evt.step ?_, by simpa using hc⟩
        simp only [slices_IndexFunc_int_int.l0, impl_IsValidConstraint_1.f]
        rw [rdI_at m i hi', w64s (by omega)]
        exact Evt.pos (by omega) (Evt.pos (by omega) (Evt.pos (by omega) (Evt.bind (Evt.bindc (impl_within_eq _ _ _) (Evt.ret _)) (Evt.neg (by simp [hq]) hr))))
      | false =>
        refine ⟨(i : Int), Evt.step ?_, by simp⟩
        simp only [slices_IndexFunc_int_int.l0, impl_IsValidConstraint_1.f]
        rw [rdI_at m i hi']
        exact Evt.pos (by omega) (Evt.pos (by omega) (Evt.pos (by omega) (Evt.bind (Evt.bindc (impl_within_eq _ _ _) (Evt.ret _)) (Evt.pos (by simp [hq]) (Evt.ret _)))))
  obtain ⟨r, hr, hc⟩ := h m.length 0 (by omega)
  exact Evt.bind hr ((Evt.ret _).cast (by rw [hc]; rfl))
/-- Whether a constraint is valid, but for its numbers (x: it has none). -/
def valX (x : Bool) (a : Int) (b c : ByteArray) (d : Int) (e : ByteArray) (l : List S32) (m : List Int) (n : Int) : Bool :=
  if a = 1 ∨ a = 2 then isTm b && (isTm c && (zR d e l && x))
  else if a = 3 ∨ a = 4 then isTm b && (decide (c.size = 0) && (decide (nds 6 ⟨d, e, l⟩ ≤ 16) && x))
  else if a = 5 then decide (b.size = 0) && (decide (c.size = 0) && (zR d e l && ((cfs m && ((m.length : Int) == 3)) && inR n (-99) 99)))
  else false
def valC (a : Int) (b c : ByteArray) (d : Int) (e : ByteArray) (l : List S32) (m : List Int) (n : Int) : Bool :=
  valX (decide (m.length = 0) && (n == 0)) a b c d e l m n
section
variable {a : Int} {b c : ByteArray} {d : Int} {e : ByteArray} {l : List S32} {m : List Int} {n : Int}
theorem and_ev {g h : Nat → Option Bool} {p q : Bool} (hg : Evt g p) (hh : p = true → Evt h q) : Evt (fun k => (g k).bind fun t => if t = true then h k else some false) (p && q) := by
  refine Evt.bind hg ?_
  cases p with
  | true => exact Evt.pos rfl ((hh rfl).cast (by simp))
  | false => exact Evt.neg (by decide) ((Evt.ret _).cast (by simp))
theorem nil_ev {s : ByteArray} {h : Nat → Option Bool} {q : Bool} (hh : s.size = 0 → Evt h q) : Evt (fun k => if s.toList = ([] : List UInt8) then h k else some false) (decide (s.size = 0) && q) := by
  by_cases hs : s.size = 0
  · exact Evt.pos ((toList_nil_iff _).2 hs) ((hh hs).cast (by simp [hs]))
  · exact Evt.neg (fun h => hs ((toList_nil_iff _).1 h)) ((Evt.ret _).cast (by simp [hs]))
theorem last_ev {g : Nat → Option Bool} {p : Bool} (hg : Evt g p) : Evt (fun k => (g k).bind fun t => some t) p := Evt.bind hg (Evt.ret _)
theorem spec_j1t (x : Bool) (v : Int) (hb : b.size ≤ 9223372036854775807) (hc : c.size ≤ 9223372036854775807) : Evt (fun k => spec_IsValidConstraint.j1 k x v true a b c d e l m n) (isTm b && (isTm c && (zR d e l && x))) := by
  refine Evt.step ?_
  simp only [spec_IsValidConstraint.j1]
  exact Evt.pos trivial (and_ev (spec_IsTerm_ev b hb) fun _ => and_ev (spec_IsTerm_ev c hc) fun _ => and_ev (Evt.const (spec_l9Zero_eq d e l)) fun _ => Evt.ret _)
theorem spec_j2t (x : Bool) (v : Int) (hb : b.size ≤ 9223372036854775807) (hr : Sm ⟨d, e, l⟩) : Evt (fun k => spec_IsValidConstraint.j2 k x v true a b c d e l m n) (isTm b && (decide (c.size = 0) && (decide (nds 6 ⟨d, e, l⟩ ≤ 16) && x))) := by
  refine Evt.step ?_
  simp only [spec_IsValidConstraint.j2]
  exact Evt.pos trivial (and_ev (spec_IsTerm_ev b hb) fun _ => nil_ev fun _ => and_ev (spec_IsValidRegex_ev ⟨d, e, l⟩ hr) fun _ => Evt.ret _)
theorem spec_IsValidConstraint_ev (hb : b.size ≤ 9223372036854775807) (hc : c.size ≤ 9223372036854775807) (hr : Sm ⟨d, e, l⟩) (hm : m.length ≤ 1048576) : Evt (fun k => spec_IsValidConstraint.f k a b c d e l m n) (valC a b c d e l m n) := by
  have hj : ∀ x : Bool, Evt (fun k => spec_IsValidConstraint.j0 k x a b c d e l m n) (valX x a b c d e l m n) := by
    intro x
    refine Evt.step ?_
    simp only [spec_IsValidConstraint.j0]
    unfold valX
    by_cases h1 : a = 1
    · subst h1; exact Evt.pos rfl ((spec_j1t x _ hb hc).cast (by simp))
    refine Evt.neg h1 ?_
    by_cases h2 : a = 2
    · subst h2; exact (spec_j1t x _ hb hc).cast (by simp)
    rw [show (a == 2) = false by simpa using h2, if_neg (by omega)]
    refine Evt.step ?_
    simp only [spec_IsValidConstraint.j1]
    refine Evt.neg (by decide) ?_
    by_cases h3 : a = 3
    · subst h3; exact Evt.pos rfl ((spec_j2t x _ hb hr).cast (by simp))
    refine Evt.neg h3 ?_
    by_cases h4 : a = 4
    · subst h4; exact (spec_j2t x _ hb hr).cast (by simp)
    rw [show (a == 4) = false by simpa using h4, if_neg (by omega)]
    refine Evt.step ?_
    simp only [spec_IsValidConstraint.j2]
    refine Evt.neg (by decide) ?_
    by_cases h5 : a = 5
    · rw [if_pos h5]
      exact Evt.pos h5 (nil_ev fun _ => nil_ev fun _ => and_ev (Evt.const (spec_l9Zero_eq d e l)) fun _ => and_ev (spec_l9Coeffs_ev m hm) fun _ => last_ev (Evt.const (spec_l1In_eq _ _ _)))
    · rw [if_neg h5]
      exact Evt.neg h5 (Evt.ret _)
  simp only [spec_IsValidConstraint.f]
  unfold valC
  by_cases h0 : m.length = 0
  · exact Evt.pos (by omega) ((hj _).cast (by simp [h0]))
  · exact Evt.neg (by omega) ((hj _).cast (by simp [h0]))
theorem impl_j1t (v : Int) : Evt (fun k => impl_IsValidConstraint.j1 k v true a b c d e l m n) (isTm b && (isTm c && (zR d e l))) := by
  refine Evt.step ?_
  simp only [impl_IsValidConstraint.j1]
  exact Evt.pos trivial (and_ev (impl_IsTerm_ev b) fun _ => and_ev (impl_IsTerm_ev c) fun _ => last_ev (Evt.const (impl_isZeroRegex_eq d e l)))
theorem impl_j2t (v : Int) : Evt (fun k => impl_IsValidConstraint.j2 k v true a b c d e l m n) (isTm b && (decide (c.size = 0) && (decide (nds 6 ⟨d, e, l⟩ ≤ 16)))) := by
  refine Evt.step ?_
  simp only [impl_IsValidConstraint.j2]
  exact Evt.pos trivial (and_ev (impl_IsTerm_ev b) fun _ => nil_ev fun _ => last_ev (impl_IsValidRegex_ev ⟨d, e, l⟩))
theorem impl_j0t : Evt (fun k => impl_IsValidConstraint.j0 k true a b c d e l m n) false := by
  refine Evt.step ?_
  simp only [impl_IsValidConstraint.j0]
  exact Evt.pos trivial (Evt.ret _)
theorem impl_IsValidConstraint_ev (hm : m.length ≤ 1048576) : Evt (fun k => impl_IsValidConstraint.f k a b c d e l m n) (valC a b c d e l m n) := by
  have hj : Evt (fun k => impl_IsValidConstraint.j0 k false a b c d e l m n) (valX true a b c d e l m n) := by
    refine Evt.step ?_
    simp only [impl_IsValidConstraint.j0]
    unfold valX
    refine Evt.neg (by decide) ?_
    by_cases h1 : a = 1
    · subst h1; exact Evt.pos rfl ((impl_j1t _).cast (by simp))
    refine Evt.neg h1 ?_
    by_cases h2 : a = 2
    · subst h2; exact (impl_j1t _).cast (by simp)
    rw [show (a == 2) = false by simpa using h2, if_neg (by omega)]
    refine Evt.step ?_
    simp only [impl_IsValidConstraint.j1]
    refine Evt.neg (by decide) ?_
    by_cases h3 : a = 3
    · subst h3; exact Evt.pos rfl ((impl_j2t _).cast (by simp))
    refine Evt.neg h3 ?_
    by_cases h4 : a = 4
    · subst h4; exact (impl_j2t _).cast (by simp)
    rw [show (a == 4) = false by simpa using h4, if_neg (by omega)]
    refine Evt.step ?_
    simp only [impl_IsValidConstraint.j2]
    refine Evt.neg (by decide) ?_
    by_cases h5 : a = 5
    · rw [if_pos h5]
      refine Evt.pos h5 (nil_ev fun _ => nil_ev fun _ => and_ev (Evt.const (impl_isZeroRegex_eq d e l)) fun _ => ?_)
      by_cases h3' : m.length = 3
      · refine Evt.pos (by omega) ?_
        rw [show ((m.length : Int) == 3) = true by simp [h3'], Bool.and_true, Bool.and_comm (cfs m)]
        exact and_ev (Evt.const (impl_within_eq _ _ _)) fun _ => Evt.bind (impl_coeffs_ev m hm) ((Evt.ret _).cast (by simp))
      · refine Evt.neg (by omega) ((Evt.ret _).cast ?_)
        have e3 : ((m.length : Int) == 3) = false := by simp; omega
        simp [e3]
    · rw [if_neg h5]
      exact Evt.neg h5 (Evt.ret _)
  simp only [impl_IsValidConstraint.f]
  unfold valC
  have hx : ∀ x, a = 5 → valX x a b c d e l m n = valX true a b c d e l m n := by
    intro x h; subst h; simp [valX]
  have hy : ¬ a = 5 → valX false a b c d e l m n = false := by
    intro h; unfold valX; simp [h]
  by_cases h5 : a = 5
  · exact Evt.pos h5 (hj.cast (hx _ h5).symm)
  refine Evt.neg h5 ?_
  by_cases h0 : m.length = 0
  · refine Evt.pos (by omega) ?_
    by_cases hn : n = 0
    · rw [show (n != 0) = false by simp [hn]]
      exact hj.cast (by simp [h0, hn])
    · rw [show (n != 0) = true by simp [hn]]
      exact impl_j0t.cast (by rw [show (n == 0) = false by simp [hn]]; simp [hy h5])
  · exact Evt.neg (by omega) (impl_j0t.cast (by simp [h0, hy h5]))
end
end Go.Proofs.YtdchpohiiigobaaDoor.F


namespace Go.Proofs.YtdchpohiiigobaaDoor.F
set_option linter.unusedVariables false
set_option linter.unusedSimpArgs false
open Go Go.RowKit Go.Proofs.YtdchpohiiigobaaDoorW.PrintWords Go.Proofs.YtdchpohiiigobaaDoor.Pl Go.Proofs.YtdchpohiiigobaaDoor.A Go.Proofs.YtdchpohiiigobaaDoor.Ext

def nmB (l : List UInt8) : List Int := l.map fun b => (b.toNat : Int)
theorem strOfNums_nmB (l : List UInt8) : strOfNums (nmB l) = ⟨l.toArray⟩ := by
  simp [strOfNums, nmB, List.map_map, Function.comp_def]
/-- What is there, then each further string behind a separator; none if it gets too long. -/
def jn (s : ByteArray) : List ByteArray → Bool → List Int → Option (List Int)
  | [], _, acc => some acc
  | x :: l, fst, acc =>
    if ((if fst = true then acc else acc ++ bytesOf s) ++ bytesOf x).length > 1048576 then none else jn s l false ((if fst = true then acc else acc ++ bytesOf s) ++ bytesOf x)
def outJ (o : Option (List Int)) : ByteArray := match o with | some a => strOfNums a | none => (⟨#[]⟩ : ByteArray)
def joinP (l : List ByteArray) (s : ByteArray) : ByteArray := outJ (jn s l true [])
theorem jn_tail (s : ByteArray) (l : List ByteArray) : ∀ (acc a : List Int), acc.length ≤ 1048576 → jn s l false acc = some a → a = acc ++ nmB (Lib.joinTail s.data.toList (l.map (·.data.toList))) ∧ a.length ≤ 1048576 := by
  induction l with
  | nil =>
    intro acc a ha h
    simp only [jn, Option.some.injEq] at h
    subst h
    exact ⟨by simp [Lib.joinTail, nmB], ha⟩
  | cons x l ih =>
    intro acc a ha h
    simp only [jn, Bool.false_eq_true, if_false] at h
    split at h
    · cases h
    · next hl =>
      obtain ⟨h1, h2⟩ := ih _ _ (by omega) h
      refine ⟨?_, h2⟩
      rw [h1]
      simp [Lib.joinTail, nmB, bytesOf]
theorem jn_all (s : ByteArray) (l : List ByteArray) (a : List Int) (h : jn s l true [] = some a) : a = nmB (Lib.join (l.map (·.data.toList)) s.data.toList) ∧ a.length ≤ 1048576 := by
  cases l with
  | nil =>
    simp only [jn, Option.some.injEq] at h
    subst h
    exact ⟨rfl, by decide⟩
  | cons x l =>
    simp only [jn, if_true, List.nil_append] at h
    split at h
    · cases h
    · next hl =>
      obtain ⟨h1, h2⟩ := jn_tail s l _ _ (by omega) h
      refine ⟨?_, h2⟩
      rw [h1, List.map_cons, Lib.join_cons]
      simp [nmB, bytesOf]
theorem jn_strings (s : ByteArray) (l : List ByteArray) (hl : l.length ≤ 1048576) (a : List Int) (h : jn s l true [] = some a) : strings_Join.f l s = some (strOfNums a) := by
  obtain ⟨h1, h2⟩ := jn_all s l a h
  have h3 : (Lib.join (l.map (·.data.toList)) s.data.toList).length ≤ 1048576 := by
    rw [h1] at h2
    simpa [nmB] using h2
  unfold strings_Join.f
  rw [if_pos ⟨by omega, by omega⟩, h1, strOfNums_nmB]
  rfl
theorem rdS_at (l : List ByteArray) (i : Nat) (h : i < l.length) : rdOf ByteArray.empty l (i : Int) = l[i] := by simp [rdOf, h]
theorem impl_Join_ev (l : List ByteArray) (s : ByteArray) (hl : l.length ≤ 1048576) (hs : s.size ≤ 1048576) (hx : ∀ x ∈ l, x.size ≤ 2097152) : Evt (fun k => impl_Join.f k l s) (joinP l s) := by
  have hh : ∀ d i : Nat, i + d = l.length → ∀ acc : List Int, acc.length ≤ 1048576 → (∀ a, jn s (l.drop i) (decide (i = 0)) acc = some a → jn s l true [] = some a) → Evt (fun k => impl_Join.l0 k l s (acc.length : Int) l (l.length : Int) (i : Int)) (outJ (jn s (l.drop i) (decide (i = 0)) acc)) := by
    intro d
    induction d with
    | zero =>
      intro i hi acc ha hg
      refine Evt.step ?_
      simp only [impl_Join.l0]
      rw [List.drop_of_length_le (by omega)] at hg ⊢
      refine Evt.neg (by omega) (Evt.bindc (jn_strings s l hl acc (hg acc rfl)) (Evt.ret _))
    | succ d ih =>
      intro i hi acc ha hg
      have hi' : i < l.length := by omega
      have hxi := hx _ (List.getElem_mem hi')
      refine Evt.step ?_
      simp only [impl_Join.l0]
      rw [List.drop_eq_getElem_cons hi'] at hg ⊢
      rw [rdS_at l i hi', w64s (by omega)]
      simp only [jn] at hg ⊢
      refine Evt.pos (by omega) (Evt.pos (by omega) (Evt.pos (by omega) ?_))
      by_cases h0 : i = 0
      · have hd : decide (i = 0) = true := by simpa using h0
        simp only [if_pos hd] at hg ⊢
        refine Evt.neg (by omega) ?_
        have hn := ih (i + 1) (by omega) (acc ++ bytesOf l[i])
        have hq : wrap64 ((acc.length : Int) + (l[i].size : Int)) = ((acc ++ bytesOf l[i]).length : Int) := by
          rw [w64 (by omega) (by omega), List.length_append, bytesOf_length]
          omega
        rw [hq]
        by_cases hc : (acc ++ bytesOf l[i]).length > 1048576
        · rw [if_pos hc]
          exact Evt.pos (by omega) (Evt.ret _)
        · rw [if_neg hc] at hg ⊢
          exact Evt.neg (by omega) (hn (by omega) hg)
      · have hd : ¬ (decide (i = 0) = true) := by simpa using h0
        simp only [if_neg hd] at hg ⊢
        refine Evt.pos (by omega) ?_
        have hn := ih (i + 1) (by omega) (acc ++ bytesOf s ++ bytesOf l[i])
        have hq : wrap64 (wrap64 ((acc.length : Int) + (s.size : Int)) + (l[i].size : Int)) = ((acc ++ bytesOf s ++ bytesOf l[i]).length : Int) := by
          rw [w64 (x := (acc.length : Int) + (s.size : Int)) (by omega) (by omega), w64 (by omega) (by omega), List.length_append, List.length_append, bytesOf_length, bytesOf_length]
          omega
        rw [hq]
        by_cases hc : (acc ++ bytesOf s ++ bytesOf l[i]).length > 1048576
        · rw [if_pos hc]
          exact Evt.pos (by omega) (Evt.ret _)
        · rw [if_neg hc] at hg ⊢
          exact Evt.neg (by omega) (hn (by omega) hg)
  exact hh l.length 0 (by omega) [] (by simp) (fun a h => h)

end Go.Proofs.YtdchpohiiigobaaDoor.F

