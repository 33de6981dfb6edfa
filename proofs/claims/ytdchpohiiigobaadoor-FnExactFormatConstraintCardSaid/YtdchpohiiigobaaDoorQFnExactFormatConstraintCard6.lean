/- FnExactFormatConstraintCard: what its proof needs, put together by this session's program wip/merge.py out of the texts that wip/xp.py printed and of this session's own. -/
import Derived.Test.YtdchpohiiigobaaDoorQFnExactFormatConstraintCard5
import Derived.Lib.ItoaNum
import Derived.Test.YtdchpohiiigobaaDoorRows
import Derived.WalkKit
import Derived.ProofKit
import Derived.OpenShut
import Derived.ShutString
import Derived.ChangeOld
import Derived.Below
import Derived.SizedLaws
import Derived.Lib.SmallJoins
import Derived.LaidMore
import Derived.Stop.Joined
import Derived.Stop.LaidErr
import Derived.Lib.LaidTab
import Derived.MakeChecks
import Derived.Test.YtdchpohiiigobaaDoorCards
import Derived.Test.YtdchpohiiigobaaDoorTie
import Derived.SevenTiedAt
namespace Go.Proofs.YtdchpohiiigobaaDoor.F
set_option linter.unusedVariables false
set_option linter.unusedSimpArgs false
open Go Go.RowKit Go.Proofs.YtdchpohiiigobaaDoorW.PrintWords Go.Proofs.YtdchpohiiigobaaDoor.Pl Go.Proofs.YtdchpohiiigobaaDoor.A Go.Proofs.YtdchpohiiigobaaDoor.Ext

/-! ### numbers of two digits -/
theorem evt_mono {α : Type} {g : Nat → Option α} (hm : ∀ k, LeO (g k) (g (k + 1))) {K : Nat} {r : α} (h : g K = some r) : Evt g r := by
  refine ⟨K, fun k hk => ?_⟩
  obtain ⟨d, rfl⟩ : ∃ d, k = K + d := ⟨k - K, by omega⟩
  clear hk
  induction d with
  | zero => exact h
  | succ d ih => exact hm _ r ih
def dg2 (u : Nat) : List UInt8 := if u < 10 then [UInt8.ofNat (48 + u)] else [UInt8.ofNat (48 + u / 10), UInt8.ofNat (48 + u % 10)]
def fmtN (n : Int) : ByteArray := ⟨(if n < 0 then 45 :: dg2 n.natAbs else dg2 n.toNat).toArray⟩
theorem dg2_eq {u : Nat} (h : u < 100) : Lib.decDigits u = dg2 u := by
  unfold dg2
  by_cases h1 : u < 10
  · rw [if_pos h1, Lib.decDigits_one h1]
  · rw [if_neg h1, Lib.decDigits_two h1 h]
theorem inR_99 {n : Int} (h : inR n (-99) 99 = true) : -99 ≤ n ∧ n ≤ 99 := by simpa [inR] using h
theorem itoaB_eq {n : Int} (h : inR n (-99) 99 = true) : itoaB n = fmtN n := by
  have h' := inR_99 h
  unfold itoaB fmtN Lib.itoa
  rw [dg2_eq (by omega), dg2_eq (by omega)]
set_option maxRecDepth 100000 in
theorem num_ok : ∀ i : Fin 199, spec_FormatInt.f 9 ((i.1 : Int) - 99) = some (fmtN ((i.1 : Int) - 99)) ∧ (fmtN ((i.1 : Int) - 99)).size ≤ 3 := by decide +kernel
theorem num_at {n : Int} (h : inR n (-99) 99 = true) : spec_FormatInt.f 9 n = some (fmtN n) ∧ (fmtN n).size ≤ 3 := by
  have h' := inR_99 h
  have := num_ok ⟨(n + 99).toNat, by omega⟩
  rwa [show (((n + 99).toNat : Nat) : Int) - 99 = n by omega] at this
theorem spec_FormatInt_ev {n : Int} (h : inR n (-99) 99 = true) : Evt (fun k => spec_FormatInt.f k n) (fmtN n) :=
  evt_mono (fun k => spec_FormatInt.mono n k) (num_at h).1
theorem impl_FormatInt_eq {n : Int} (h : inR n (-99) 99 = true) : impl_FormatInt.f n = some (fmtN n) := by
  have h' := inR_99 h
  unfold impl_FormatInt.f strconv_Itoa_51.f
  rw [if_pos (by omega), itoaB_eq h]
  rfl

/-! ### expressions -/
theorem kOk_kind {a : Int} {b : ByteArray} {n : Nat} (h : kOk a b n = true) : (a = 3 ∧ b.size = 1) ∨ ((a = 1 ∨ a = 2 ∨ a = 4 ∨ a = 5 ∨ a = 6 ∨ a = 7 ∨ a = 8 ∨ a = 9) ∧ n = arN a) := by
  unfold kOk at h
  split at h
  · next e => subst e; simp at h; exact .inl ⟨rfl, h.1.1⟩
  · simp at h; exact .inr ⟨by omega, h.2⟩
theorem sizes2 (p q s : ByteArray) : (p ++ q ++ s).size = p.size + q.size + s.size := by rw [ByteArray.size_append, ByteArray.size_append]
theorem nat_le_sum (l : List Nat) (x : Nat) (h : x ∈ l) : x ≤ l.sum := by
  induction l with
  | nil => cases h
  | cons y l ih =>
    rw [List.sum_cons]
    rcases List.mem_cons.1 h with rfl | h
    · omega
    · have := ih h; omega
theorem text_ev : ∀ (d : Nat), d ≤ 6 → ∀ (x : S32), nds d x ≤ 16 → ∃ t : ByteArray, t.size ≤ 3 * 4 ^ d ∧ Evt (fun k => spec_l3Text.f k x.f0 x.f1 x.f2) t ∧ Evt (fun k => impl_regexText.f k x.f0 x.f1 x.f2) t := by
  intro d
  induction d with
  | zero => intro _ x h; simp [nds] at h
  | succ d ih =>
    intro hd x h
    obtain ⟨a, b, l⟩ := x
    unfold nds at h
    by_cases hk : kOk a b l.length = true
    rotate_left
    · rw [if_neg hk] at h; omega
    rw [if_pos hk] at h
    have h1 : 1 ≤ 4 ^ d := Nat.pow_pos (by decide)
    have h2 : 4 ^ d ≤ 1024 := Nat.le_trans (Nat.pow_le_pow_right (by decide) (by omega : d ≤ 5)) (by decide)
    have h3 : (4 : Nat) ^ (d + 1) = 4 * 4 ^ d := by rw [Nat.pow_succ]; omega
    have hm : ∀ (i : Nat) (hi : i < l.length), ∃ t : ByteArray, t.size ≤ 3 * 4 ^ d ∧ Evt (fun k => spec_l3Text.f k l[i].f0 l[i].f1 l[i].f2) t ∧ Evt (fun k => impl_regexText.f k l[i].f0 l[i].f1 l[i].f2) t := by
      intro i hi
      refine ih (by omega) l[i] ?_
      have : nds d l[i] ≤ (l.map (nds d)).sum := nat_le_sum _ _ (List.mem_map_of_mem (List.getElem_mem hi))
      simp only at h
      omega
    simp only
    rcases kOk_kind hk with ⟨rfl, hb⟩ | ⟨hc, hn⟩
    · refine ⟨b, by omega, Evt.step ?_, Evt.step ?_⟩ <;> simp only [spec_l3Text.f, impl_regexText.f]
      · exact Evt.neg (by decide) (Evt.neg (by decide) (Evt.pos (by decide) (Evt.ret _)))
      · exact Evt.neg (by decide) (Evt.neg (by decide) (Evt.pos (by decide) (Evt.ret _)))
    rcases hc with rfl | rfl | rfl | rfl | rfl | rfl | rfl | rfl
    · refine ⟨⟨#[48]⟩, by show 1 ≤ _; omega, Evt.step ?_, Evt.step ?_⟩ <;> simp only [spec_l3Text.f, impl_regexText.f] <;> exact Evt.pos (by decide) (Evt.ret _)
    · refine ⟨⟨#[49]⟩, by show 1 ≤ _; omega, Evt.step ?_, Evt.step ?_⟩ <;> simp only [spec_l3Text.f, impl_regexText.f] <;> exact Evt.neg (by decide) (Evt.pos (by decide) (Evt.ret _))
    · refine ⟨⟨#[46]⟩, by show 1 ≤ _; omega, Evt.step ?_, Evt.step ?_⟩ <;> simp only [spec_l3Text.f, impl_regexText.f] <;> exact Evt.neg (by decide) (Evt.neg (by decide) (Evt.neg (by decide) (Evt.pos (by decide) (Evt.ret _))))
    · have hl : l.length = 2 := hn
      obtain ⟨t, ht, hs, hi⟩ := hm 0 (by omega)
      obtain ⟨u, hu, hs', hi'⟩ := hm 1 (by omega)
      have e0 := rxI_at l 0 (by omega)
      have e1 := rxI_at l 1 (by omega)
      refine ⟨(((⟨#[40]⟩ ++ t) ++ (⟨#[]⟩ : ByteArray)) ++ u) ++ (⟨#[41]⟩ : ByteArray), ?_, Evt.step ?_, Evt.step ?_⟩
      · simp only [ByteArray.size_append, show (⟨#[40]⟩ : ByteArray).size = 1 from rfl, show (⟨#[]⟩ : ByteArray).size = 0 from rfl, show (⟨#[41]⟩ : ByteArray).size = 1 from rfl]; omega
      · simp only [spec_l3Text.f]
        rw [show wrap64 (5 - 5) = 0 from w64 (by decide) (by decide)]
        refine Evt.neg (by decide) (Evt.neg (by decide) (Evt.neg (by decide) (Evt.neg (by decide) (Evt.neg (by decide) (Evt.neg (by decide) (Evt.bindc rfl (Evt.pos (by decide) (Evt.pos (by decide) (Evt.pos (by omega) ?_)))))))))
        rw [show rd_T32 l 0 = l[0] from e0, show rd_T32 l 1 = l[1] from e1, show rdOf ByteArray.empty [(⟨#[]⟩ : ByteArray), (⟨#[124]⟩ : ByteArray), (⟨#[38]⟩ : ByteArray)] 0 = (⟨#[]⟩ : ByteArray) from rfl]
        refine Evt.bind hs (Evt.pos (by omega) (Evt.pos ?_ (Evt.pos (by omega) (Evt.bind hs' (Evt.pos ?_ (Evt.pos ?_ (Evt.ret _))))))) <;> simp only [ByteArray.size_append, show (⟨#[40]⟩ : ByteArray).size = 1 from rfl, show (⟨#[]⟩ : ByteArray).size = 0 from rfl] <;> omega
      · simp only [impl_regexText.f]
        refine Evt.neg (by decide) (Evt.neg (by decide) (Evt.neg (by decide) (Evt.neg (by decide) (Evt.neg (by decide) (Evt.neg (by decide) (Evt.neg (by decide) (Evt.neg (by decide) (Evt.pos (by omega) ?_))))))))
        rw [show rd_T32 l 0 = l[0] from e0, show rd_T32 l 1 = l[1] from e1]
        refine Evt.bind hi (Evt.pos (by omega) (Evt.pos ?_ (Evt.pos (by omega) (Evt.bind hi' (Evt.pos ?_ (Evt.pos ?_ (Evt.ret _))))))) <;> simp only [ByteArray.size_append, show (⟨#[40]⟩ : ByteArray).size = 1 from rfl, show (⟨#[]⟩ : ByteArray).size = 0 from rfl] <;> omega
    · have hl : l.length = 2 := hn
      obtain ⟨t, ht, hs, hi⟩ := hm 0 (by omega)
      obtain ⟨u, hu, hs', hi'⟩ := hm 1 (by omega)
      have e0 := rxI_at l 0 (by omega)
      have e1 := rxI_at l 1 (by omega)
      refine ⟨(((⟨#[40]⟩ ++ t) ++ (⟨#[124]⟩ : ByteArray)) ++ u) ++ (⟨#[41]⟩ : ByteArray), ?_, Evt.step ?_, Evt.step ?_⟩
      · simp only [ByteArray.size_append, show (⟨#[40]⟩ : ByteArray).size = 1 from rfl, show (⟨#[124]⟩ : ByteArray).size = 1 from rfl, show (⟨#[41]⟩ : ByteArray).size = 1 from rfl]; omega
      · simp only [spec_l3Text.f]
        rw [show wrap64 (6 - 5) = 1 from w64 (by decide) (by decide)]
        refine Evt.neg (by decide) (Evt.neg (by decide) (Evt.neg (by decide) (Evt.neg (by decide) (Evt.neg (by decide) (Evt.neg (by decide) (Evt.bindc rfl (Evt.pos (by decide) (Evt.pos (by decide) (Evt.pos (by omega) ?_)))))))))
        rw [show rd_T32 l 0 = l[0] from e0, show rd_T32 l 1 = l[1] from e1, show rdOf ByteArray.empty [(⟨#[]⟩ : ByteArray), (⟨#[124]⟩ : ByteArray), (⟨#[38]⟩ : ByteArray)] 1 = (⟨#[124]⟩ : ByteArray) from rfl]
        refine Evt.bind hs (Evt.pos (by omega) (Evt.pos ?_ (Evt.pos (by omega) (Evt.bind hs' (Evt.pos ?_ (Evt.pos ?_ (Evt.ret _))))))) <;> simp only [ByteArray.size_append, show (⟨#[40]⟩ : ByteArray).size = 1 from rfl, show (⟨#[124]⟩ : ByteArray).size = 1 from rfl] <;> omega
      · simp only [impl_regexText.f]
        refine Evt.neg (by decide) (Evt.neg (by decide) (Evt.neg (by decide) (Evt.neg (by decide) (Evt.neg (by decide) (Evt.neg (by decide) (Evt.pos (by decide) (Evt.pos (by omega) ?_)))))))
        rw [show rd_T32 l 0 = l[0] from e0, show rd_T32 l 1 = l[1] from e1]
        refine Evt.bind hi (Evt.pos (by omega) (Evt.pos ?_ (Evt.pos (by omega) (Evt.bind hi' (Evt.pos ?_ (Evt.pos ?_ (Evt.ret _))))))) <;> simp only [ByteArray.size_append, show (⟨#[40]⟩ : ByteArray).size = 1 from rfl, show (⟨#[124]⟩ : ByteArray).size = 1 from rfl] <;> omega
    · have hl : l.length = 2 := hn
      obtain ⟨t, ht, hs, hi⟩ := hm 0 (by omega)
      obtain ⟨u, hu, hs', hi'⟩ := hm 1 (by omega)
      have e0 := rxI_at l 0 (by omega)
      have e1 := rxI_at l 1 (by omega)
      refine ⟨(((⟨#[40]⟩ ++ t) ++ (⟨#[38]⟩ : ByteArray)) ++ u) ++ (⟨#[41]⟩ : ByteArray), ?_, Evt.step ?_, Evt.step ?_⟩
      · simp only [ByteArray.size_append, show (⟨#[40]⟩ : ByteArray).size = 1 from rfl, show (⟨#[38]⟩ : ByteArray).size = 1 from rfl, show (⟨#[41]⟩ : ByteArray).size = 1 from rfl]; omega
      · simp only [spec_l3Text.f]
        rw [show wrap64 (7 - 5) = 2 from w64 (by decide) (by decide)]
        refine Evt.neg (by decide) (Evt.neg (by decide) (Evt.neg (by decide) (Evt.neg (by decide) (Evt.neg (by decide) (Evt.neg (by decide) (Evt.bindc rfl (Evt.pos (by decide) (Evt.pos (by decide) (Evt.pos (by omega) ?_)))))))))
        rw [show rd_T32 l 0 = l[0] from e0, show rd_T32 l 1 = l[1] from e1, show rdOf ByteArray.empty [(⟨#[]⟩ : ByteArray), (⟨#[124]⟩ : ByteArray), (⟨#[38]⟩ : ByteArray)] 2 = (⟨#[38]⟩ : ByteArray) from rfl]
        refine Evt.bind hs (Evt.pos (by omega) (Evt.pos ?_ (Evt.pos (by omega) (Evt.bind hs' (Evt.pos ?_ (Evt.pos ?_ (Evt.ret _))))))) <;> simp only [ByteArray.size_append, show (⟨#[40]⟩ : ByteArray).size = 1 from rfl, show (⟨#[38]⟩ : ByteArray).size = 1 from rfl] <;> omega
      · simp only [impl_regexText.f]
        refine Evt.neg (by decide) (Evt.neg (by decide) (Evt.neg (by decide) (Evt.neg (by decide) (Evt.neg (by decide) (Evt.neg (by decide) (Evt.neg (by decide) (Evt.pos (by decide) (Evt.pos (by omega) ?_))))))))
        rw [show rd_T32 l 0 = l[0] from e0, show rd_T32 l 1 = l[1] from e1]
        refine Evt.bind hi (Evt.pos (by omega) (Evt.pos ?_ (Evt.pos (by omega) (Evt.bind hi' (Evt.pos ?_ (Evt.pos ?_ (Evt.ret _))))))) <;> simp only [ByteArray.size_append, show (⟨#[40]⟩ : ByteArray).size = 1 from rfl, show (⟨#[38]⟩ : ByteArray).size = 1 from rfl] <;> omega
    · have hl : l.length = 1 := hn
      obtain ⟨t, ht, hs, hi⟩ := hm 0 (by omega)
      have e0 := rxI_at l 0 (by omega)
      refine ⟨⟨#[42]⟩ ++ t, by rw [ByteArray.size_append]; show 1 + _ ≤ _; omega, Evt.step ?_, Evt.step ?_⟩ <;> simp only [spec_l3Text.f, impl_regexText.f] <;> rw [show rd_T32 l 0 = l[0] from e0]
      · exact Evt.neg (by decide) (Evt.neg (by decide) (Evt.neg (by decide) (Evt.neg (by decide) (Evt.pos (by decide) (Evt.pos (by omega) (Evt.bind hs (Evt.pos (by omega) (Evt.ret _))))))))
      · exact Evt.neg (by decide) (Evt.neg (by decide) (Evt.neg (by decide) (Evt.neg (by decide) (Evt.pos (by decide) (Evt.pos (by omega) (Evt.bind hi (Evt.pos (by omega) (Evt.ret _))))))))
    · have hl : l.length = 1 := hn
      obtain ⟨t, ht, hs, hi⟩ := hm 0 (by omega)
      have e0 := rxI_at l 0 (by omega)
      refine ⟨⟨#[33]⟩ ++ t, by rw [ByteArray.size_append]; show 1 + _ ≤ _; omega, Evt.step ?_, Evt.step ?_⟩ <;> simp only [spec_l3Text.f, impl_regexText.f] <;> rw [show rd_T32 l 0 = l[0] from e0]
      · exact Evt.neg (by decide) (Evt.neg (by decide) (Evt.neg (by decide) (Evt.neg (by decide) (Evt.neg (by decide) (Evt.pos (by decide) (Evt.pos (by omega) (Evt.bind hs (Evt.pos (by omega) (Evt.ret _)))))))))
      · exact Evt.neg (by decide) (Evt.neg (by decide) (Evt.neg (by decide) (Evt.neg (by decide) (Evt.neg (by decide) (Evt.pos (by decide) (Evt.pos (by omega) (Evt.bind hi (Evt.pos (by omega) (Evt.ret _)))))))))
theorem FormatRegex_ev (x : S32) (h : nds 6 x ≤ 16) (hs : Sm x) : ∃ t : ByteArray, t.size ≤ 12288 ∧ Evt (fun k => spec_FormatRegex.f k x.f0 x.f1 x.f2) t ∧ Evt (fun k => impl_FormatRegex.f k x.f0 x.f1 x.f2) t := by
  obtain ⟨t, ht, h1, h2⟩ := text_ev 6 (Nat.le_refl _) x h
  refine ⟨t, ht, ?_, ?_⟩
  · simp only [spec_FormatRegex.f]
    exact Evt.bind (spec_IsValidRegex_ev x hs) (Evt.pos (by simpa using h) (Evt.bind h1 (Evt.ret _)))
  · simp only [impl_FormatRegex.f]
    exact Evt.bind (impl_IsValidRegex_ev x) (Evt.pos (by simpa using h) (Evt.bind h2 (Evt.ret _)))

/-! ### words of numbers -/
theorem strOf_bytes (s : ByteArray) : strOfNums (bytesOf s) = s := by
  apply bytesOf_inj
  unfold strOfNums bytesOf
  simp
def tl : List Int → ByteArray → ByteArray
  | [], o => o
  | x :: ws, o => tl ws ((o ++ (⟨#[32]⟩ : ByteArray)) ++ fmtN x)
theorem tl_size (ws : List Int) : (∀ x ∈ ws, inR x (-99) 99 = true) → ∀ o, (tl ws o).size ≤ o.size + 4 * ws.length := by
  induction ws with
  | nil => intro _ o; exact Nat.le_refl _
  | cons y ws ih =>
    intro h o
    have h1 := ih (fun x hx => h x (List.mem_cons_of_mem _ hx)) ((o ++ (⟨#[32]⟩ : ByteArray)) ++ fmtN y)
    have h2 := (num_at (h y List.mem_cons_self)).2
    rw [sizes2, show (⟨#[32]⟩ : ByteArray).size = 1 from rfl] at h1
    show (tl ws _).size ≤ _
    rw [List.length_cons]
    omega
theorem jn_tl (ws : List Int) : (∀ x ∈ ws, inR x (-99) 99 = true) → ∀ o : ByteArray, o.size + 4 * ws.length ≤ 1048576 → jn (⟨#[32]⟩ : ByteArray) (ws.map fmtN) false (bytesOf o) = some (bytesOf (tl ws o)) := by
  induction ws with
  | nil => intro _ o _; rfl
  | cons y ws ih =>
    intro h o ho
    have h2 := (num_at (h y List.mem_cons_self)).2
    rw [List.length_cons] at ho
    have e : bytesOf o ++ bytesOf (⟨#[32]⟩ : ByteArray) ++ bytesOf (fmtN y) = bytesOf ((o ++ (⟨#[32]⟩ : ByteArray)) ++ fmtN y) := by rw [bytesOf_append, bytesOf_append]
    have hz : ((o ++ (⟨#[32]⟩ : ByteArray)) ++ fmtN y).size = o.size + 1 + (fmtN y).size := sizes2 _ _ _
    show (if ((if false = true then bytesOf o else bytesOf o ++ bytesOf (⟨#[32]⟩ : ByteArray)) ++ bytesOf (fmtN y)).length > 1048576 then none else jn (⟨#[32]⟩ : ByteArray) (ws.map fmtN) false ((if false = true then bytesOf o else bytesOf o ++ bytesOf (⟨#[32]⟩ : ByteArray)) ++ bytesOf (fmtN y))) = _
    rw [if_neg (show ¬ (false = true) by decide), e, bytesOf_length, if_neg (by omega)]
    exact ih (fun x hx => h x (List.mem_cons_of_mem _ hx)) _ (by omega)
theorem joinP_tl (ws : List Int) (h : ∀ x ∈ ws, inR x (-99) 99 = true) (o : ByteArray) (ho : o.size + 4 * ws.length ≤ 1048576) : joinP (o :: ws.map fmtN) (⟨#[32]⟩ : ByteArray) = tl ws o := by
  unfold joinP
  show outJ (if ((if true = true then [] else _) ++ bytesOf o).length > 1048576 then none else jn (⟨#[32]⟩ : ByteArray) (ws.map fmtN) false ((if true = true then [] else _) ++ bytesOf o)) = _
  rw [if_pos rfl, List.nil_append, bytesOf_length, if_neg (by omega), jn_tl ws h o ho]
  show strOfNums (bytesOf (tl ws o)) = _
  exact strOf_bytes _
section
variable {a : Int} {b c : ByteArray} {d : Int} {e : ByteArray} {l : List S32} {m : List Int} {n : Int}
theorem spec_len_ev (hm : m.length ≤ 1048576) (hx : ∀ x ∈ m, inR x (-99) 99 = true) (hn : inR n (-99) 99 = true) (o : ByteArray) (ho : o.size ≤ 1048576) : Evt (fun k => spec_FormatConstraint.l0 k o 0 a b c d e l m n) (tl (m ++ [n]) o) := by
  have hh : ∀ q i : Nat, i + q = m.length → ∀ o : ByteArray, o.size ≤ 1048576 + 4 * i → Evt (fun k => spec_FormatConstraint.l0 k o (i : Int) a b c d e l m n) (tl (m.drop i ++ [n]) o) := by
    intro q
    induction q with
    | zero =>
      intro i hi o ho
      have h3 := (num_at hn).2
      refine Evt.step ?_
      simp only [spec_FormatConstraint.l0]
      rw [List.drop_of_length_le (by omega)]
      refine Evt.neg (by omega) (Evt.pos (by omega) (Evt.bind (spec_FormatInt_ev hn) (Evt.pos ?_ (Evt.ret _))))
      rw [ByteArray.size_append, show (⟨#[32]⟩ : ByteArray).size = 1 from rfl]; omega
    | succ q ih =>
      intro i hi o ho
      have hi' : i < m.length := by omega
      have h2 := hx _ (List.getElem_mem hi')
      have h3 := (num_at h2).2
      refine Evt.step ?_
      simp only [spec_FormatConstraint.l0]
      rw [List.drop_eq_getElem_cons hi', rdI_at m i hi', w64s (by omega)]
      refine Evt.pos (by omega) (Evt.pos (by omega) (Evt.pos (by omega) (Evt.bind (spec_FormatInt_ev h2) (Evt.pos ?_ ?_))))
      · rw [ByteArray.size_append, show (⟨#[32]⟩ : ByteArray).size = 1 from rfl]; omega
      · refine ih (i + 1) (by omega) _ ?_
        rw [sizes2, show (⟨#[32]⟩ : ByteArray).size = 1 from rfl]; omega
  exact hh m.length 0 (by omega) o ho
theorem impl_len_ev (ws : List Int) (hw : ws.length ≤ 1000) (hx : ∀ x ∈ ws, inR x (-99) 99 = true) (o : ByteArray) (ho : o.size ≤ 100) : Evt (fun k => impl_FormatConstraint.l0 k [o] ws (ws.length : Int) 0) (tl ws o) := by
  have hh : ∀ q i : Nat, i + q = ws.length → Evt (fun k => impl_FormatConstraint.l0 k (o :: (ws.take i).map fmtN) ws (ws.length : Int) (i : Int)) (tl ws o) := by
    intro q
    induction q with
    | zero =>
      intro i hi
      refine Evt.step ?_
      simp only [impl_FormatConstraint.l0]
      rw [List.take_of_length_le (by omega)]
      refine Evt.neg (by omega) (Evt.bind ((impl_Join_ev _ _ ?_ (by decide) ?_).cast (joinP_tl ws hx o (by omega))) (Evt.ret _))
      · simp only [List.length_cons, List.length_map]; omega
      · intro x hx'
        rcases List.mem_cons.1 hx' with rfl | h
        · omega
        · obtain ⟨y, hy, rfl⟩ := List.mem_map.1 h
          have := (num_at (hx y hy)).2
          omega
    | succ q ih =>
      intro i hi
      have hi' : i < ws.length := by omega
      refine Evt.step ?_
      simp only [impl_FormatConstraint.l0]
      rw [rdI_at ws i hi', w64s (by omega)]
      refine Evt.pos (by omega) (Evt.pos (by omega) (Evt.pos (by omega) (Evt.bindc (impl_FormatInt_eq (hx _ (List.getElem_mem hi'))) (Evt.bindc rfl (Evt.pos ?_ ?_)))))
      · simp only [List.length_cons, List.length_map, List.length_take, List.length_nil]; omega
      · have h := ih (i + 1) (by omega)
        rw [List.take_succ_eq_append_getElem hi', List.map_append] at h
        exact h
  exact hh ws.length 0 (by omega)
def trm (s : ByteArray) : ByteArray := if s.size = 0 then (⟨#[45]⟩ : ByteArray) else s
theorem trm_size (s : ByteArray) : (trm s).size ≤ s.size + 1 := by
  unfold trm
  split
  · exact Nat.le_add_left _ _
  · omega
theorem spec_l9Term_eq (s : ByteArray) : spec_l9Term.f s = some (trm s) := by
  unfold spec_l9Term.f trm
  by_cases h : s.size = 0
  · rw [if_pos ((toList_nil_iff _).2 h), if_pos h]
  · rw [if_neg (fun q => h ((toList_nil_iff _).1 q)), if_neg h]
theorem impl_orDash_eq (s : ByteArray) : impl_orDash.f s = some (trm s) := by
  unfold impl_orDash.f trm
  by_cases h : s.size = 0
  · rw [if_pos ((toList_nil_iff _).2 h), if_pos h]
  · rw [if_neg (fun q => h ((toList_nil_iff _).1 q)), if_neg h]
theorem both {g g' : Nat → Option Bool} {h h' : Nat → Option ByteArray} {z : Option ByteArray} (hg : Evt g true) (hg' : Evt g' true) (H : ∃ t : ByteArray, t.size ≤ 20000 ∧ Evt h t ∧ Evt h' t) :
    ∃ t : ByteArray, t.size ≤ 20000 ∧ Evt (fun k => (g k).bind fun t => if t = true then h k else z) t ∧ Evt (fun k => (g' k).bind fun t => if t = true then h' k else z) t := by
  obtain ⟨t, ht, h1, h2⟩ := H
  exact ⟨t, ht, Evt.bind hg (Evt.pos rfl h1), Evt.bind hg' (Evt.pos rfl h2)⟩
theorem FormatConstraint_ev (hb : b.size ≤ 9223372036854775807) (hc : c.size ≤ 9223372036854775807) (hr : Sm ⟨d, e, l⟩) (hm : m.length ≤ 1048576) : ∃ t : ByteArray, t.size ≤ 20000 ∧ Evt (fun k => spec_FormatConstraint.f k a b c d e l m n) t ∧ Evt (fun k => impl_FormatConstraint.f k a b c d e l m n) t := by
  simp only [spec_FormatConstraint.f, impl_FormatConstraint.f]
  have hv := spec_IsValidConstraint_ev (a := a) (n := n) hb hc hr hm
  have hv' := impl_IsValidConstraint_ev (a := a) (b := b) (c := c) (d := d) (e := e) (l := l) (n := n) hm
  cases hV : valC a b c d e l m n with
  | false =>
    rw [hV] at hv hv'
    exact ⟨⟨#[]⟩, by decide, Evt.bind hv (Evt.neg (by decide) (Evt.ret _)), Evt.bind hv' (Evt.neg (by decide) (Evt.ret _))⟩
  | true =>
    rw [hV] at hv hv'
    have tb := trm_size b
    have tc := trm_size c
    refine both hv hv' ?_
    unfold valC valX at hV
    by_cases h12 : a = 1 ∨ a = 2
    · rw [if_pos h12] at hV
      simp only [isTm, Bool.and_eq_true, decide_eq_true_eq, beq_iff_eq] at hV
      obtain ⟨⟨_, z1⟩, ⟨_, z2⟩, _⟩ := hV
      rcases h12 with rfl | rfl
      · refine ⟨trm b ++ (⟨#[32, 61, 32]⟩ : ByteArray) ++ trm c, ?_, Evt.pos rfl (Evt.bindc (spec_l9Term_eq b) (Evt.pos ?_ (Evt.bindc (spec_l9Term_eq c) (Evt.pos ?_ (Evt.ret _))))), Evt.pos rfl (Evt.bindc (impl_orDash_eq b) (Evt.pos ?_ (Evt.bindc (impl_orDash_eq c) (Evt.pos ?_ (Evt.ret _)))))⟩ <;> (try simp only [ByteArray.size_append, show (⟨#[32, 61, 32]⟩ : ByteArray).size = 3 from rfl]) <;> omega
      · refine ⟨trm b ++ (⟨#[32, 33, 61, 32]⟩ : ByteArray) ++ trm c, ?_, Evt.neg (by decide) (Evt.pos rfl (Evt.bindc (spec_l9Term_eq b) (Evt.pos ?_ (Evt.bindc (spec_l9Term_eq c) (Evt.pos ?_ (Evt.ret _)))))), Evt.neg (by decide) (Evt.pos rfl (Evt.bindc (impl_orDash_eq b) (Evt.pos ?_ (Evt.bindc (impl_orDash_eq c) (Evt.pos ?_ (Evt.ret _))))))⟩ <;> (try simp only [ByteArray.size_append, show (⟨#[32, 33, 61, 32]⟩ : ByteArray).size = 4 from rfl]) <;> omega
    rw [if_neg h12] at hV
    by_cases h34 : a = 3 ∨ a = 4
    · rw [if_pos h34] at hV
      simp only [isTm, Bool.and_eq_true, decide_eq_true_eq, beq_iff_eq] at hV
      obtain ⟨⟨_, z1⟩, _, z2, _⟩ := hV
      obtain ⟨t, ht, r1, r2⟩ := FormatRegex_ev ⟨d, e, l⟩ z2 hr
      rcases h34 with rfl | rfl
      · refine ⟨trm b ++ (⟨#[32, 105, 110, 32]⟩ : ByteArray) ++ t, ?_, Evt.neg (by decide) (Evt.neg (by decide) (Evt.pos rfl (Evt.bindc (spec_l9Term_eq b) (Evt.pos ?_ (Evt.bind r1 (Evt.pos ?_ (Evt.ret _))))))), Evt.neg (by decide) (Evt.neg (by decide) (Evt.pos rfl (Evt.bindc (impl_orDash_eq b) (Evt.pos ?_ (Evt.bind r2 (Evt.pos ?_ (Evt.ret _)))))))⟩ <;> (try simp only [ByteArray.size_append, show (⟨#[32, 105, 110, 32]⟩ : ByteArray).size = 4 from rfl]) <;> omega
      · refine ⟨trm b ++ (⟨#[32, 111, 117, 116, 32]⟩ : ByteArray) ++ t, ?_, Evt.neg (by decide) (Evt.neg (by decide) (Evt.neg (by decide) (Evt.pos rfl (Evt.bindc (spec_l9Term_eq b) (Evt.pos ?_ (Evt.bind r1 (Evt.pos ?_ (Evt.ret _)))))))), Evt.neg (by decide) (Evt.neg (by decide) (Evt.neg (by decide) (Evt.pos rfl (Evt.bindc (impl_orDash_eq b) (Evt.pos ?_ (Evt.bind r2 (Evt.pos ?_ (Evt.ret _))))))))⟩ <;> (try simp only [ByteArray.size_append, show (⟨#[32, 111, 117, 116, 32]⟩ : ByteArray).size = 5 from rfl]) <;> omega
    rw [if_neg h34] at hV
    by_cases h5 : a = 5
    rotate_left
    · rw [if_neg h5] at hV; cases hV
    rw [if_pos h5] at hV
    simp only [Bool.and_eq_true, decide_eq_true_eq, beq_iff_eq] at hV
    obtain ⟨_, _, _, ⟨q1, q2⟩, q3⟩ := hV
    have hx : ∀ x ∈ m, inR x (-99) 99 = true := by
      intro x hx
      have := List.all_eq_true.1 q1 x hx
      simp only [inR, decide_eq_true_eq] at this ⊢
      omega
    have hx' : ∀ x ∈ m ++ [n], inR x (-99) 99 = true := by
      intro x h
      rcases List.mem_append.1 h with h | h
      · exact hx x h
      · obtain rfl := List.mem_singleton.1 h; exact q3
    have hlen : (m ++ [n]).length = 4 := by rw [List.length_append]; show m.length + 1 = 4; omega
    have hz := tl_size (m ++ [n]) hx' (⟨#[108, 101, 110]⟩ : ByteArray)
    rw [hlen, show (⟨#[108, 101, 110]⟩ : ByteArray).size = 3 from rfl] at hz
    refine ⟨tl (m ++ [n]) (⟨#[108, 101, 110]⟩ : ByteArray), by omega, ?_, ?_⟩
    · exact Evt.neg (by omega) (Evt.neg (by omega) (Evt.neg (by omega) (Evt.neg (by omega) (spec_len_ev hm hx q3 _ (by decide)))))
    · refine Evt.neg (by omega) (Evt.neg (by omega) (Evt.neg (by omega) (Evt.neg (by omega) (Evt.bindc (a := m) ?_ (Evt.bindc rfl (Evt.pos ?_ (Evt.bindc rfl (impl_len_ev (m ++ [n]) (by omega) hx' _ (by decide)))))))))
      · unfold slices_Clone_int_int.f; rw [if_pos (by omega)]
      · show m.length + 1 < _; omega
end
end Go.Proofs.YtdchpohiiigobaaDoor.F


namespace Go.Proofs.YtdchpohiiigobaaDoor.Pure
set_option linter.unusedVariables false
set_option linter.unusedSimpArgs false
open Go Go.RowKit Go.Proofs.YtdchpohiiigobaaDoorW.PrintWords Go.Proofs.YtdchpohiiigobaaDoor.Pl Go.Proofs.YtdchpohiiigobaaDoor.F Go.Proofs.YtdchpohiiigobaaDoor.A Go.Proofs.YtdchpohiiigobaaDoor.Ext Go.Proofs.YtdchpohiiigobaaDoor.BtFnExactFormatConstraint

theorem rxOk_of (n : Nat) : ∀ x : S24, wf24N n x → RxOk n x := by
  induction n with
  | zero => intro x h; exact h.elim
  | succ n ih => intro x h; exact ⟨h.2.1, h.2.2.1, fun a ha => ih a (h.2.2.2 a ha)⟩
theorem rxOk_mono : ∀ n (x : S24), RxOk n x → RxOk (n + 1) x := by
  intro n
  induction n with
  | zero => intro x h; exact h.elim
  | succ n ih => intro x h; exact ⟨h.1, h.2.1, fun a ha => ih a (h.2.2 a ha)⟩
theorem rxOk_le {n m : Nat} (h : n ≤ m) (x : S24) (hx : RxOk n x) : RxOk m x := by
  induction h with
  | refl => exact hx
  | step _ ih => exact rxOk_mono _ _ ih
theorem rxOk_top (d : Int) (e : ByteArray) (l : List S24) (he : e.size ≤ 9223372036854775807) (hl : l.length ≤ 9223372036854775807 ∧ ∀ a ∈ l, wf24 a) : ∃ n, RxOk n ⟨d, e, l⟩ := by
  obtain ⟨h1, h2⟩ := hl
  have h3 : ∃ n, ∀ a ∈ l, RxOk n a := by
    clear h1
    induction l with
    | nil => exact ⟨0, fun a ha => by cases ha⟩
    | cons x l ih =>
      obtain ⟨n, hn⟩ := ih (fun a ha => h2 a (List.mem_cons_of_mem _ ha))
      obtain ⟨m, hm⟩ := h2 x (List.mem_cons_self ..)
      refine ⟨max n m, fun a ha => ?_⟩
      rcases List.mem_cons.1 ha with rfl | ha
      · exact rxOk_le (by omega) _ (rxOk_of m _ hm)
      · exact rxOk_le (by omega) _ (hn a ha)
  obtain ⟨n, hn⟩ := h3
  exact ⟨n + 1, he, h1, hn⟩
theorem FnExactFormatConstraint : FnExactFormatConstraint.Pure := by
  intro a b c d e l m n _ hb hc _ he hl hm _
  obtain ⟨N, hN⟩ := rxOk_top d e l he hl
  refine Evt.get (g := fun k => laws_FnExactFormatConstraint.f k a b c d e l m n) ?_
  simp only [laws_FnExactFormatConstraint.f]
  obtain ⟨t, ht, hs⟩ := szConstraint_ev a b c d e l m n N 1048576 (by omega) (by omega) hb hc hN hm.1
  rcases hs with rfl | ⟨h0, h1, y, y1, y2, q1⟩
  · exact Evt.bind ht (Evt.pos (by decide) (Evt.ret _))
  obtain ⟨z, _, s1, s2⟩ := FormatConstraint_ev (a := a) (n := n) hb hc y1 y2
  exact Evt.bind ht (Evt.neg (by omega) (Evt.bind q1 (Evt.bind s1 (Evt.bind q1 (Evt.bind s2 (Evt.pos rfl (Evt.bind q1 (Evt.bind (eqConstraint_ev a b c d e y m n y1 y2) (Evt.pos rfl (Evt.ret _))))))))))

end Go.Proofs.YtdchpohiiigobaaDoor.Pure


namespace Go.Proofs.YtdchpohiiigobaaDoor.fnExactFormatConstraint
open Go.ChangeShapes Go.WideShapes Go.ChangeAt Go.RowKit Go.Proofs.YtdchpohiiigobaaDoor.Br Go.Proofs.YtdchpohiiigobaaDoorW.PrintWords Go.Proofs.YtdchpohiiigobaaDoor.A Go.Proofs.YtdchpohiiigobaaDoor.Ext Go.Proofs.YtdchpohiiigobaaDoor.BtFnExactFormatConstraint
open Go.ChangeMaps (open_string shut_string)
set_option linter.unusedVariables false
theorem own : ownKnob Tryd.prog.godebug = none := by kernel_rfl
theorem laidOut : laidOutB Tryd.prog = true := by kernel_rfl
abbrev laid : List (String × DataW Unit) := [("math/bits.deBruijn32tab", Rows.laid_math_bits_deBruijn32tab), ("math/bits.deBruijn64tab", Rows.laid_math_bits_deBruijn64tab), ("internal/strconv.uint64pow10", Rows.laid_internal_strconv_uint64pow10)]
set_option maxRecDepth 100000 in
theorem door_met (os : Os) (args : Array Value) : laidMetH Tryd.prog laid ((World.doorLaid Tryd.prog 4000 os).forCall (fun _ _ => 0) ⟨#[], args, []⟩).memory :=
  laidMetH_of_parts3 (fuel := 8) (laidMet_of_run' 8 (by kernel_rfl) (by kernel_rfl)) (by kernel_rfl) (by kernel_rfl)
theorem tb_of {W : World} (h : laidMetH Tryd.prog laid W) : Tb W := by
  rw [MakeChecks.laidMetH_plain _ _ _ (by kernel_rfl)] at h
  have h3 : laidMet Tryd.prog [("internal/strconv.uint64pow10", Lib.tabData .u64 Lib.pow10Tab)] W := h.tail.tail
  exact Lib.tabIs_of_head (g := 0) (t := 106) (e := 97) (n := 20) (by kernel_rfl) (by kernel_rfl) (by kernel_rfl) (by kernel_rfl) (by kernel_rfl) (by kernel_rfl) h3
set_option maxHeartbeats 2000000 in
set_option maxRecDepth 100000 in
theorem lifted (os : Os) (started : os.Started) (H : Type) (enc : TypeId × Value → H) :
    ReturnsInHanded {} Tryd.checked os 3 .any (fun w args => (Rows.fnExactFormatConstraintSpec.pre enc Tryd.prog Tryd.f3 Rows.fnExactFormatConstraintRow.domain false w args ∧ laidMetH Tryd.prog laid w) ∧ sizedMet enc Tryd.prog Tryd.f3 (OpenSpec.ofChange Rows.fnExactFormatConstraintSpec) false w args) (Rows.fnExactFormatConstraintSpec.post enc Tryd.prog Tryd.f3 false true false false) := by
  refine returnsInHanded_of_change_and (C := Tryd.checked) (X := fun w _ => laidMetH Tryd.prog laid w) (fun _ _ _ hh h => h.of_heap hh) own started (by kernel_rfl) Tryd.func3
    (ChangeSpec.witness_shaped (enc := enc) (C := Tryd.checked) (os := os) (X := fun w _ => laidMetH Tryd.prog laid w) false (World.doorLaid Tryd.prog 4000 os) #[.agg #[.int .i64 0, .string ByteArray.empty, .string ByteArray.empty, .int .i64 0, .string ByteArray.empty, .slice none 0 0, .slice none 0 0, .int .i64 0]] 8 rfl (World.shaped_of_RefB (by kernel_rfl) (by kernel_rfl)) (by kernel_rfl) (by kernel_rfl) (by kernel_rfl) (door_met os _)) ?_
  intro W base args ds gs before hval0 hW hcnd hsz0 hL _
  have hTb := tb_of hL
  have hval : ∀ (j : Nat) t v, Tryd.f3.params[j]? = some t → args[j]? = some v → Value.okWide Tryd.prog W .any base t v := hval0
  have hW' := hW
  obtain ⟨p, q, hA0, hV, rfl, hfz, hnd⟩ := hW
  have hA : DataW.TrodAll enc Tryd.prog W 0 (fun _ => true) true Tryd.f3.params.toList args.toList ds p := hA0
  rw [Tryd.params3] at hA hval
  obtain ⟨v0, vs0, d0, ds0, p0, q0, hargs, rfl, rfl, h0, r0⟩ := trodAll_cons hA
  obtain ⟨rfl, rfl, rfl⟩ := trodAll_nil r0
  obtain rfl : args = #[v0] := by cases args; simp_all
  obtain ⟨rfl, rfl⟩ := trodVars_none hV
  have k0 := h0
  have lt0 : ∀ x ∈ p0, x.block < W.heap.size := by obtain ⟨m, hm⟩ := k0; exact DataW.trod_lt m _ _ _ hm
  obtain ⟨arr0, rfl, _, _⟩ : ∃ cs, v0 = .agg cs ∧ cs.size = Tryd.prog.cellsOf 27 ∧ Row.okWide Tryd.prog W .any base 27 cs := by have z := (hval 0 27 v0 rfl rfl); unfold Value.okWide at z; rw [Tryd.underlying27] at z; exact z
  obtain ⟨fuel0, hf0⟩ := h0
  obtain ⟨x0, hK0, hw0⟩ := (show ∀ n, BrN Tryd.prog n 27 _ _ from fun n => (br_struct' Tryd.underlying27 (show Tryd.prog.cellsOf 27 = 8 by kernel_rfl) (fun n => (bf_cons rfl (show Tryd.prog.cellsOf 3 = 1 by kernel_rfl) (br_int Tryd.underlying3 n) (bf_cons rfl (show Tryd.prog.cellsOf 9 = 1 by kernel_rfl) (br_string Tryd.underlying9 n) (bf_cons rfl (show Tryd.prog.cellsOf 9 = 1 by kernel_rfl) (br_string Tryd.underlying9 n) (bf_cons rfl (show Tryd.prog.cellsOf 24 = 3 by kernel_rfl) (br_struct' Tryd.underlying24 (show Tryd.prog.cellsOf 24 = 3 by kernel_rfl) (fun n => (bf_cons rfl (show Tryd.prog.cellsOf 3 = 1 by kernel_rfl) (br_int Tryd.underlying3 n) (bf_cons rfl (show Tryd.prog.cellsOf 9 = 1 by kernel_rfl) (br_string Tryd.underlying9 n) (bf_one rfl (show Tryd.prog.cellsOf 22 = 1 by kernel_rfl) (br_slice' Tryd.underlying22 (show Tryd.prog.cellsOf 24 = 3 by kernel_rfl) (fun n => (br24 n)) n)) (of_decide_eq_true (by kernel_rfl))) (of_decide_eq_true (by kernel_rfl)))) n) (bf_cons rfl (show Tryd.prog.cellsOf 25 = 1 by kernel_rfl) (br_slice' Tryd.underlying25 (show Tryd.prog.cellsOf 3 = 1 by kernel_rfl) (fun n => (br_int Tryd.underlying3 n)) n) (bf_one rfl (show Tryd.prog.cellsOf 3 = 1 by kernel_rfl) (br_int Tryd.underlying3 n)) (of_decide_eq_true (by kernel_rfl))) (of_decide_eq_true (by kernel_rfl))) (of_decide_eq_true (by kernel_rfl))) (of_decide_eq_true (by kernel_rfl))) (of_decide_eq_true (by kernel_rfl)))) n)) fuel0 H enc W 0 (fun _ => true) true fuel0 _ _ (Nat.le_refl _) hf0
  obtain ⟨a0_0, ⟨a0_1, ⟨a0_2, ⟨⟨a0_3, ⟨a0_4, l0_5⟩⟩, ⟨l0_6, a0_7⟩⟩⟩⟩⟩ := x0
  replace hw0 := hw0
  obtain ⟨w0_0, ⟨w0_1, ⟨w0_2, ⟨⟨w0_3, ⟨w0_4, w0_5⟩⟩, ⟨w0_6, w0_7⟩⟩⟩⟩⟩ := hw0
  obtain ⟨cs0, hcs0, hK0⟩ : ∃ cs, (Value.agg arr0).cells.toList = cs ∧ _ := ⟨_, rfl, hK0⟩
  obtain ⟨_, _, rfl, rfl, ⟨_, _, rfl, rfl, ⟨_, _, rfl, rfl, ⟨_, _, rfl, ⟨_, _, rfl, rfl, ⟨_, _, rfl, rfl, ⟨A0_5, c0_5, rfl, hc0_5, hr0_5⟩⟩⟩, ⟨_, _, rfl, ⟨A0_6, c0_6, rfl, hc0_6, hr0_6⟩, rfl⟩⟩⟩⟩⟩ := hK0
  obtain rfl : arr0 = #[.int .i64 a0_0, .string a0_1, .string a0_2, .int .i64 a0_3, .string a0_4, .slice A0_5 l0_5.length c0_5, .slice A0_6 l0_6.length c0_6, .int .i64 a0_7] := arr_of hcs0
  clear hA0 hval0 hsz0
  obtain ⟨k, hp⟩ := Pure.FnExactFormatConstraint a0_0 a0_1 a0_2 a0_3 a0_4 l0_5 l0_6 a0_7 w0_0 w0_1 w0_2 w0_3 w0_4 w0_5 w0_6 w0_7
  refine (laws_FnExactFormatConstraint.calls k a0_0 a0_1 a0_2 a0_3 a0_4 _ _ l0_5 _ _ l0_6 a0_7 true W hr0_5 hc0_5 hr0_6 hc0_6 hp rfl hTb).mono fun e W' ⟨he, bel0⟩ => ?_
  subst he
  have bel : Below W.heap.size W W' := bel0
  exact ⟨_, rfl, _, _, _, [], _, [], hW', trodAll_mk1 (shut_bool Tryd.underlying4 _), (trodAll_cons_mk (Below.trod laidOut (by kernel_rfl) (of_decide_eq_true (by kernel_rfl)) k0 bel lt0) trodAll_mk0), rfl, bel.frame _, fun h => by cases h⟩
theorem fact0 : (Rows.fnExactFormatConstraintRow.inPlace == Tryd.pinned.checked.prog.inPlace 3) = true := by kernel_rfl
theorem fact1 : (Rows.fnExactFormatConstraintRow.unfollowed == Tryd.pinned.checked.prog.unfollowed 3) = true := by kernel_rfl
theorem fact2 : (Rows.fnExactFormatConstraintRow.recurses == Tryd.pinned.checked.prog.recurses 3) = true := by kernel_rfl
theorem fact3 : (Rows.fnExactFormatConstraintRow.named == Tryd.pinned.checked.prog.varsNamed 3) = true := by kernel_rfl
theorem facts : joinedFacts Tryd.pinned.checked.prog 3 Tryd.f3 Rows.fnExactFormatConstraintSpec Rows.fnExactFormatConstraintRow = true := by
  unfold joinedFacts
  rw [fact0, fact1, fact2, fact3]
  kernel_rfl
theorem known : Tryd.pinned.checked.prog.funcNamed Rows.fnExactFormatConstraintRow.func = some 3 := by kernel_rfl
theorem inst : Tryd.f3.isInstance Tryd.pinned.checked.prog Rows.fnExactFormatConstraintRow.origin Rows.fnExactFormatConstraintRow.targs := of_decide_eq_true (by kernel_rfl)
theorem wrap : Tryd.f3.isWrapper Tryd.pinned.checked.prog Rows.fnExactFormatConstraintRow.wrapper Rows.fnExactFormatConstraintRow.mainSum := by unfold Func.isWrapper; first | (rw [if_pos (by decide +kernel)]; kernel_rfl) | (rw [if_neg (by decide +kernel)]; exact ⟨rfl, rfl⟩)
theorem over : Rows.fnExactFormatConstraintRow.holds Tryd.pinned (OpenSpec.ofChange Rows.fnExactFormatConstraintSpec) :=
  OpenClaim.holds_of_wide 3 Tryd.f3 rfl rfl rfl rfl rfl rfl rfl ⟨rfl, rfl, rfl, rfl, rfl⟩ rfl rfl rfl rfl rfl known Tryd.func3 facts inst wrap
    (fun os started H enc _ => lifted os started H enc)
theorem proved : Rows.FnExactFormatConstraintSaid := over
#print axioms proved
end Go.Proofs.YtdchpohiiigobaaDoor.fnExactFormatConstraint
namespace Go.Proofs.YtdchpohiiigobaaDoor
/-- The row, under a short name, for the claim. -/
theorem fnExactFormatConstraint_holds : Rows.FnExactFormatConstraintSaid := fnExactFormatConstraint.proved
end Go.Proofs.YtdchpohiiigobaaDoor

namespace Go.Proofs.YtdchpohiiigobaaDoor
open Go
theorem fnExactFormatConstraintCard_holds : Rows.FnExactFormatConstraintCardSaid :=
  Claim7.holds_tied_plain_at .later [] [.data, .data, .data] true (true, "0e7ca0f478107c6d77823d43d7f2a987e882742f74475530a30025d58e101769") false
    fnExactFormatConstraint_holds (fun _ h => by cases h) (by kernel_rfl) (fun _ h => by cases h) fnExactFormatConstraint_row_tie rfl ⟨rfl, rfl⟩ (by kernel_rfl) rfl
    (fun f fn hf hfn => by
      obtain rfl : f = 3 := Option.some.inj ((show Tryd.prog.funcNamed "loop.example/g00582/laws.FnExactFormatConstraint" = some 3 by kernel_rfl).symm.trans hf) |>.symm
      obtain rfl : fn = Tryd.f3 := (Option.some.inj (Tryd.func3.symm.trans hfn)).symm
      exact ⟨by kernel_rfl, fun j t ht => by
        rw [Tryd.params3] at ht
        have h3 : t = 27 := by
          rcases j with _ | j
          · simpa using ht.symm
          · simp at ht
        subst h3
        exact (show Tryd.prog.wantsStandIn 27 = false by kernel_rfl)⟩)
    (by kernel_rfl)
#print axioms fnExactFormatConstraintCard_holds
end Go.Proofs.YtdchpohiiigobaaDoor
