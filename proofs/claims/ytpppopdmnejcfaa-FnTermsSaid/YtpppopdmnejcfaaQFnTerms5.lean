/- FnTerms: what its proof needs, put together by this session's program wip/merge.py out of the texts that wip/xp.py printed and of this session's own. -/
import Derived.Test.YtpppopdmnejcfaaQFnTerms4
import Derived.ChangeArms
import Derived.ChangeReads
import Derived.DataReads
import Derived.DataElems
import Derived.Lib.Strings
import Derived.Lib.Bytealg
import Derived.Test.YtpppopdmnejcfaaRows
import Derived.WalkKit
import Derived.ProofKit
import Derived.OpenShut
import Derived.ShutString
import Derived.ChangeOld
import Derived.Below
import Derived.SizedLaws
import Derived.Lib.SmallJoins
set_option linter.unusedVariables false
set_option linter.unusedSimpArgs false
set_option maxHeartbeats 8000000
set_option maxRecDepth 100000
namespace Go.Proofs.Ytpppopdmnejcfaa.Br
open Go Go.Proofs.YtpppopdmnejcfaaW.PrintWords
def BrN (P : Program) (n : Nat) (t : TypeId) {α : Type} (d : Kd α) (wf : α → Prop) : Prop :=
 ∀ (H : Type) (enc : TypeId × Value → H) (w : World) (base : Nat) (spare : Nat → Bool) (held : Bool) (m : Nat) (cs : List Value) (x : DataW H × List MemPlace),
  m ≤ n → DataW.trod enc P w base spare held m t cs = some x → ∃ a, d.K w a cs ∧ wf a
def Br (P : Program) (t : TypeId) {α : Type} (d : Kd α) (wf : α → Prop) : Prop := ∀ n, BrN P n t d wf
theorem BrN.mono {P : Program} {n m : Nat} {t : TypeId} {α : Type} {d : Kd α} {wf : α → Prop} (h : BrN P n t d wf) (hm : m ≤ n) : BrN P m t d wf :=
 fun H enc w base spare held k cs x hk => h H enc w base spare held k cs x (Nat.le_trans hk hm)
theorem BrN.imp {P : Program} {n : Nat} {t : TypeId} {α : Type} {d : Kd α} {wf wf' : α → Prop} (h : BrN P n t d wf) (hi : ∀ a, wf a → wf' a) : BrN P n t d wf' :=
 fun H enc w base spare held k cs x hk hx => by
  obtain ⟨a, h1, h2⟩ := h H enc w base spare held k cs x hk hx
  exact ⟨a, h1, hi a h2⟩
theorem BrN.zero (P : Program) (t : TypeId) {α : Type} (d : Kd α) (wf : α → Prop) : BrN P 0 t d wf := by
 intro H enc w base spare held m cs x hm hx
 obtain rfl : m = 0 := by omega
 simp [DataW.trod] at hx
theorem br_int {P : Program} {t : TypeId} {k : IntKind} (ht : P.underlying t = some (.int k)) (n : Nat) : BrN P n t (Kd.int k) (fun a => (Lit.int k a).wf = true) := by
 intro H enc w base spare held m cs x _ hx
 obtain ⟨a, rfl, _, hw⟩ := DataW.trod_int ht hx
 exact ⟨a, rfl, hw⟩
theorem list_of_all {α : Type} {Q : Nat → α → Prop} (n : Nat) (h : ∀ i, i < n → ∃ a, Q i a) : ∃ l : List α, l.length = n ∧ ∀ i a, l[i]? = some a → Q i a := by
 induction n with
 | zero => exact ⟨[], rfl, fun i a h => by simp at h⟩
 | succ n ih =>
  obtain ⟨l, hl, hq⟩ := ih (fun i hi => h i (by omega))
  obtain ⟨a, ha⟩ := h n (by omega)
  refine ⟨l ++ [a], by simp [hl], fun i b hb => ?_⟩
  rcases Nat.lt_or_ge i l.length with hi | hi
  ·rw [List.getElem?_append_left hi] at hb
   exact hq i b hb
  ·rw [List.getElem?_append_right hi] at hb
   obtain ⟨h0, rfl⟩ : i - l.length = 0 ∧ a = b := by
    rcases Nat.eq_zero_or_pos (i - l.length) with h0 | h0
    ·rw [h0] at hb; exact ⟨h0, by simpa using hb⟩
    ·rw [List.getElem?_eq_none (by simp; omega)] at hb; simp at hb
   obtain rfl : i = n := by omega
   exact ha
theorem cells_at {w : World} {base : Nat} {a : Addr} {n : Nat} {cs : List Value} (h : w.cells? base a n = some cs) : cs.length = n ∧ ∀ i u, cs[i]? = some u → w.cell? (a.add i) = some u := by
 unfold World.cells? at h
 split at h
 ·have hl := mapM_some_length h
  refine ⟨by simpa using hl, fun i u hu => ?_⟩
  have hi : i < n := by
   have := (List.getElem?_eq_some_iff.1 hu).1
   simp at hl
   omega
  have := mapM_some_get h i i (by simp [hi])
  rw [this, hu]
 ·simp at h
theorem br_slice {P : Program} {t e : TypeId} {α : Type} {d : Kd α} {wf : α → Prop} {n : Nat} (ht : P.underlying t = some (.slice e)) (hs : P.cellsOf e = d.sz) (h : BrN P n e d wf) :
  BrN P (n + 1) t (Kd.slice e d) (fun l => l.length ≤ 9223372036854775807 ∧ ∀ a ∈ l, wf a) := by
 intro H enc w base spare held m cs x hm hx
 rcases DataW.trod_slice ht hx with ⟨rfl, _⟩ | ⟨a, len, cap, elems, rest, k, rfl, rfl, _, _, hl, hc, he, hg, _, _⟩
 ·exact ⟨[], ⟨none, 0, rfl, Nat.le_refl _, Kd.C_nil d w⟩, by simp, by simp⟩
 ·have hq : ∀ i, i < len → ∃ b, (∃ c, c.length = d.sz ∧ d.K w b c ∧ ∀ j u, c[j]? = some u → w.cell? (a.add (i * d.sz + j)) = some u) ∧ wf b := by
   intro i hi
   have g := hg i hi
   rw [List.getElem?_eq_getElem (by omega)] at g
   obtain ⟨c, hc1, hc2⟩ := Option.bind_eq_some_iff.1 g
   obtain ⟨b, hb, hw⟩ := h H enc w base spare held k c _ (by omega) hc2
   obtain ⟨h1, h2⟩ := cells_at hc1
   refine ⟨b, ⟨c, by rw [h1, hs], hb, fun j u hu => ?_⟩, hw⟩
   have := h2 j u hu
   rw [Addr.add_add, hs] at this
   exact this
  obtain ⟨l, hl1, hl2⟩ := list_of_all len hq
  have hlen : len ≤ 9223372036854775807 := by simp only [maxLen] at hc; omega
  refine ⟨l, ⟨some a, cap, by rw [hl1], by omega, rfl, by omega, fun _ => ⟨a, rfl, fun j p hp => (hl2 j p hp).1⟩⟩, by omega, fun b hb => ?_⟩
  obtain ⟨i, hi, rfl⟩ := List.mem_iff_getElem.1 hb
  exact (hl2 i _ (List.getElem?_eq_getElem hi)).2
theorem br_slice' {P : Program} {t e : TypeId} {α : Type} {d : Kd α} {wf : α → Prop} (ht : P.underlying t = some (.slice e)) (hs : P.cellsOf e = d.sz) (h : ∀ n, BrN P n e d wf) (n : Nat) :
  BrN P n t (Kd.slice e d) (fun l => l.length ≤ 9223372036854775807 ∧ ∀ a ∈ l, wf a) := (br_slice ht hs (h n)).mono (Nat.le_succ n)
end Go.Proofs.Ytpppopdmnejcfaa.Br
namespace Go.Proofs.Ytpppopdmnejcfaa.Pure
open Go Go.RowKit Go.Proofs.Ytpppopdmnejcfaa.Br Go.Proofs.YtpppopdmnejcfaaW.PrintWords Go.Proofs.YtpppopdmnejcfaaW.PrintLast Go.Proofs.Ytpppopdmnejcfaa.A Go.Proofs.Ytpppopdmnejcfaa.Ext
def FnTerms.Pure : Prop := ∀ (l0 : (List Int)), ((l0 : (List Int)).length ≤ 9223372036854775807 ∧ ∀ a ∈ l0, (Lit.int .u8 a).wf = true) → ∃ k, laws_FnTerms.f k l0 = some true
end Go.Proofs.Ytpppopdmnejcfaa.Pure
namespace Go.Proofs.Ytpppopdmnejcfaa.Pl
open Go.RowKit Go.Proofs.YtpppopdmnejcfaaW.PrintWords
def Evt {α : Type} (g : Nat → Option α) (r : α) : Prop := ∃ K, ∀ k, K ≤ k → g k = some r
section
variable {α β : Type}
theorem Evt.const {g : Option α} {r : α} (h : g = some r) : Evt (fun _ => g) r := ⟨0, fun _ _ => h⟩
theorem Evt.ret (r : α) : Evt (fun _ => some r) r := Evt.const rfl
theorem Evt.bind {g : Nat → Option α} {f : Nat → α → Option β} {a : α} {r : β} (hg : Evt g a) (hf : Evt (fun k => f k a) r) : Evt (fun k => (g k).bind (f k)) r := by
 obtain ⟨K, hK⟩ := hg
 obtain ⟨L, hL⟩ := hf
 exact ⟨max K L, fun k hk => by show (g k).bind (f k) = some r; rw [hK k (by omega)]; exact hL k (by omega)⟩
theorem Evt.bindc {g : Option α} {f : Nat → α → Option β} {a : α} {r : β} (hg : g = some a) (hf : Evt (fun k => f k a) r) : Evt (fun k => g.bind (f k)) r := Evt.bind (Evt.const hg) hf
theorem Evt.step {g : Nat → Option α} {r : α} (h : Evt (fun k => g (k + 1)) r) : Evt g r := by
 obtain ⟨K, hK⟩ := h
 exact ⟨K + 1, fun k hk => by
  obtain ⟨m, rfl⟩ : ∃ m, k = m + 1 := ⟨k - 1, by omega⟩
  exact hK m (by omega)⟩
theorem Evt.pos {c : Prop} [Decidable c] {t e : Nat → Option α} {r : α} (h : c) (ht : Evt t r) : Evt (fun k => if c then t k else e k) r := by
 obtain ⟨K, hK⟩ := ht
 exact ⟨K, fun k hk => (if_pos h).trans (hK k hk)⟩
theorem Evt.neg {c : Prop} [Decidable c] {t e : Nat → Option α} {r : α} (h : ¬ c) (ht : Evt e r) : Evt (fun k => if c then t k else e k) r := by
 obtain ⟨K, hK⟩ := ht
 exact ⟨K, fun k hk => (if_neg h).trans (hK k hk)⟩
theorem Evt.ite {c : Prop} [Decidable c] {t e : Nat → Option α} {x y : α} (ht : c → Evt t x) (he : ¬ c → Evt e y) : Evt (fun k => if c then t k else e k) (if c then x else y) := by
 by_cases h : c
 ·rw [if_pos h]; exact Evt.pos h (ht h)
 ·rw [if_neg h]; exact Evt.neg h (he h)
theorem Evt.get {g : Nat → Option α} {r : α} (h : Evt g r) : ∃ k, g k = some r := by
 obtain ⟨K, hK⟩ := h
 exact ⟨K, hK K (Nat.le_refl _)⟩
theorem Evt.of_eq {g g' : Nat → Option α} {r : α} (h : ∀ k, g k = g' k) (h' : Evt g' r) : Evt g r := by
 obtain ⟨K, hK⟩ := h'
 exact ⟨K, fun k hk => by rw [h]; exact hK k hk⟩
theorem Evt.cast {g : Nat → Option α} {r r' : α} (h : Evt g r) (e : r = r') : Evt g r' := e ▸ h
theorem Evt.up (l : Nat → Int → Option α) (n : Nat) (R : Nat → α) (hend : Evt (fun k => l k (n : Int)) (R n))
  (hstep : ∀ i : Nat, i < n → Evt (fun k => l k ((i + 1 : Nat) : Int)) (R (i + 1)) → Evt (fun k => l k (i : Int)) (R i)) : Evt (fun k => l k 0) (R 0) := by
 have h : ∀ d i : Nat, i + d = n → Evt (fun k => l k (i : Int)) (R i) := by
  intro d
  induction d with
  | zero =>
   intro i hi
   obtain rfl : i = n := by omega
   exact hend
  | succ d ih =>
   intro i hi
   exact hstep i (by omega) (ih (i + 1) (by omega))
 exact h n 0 (by omega)
end
theorem w64 {x : Int} (h : -9223372036854775808 ≤ x) (h' : x ≤ 9223372036854775807) : wrap64 x = x := by unfold wrap64; omega
theorem w64s {i : Nat} (h : i < 9223372036854775807) : wrap64 ((i : Int) + 1) = ((i + 1 : Nat) : Int) := by
 rw [w64 (by omega) (by omega)]; omega
theorem bt0 (s : ByteArray) (i : Int) : 0 ≤ bt s i := (bt_range s i).1
theorem bt255 (s : ByteArray) (i : Int) : bt s i ≤ 255 := (bt_range s i).2
theorem bt_get (s : ByteArray) (i : Nat) (h : i < (bytesOf s).length) : bt s (i : Int) = (bytesOf s)[i] := by
 rw [← rd_bytesOf]
 simp [rd, h]
theorem bytesOf_inj {s t : ByteArray} (h : bytesOf s = bytesOf t) : s = t := by
 have h1 : s.data.toList = t.data.toList := by
  refine List.map_inj_right (f := fun b : UInt8 => (b.toNat : Int)) (fun x y hxy => ?_) |>.1 h
  exact UInt8.toNat_inj.1 (Int.ofNat_inj.1 hxy)
 cases s; cases t
 simp only [ByteArray.mk.injEq]
 exact Array.toList_inj.1 h1
theorem toList_eq_iff (s t : ByteArray) : s.toList = t.toList ↔ s = t := by
 rw [Lib.toList_data, Lib.toList_data]
 constructor
 ·intro h
  cases s; cases t
  simp only [ByteArray.mk.injEq]
  exact Array.toList_inj.1 h
 ·rintro rfl; rfl
theorem toList_nil_iff (s : ByteArray) : s.toList = ([] : List UInt8) ↔ s.size = 0 := by
 rw [Lib.toList_data, ← data_length, List.length_eq_zero_iff]
theorem mem_bytes (s : ByteArray) {c : Int} (h : c ∈ bytesOf s) : 0 ≤ c ∧ c ≤ 255 := by
 unfold bytesOf at h
 obtain ⟨b, _, rfl⟩ := List.mem_map.1 h
 have := b.toNat_lt
 omega
theorem bytesOf_append (s t : ByteArray) : bytesOf (s ++ t) = bytesOf s ++ bytesOf t := by
 simp [bytesOf, ByteArray.data_append]
theorem bytesOf_extract (s : ByteArray) (a b : Nat) : bytesOf (s.extract a b) = ((bytesOf s).drop a).take (b - a) := by
 have h := Lib.extract_toList s a b
 rw [Lib.toList_data] at h
 unfold bytesOf
 rw [h, List.map_take, List.map_drop]
theorem bytesOf_tail (s : ByteArray) (a : Nat) : bytesOf (s.extract a s.size) = (bytesOf s).drop a := by
 rw [bytesOf_extract, List.take_of_length_le]
 rw [List.length_drop, bytesOf_length]
 exact Nat.le_refl _
def ltI (c : Int) : Int := if 97 = c then 0 else if 98 = c then 1 else if 99 = c then 2 else -1
def varI (c : Int) : Int := if 88 = c then 0 else if 89 = c then 1 else if 90 = c then 2 else -1
def isVr (c : Int) : Bool := decide (88 ≤ c ∧ c ≤ 90)
theorem ix_abc : ∀ n : Nat, n < 256 → Lib.indexByte [97, 98, 99] n.toUInt8 = ltI (n : Int) := by decide +kernel
theorem ix_XYZ : ∀ n : Nat, n < 256 → Lib.indexByte [88, 89, 90] n.toUInt8 = varI (n : Int) := by decide +kernel
theorem varI_isVar (c : Int) : decide (varI c ≥ 0) = isVr c := by
 unfold varI isVr
 split
 ·subst_vars; rfl
 ·split
  ·subst_vars; rfl
  ·split
   ·subst_vars; rfl
   ·simp; omega
theorem ltI_nonneg (c : Int) : 0 ≤ ltI c ↔ (97 ≤ c ∧ c ≤ 99) := by
 unfold ltI
 split
 ·subst_vars; simp
 ·split
  ·subst_vars; simp
  ·split
   ·subst_vars; simp
   ·simp; omega
theorem ltI_le (c : Int) : ltI c ≤ 2 := by
 unfold ltI
 repeat' split
 all_goals omega
theorem ltI_ge (c : Int) : -1 ≤ ltI c := by
 unfold ltI
 repeat' split
 all_goals omega
theorem bt_abc0 : bt (⟨#[97, 98, 99]⟩ : ByteArray) 0 = 97 := by decide
theorem bt_abc1 : bt (⟨#[97, 98, 99]⟩ : ByteArray) 1 = 98 := by decide
theorem bt_abc2 : bt (⟨#[97, 98, 99]⟩ : ByteArray) 2 = 99 := by decide
theorem bt_XYZ0 : bt (⟨#[88, 89, 90]⟩ : ByteArray) 0 = 88 := by decide
theorem bt_XYZ1 : bt (⟨#[88, 89, 90]⟩ : ByteArray) 1 = 89 := by decide
theorem bt_XYZ2 : bt (⟨#[88, 89, 90]⟩ : ByteArray) 2 = 90 := by decide
theorem w64_a : wrap64 1 = 1 := by unfold wrap64; omega
theorem w64_b : wrap64 2 = 2 := by unfold wrap64; omega
theorem w64_c : wrap64 3 = 3 := by unfold wrap64; omega
theorem w64_1 : wrap64 (0 + 1) = 1 := by unfold wrap64; omega
theorem w64_2 : wrap64 (1 + 1) = 2 := by unfold wrap64; omega
theorem w64_3 : wrap64 (2 + 1) = 3 := by unfold wrap64; omega
theorem indexByte_nonneg (l : List UInt8) (c : UInt8) : 0 ≤ Lib.indexByte l c ↔ c ∈ l := by
 induction l with
 | nil => simp [Lib.indexByte]
 | cons b l ih =>
  unfold Lib.indexByte
  by_cases h : b = c
  ·subst h; simp
  ·have hb : (b == c) = false := by simpa using h
   rw [hb]
   have hge := Lib.indexByte_ge l c
   by_cases h2 : Lib.indexByte l c = -1
   ·simp only [h2]
    simp
    refine ⟨fun e => h e.symm, fun hm => ?_⟩
    have := ih.2 hm
    omega
   ·have h3 : (Lib.indexByte l c == -1) = false := by simpa using h2
    rw [h3]
    simp
    constructor
    ·intro _; exact .inr (ih.1 (by omega))
    ·rintro (e | hm)
     ·exact absurd e.symm h
     ·have := ih.2 hm; omega
theorem mem_data (s : ByteArray) (n : Nat) (hn : n < 256) : n.toUInt8 ∈ s.data.toList ↔ (n : Int) ∈ bytesOf s := by
 unfold bytesOf
 rw [List.mem_map]
 constructor
 ·intro h
  exact ⟨_, h, by simp [Nat.mod_eq_of_lt hn]⟩
 ·rintro ⟨b, hb, e⟩
  have e2 : b.toNat = n := by omega
  subst e2
  simpa using hb
theorem w64_sub {a : Int} {n : Nat} (ha : -1 ≤ a) (ha' : a ≤ 1048576) (hn : n ≤ 9223372036854775807) : wrap64 (a - (n : Int)) = a - (n : Int) := w64 (by omega) (by omega)
end Go.Proofs.Ytpppopdmnejcfaa.Pl
namespace Go.Proofs.Ytpppopdmnejcfaa.F
open Go.RowKit Go.Proofs.YtpppopdmnejcfaaW.PrintWords Go.Proofs.Ytpppopdmnejcfaa.Pl Go.Proofs.Ytpppopdmnejcfaa.A Go.Proofs.Ytpppopdmnejcfaa.Ext
theorem spec_LetterIndex_ev (c : Int) : Evt (fun k => spec_LetterIndex.f k c) (ltI c) := by
 refine ⟨4, fun k hk => ?_⟩
 obtain ⟨m, rfl⟩ : ∃ m, k = m + 4 := ⟨k - 4, by omega⟩
 unfold ltI
 by_cases h0 : (97 : Int) = c
 ·simp [spec_LetterIndex.f, spec_LetterIndex.l0, w64_a, w64_b, w64_c, bt_abc0, bt_abc1, bt_abc2, h0]
 ·by_cases h1 : (98 : Int) = c
  ·simp [spec_LetterIndex.f, spec_LetterIndex.l0, w64_a, w64_b, w64_c, bt_abc0, bt_abc1, bt_abc2, h0, h1]
  ·by_cases h2 : (99 : Int) = c
   ·simp [spec_LetterIndex.f, spec_LetterIndex.l0, w64_a, w64_b, w64_c, bt_abc0, bt_abc1, bt_abc2, h0, h1, h2]
   ·simp [spec_LetterIndex.f, spec_LetterIndex.l0, w64_a, w64_b, w64_c, bt_abc0, bt_abc1, bt_abc2, h0, h1, h2]
theorem impl_LetterIndex_eq {c : Int} (h0 : 0 ≤ c) (h1 : c ≤ 255) : impl_LetterIndex.f c = some (ltI c) := by
 obtain ⟨n, rfl⟩ := Int.eq_ofNat_of_zero_le h0
 simp only [impl_LetterIndex.f, strings_IndexByte.f, Option.bind_some]
 rw [Int.toNat_natCast]
 exact congrArg some (ix_abc n (by omega))
def allL (l : List Int) : Bool := l.all fun c => decide (0 ≤ ltI c)
def isW (s : ByteArray) : Bool := allL (bytesOf s) && decide (s.size ≤ 30)
theorem spec_IsWord_ev (s : ByteArray) (hs : s.size ≤ 9223372036854775807) : Evt (fun k => spec_IsWord.f k s) (isW s) := by
 have h := Evt.up (fun k i => spec_IsWord.l0 k s i) s.size (fun i => allL ((bytesOf s).drop i) && decide (s.size ≤ 30)) ?_ ?_
 ·simpa [spec_IsWord.f, isW] using h
 ·refine Evt.step ?_
  simp only [spec_IsWord.l0]
  rw [List.drop_of_length_le (by rw [bytesOf_length]; omega)]
  refine Evt.neg (by omega) (Evt.const ?_)
  have e : ((s.size : Int) ≤ 30) = (s.size ≤ 30) := by apply propext; omega
  simp [allL, e]
 ·intro i hi h
  refine Evt.step ?_
  simp only [spec_IsWord.l0]
  refine Evt.pos (by omega) (Evt.pos (by omega) (Evt.bind (spec_LetterIndex_ev _) ?_))
  have hl : i < (bytesOf s).length := by rw [bytesOf_length]; exact hi
  rw [List.drop_eq_getElem_cons hl, ← bt_get s i hl]
  by_cases hc : ltI (bt s i) < 0
  ·exact Evt.pos hc (Evt.const (by simp [allL, show ¬ (0 ≤ ltI (bt s i)) by omega]))
  ·rw [w64s (by omega)]
   exact Evt.neg hc (h.cast (by simp [allL, show 0 ≤ ltI (bt s i) by omega]))
end Go.Proofs.Ytpppopdmnejcfaa.F
namespace Go.Proofs.Ytpppopdmnejcfaa.F
open Go.RowKit Go.Proofs.YtpppopdmnejcfaaW.PrintWords Go.Proofs.Ytpppopdmnejcfaa.Pl Go.Proofs.Ytpppopdmnejcfaa.A Go.Proofs.Ytpppopdmnejcfaa.Ext
theorem impl_isVariable_eq {c : Int} (h0 : 0 ≤ c) (h1 : c ≤ 255) : impl_isVariable.f c = some (isVr c) := by
 obtain ⟨n, rfl⟩ := Int.eq_ofNat_of_zero_le h0
 simp only [impl_isVariable.f, strings_IndexByte.f, Option.bind_some]
 rw [Int.toNat_natCast, ← varI_isVar, ← ix_XYZ n (by omega)]
theorem spec_l8Var_eq (c : Int) : spec_l8Var.f c = some (isVr c) := by
 unfold spec_l8Var.f isVr
 by_cases h : c ≥ 88
 ·rw [if_pos h]; simp [show 88 ≤ c from h]
 ·rw [if_neg h]; simp [show ¬ 88 ≤ c from h]
def isT (c : Int) : Bool := decide (0 ≤ ltI c) || isVr c
def isTm (s : ByteArray) : Bool := (bytesOf s).all isT && decide (s.size ≤ 12)
theorem spec_IsTerm_ev (s : ByteArray) (hs : s.size ≤ 9223372036854775807) : Evt (fun k => spec_IsTerm.f k s) (isTm s) := by
 have h := Evt.up (fun k i => spec_IsTerm.l0 k s i) s.size (fun i => ((bytesOf s).drop i).all isT && decide (s.size ≤ 12)) ?_ ?_
 ·simpa [spec_IsTerm.f, isTm] using h
 ·refine Evt.step ?_
  simp only [spec_IsTerm.l0]
  rw [List.drop_of_length_le (by rw [bytesOf_length]; omega)]
  refine Evt.neg (by omega) (Evt.const ?_)
  have e : ((s.size : Int) ≤ 12) = (s.size ≤ 12) := by apply propext; omega
  simp [e]
 ·intro i hi h
  refine Evt.step ?_
  simp only [spec_IsTerm.l0]
  refine Evt.pos (by omega) (Evt.pos (by omega) (Evt.bind (spec_LetterIndex_ev _) ?_))
  have hl : i < (bytesOf s).length := by rw [bytesOf_length]; exact hi
  rw [List.drop_eq_getElem_cons hl, ← bt_get s i hl, w64s (by omega)]
  by_cases hc : ltI (bt s i) < 0
  ·refine Evt.pos hc (Evt.bindc (spec_l8Var_eq _) ?_)
   by_cases hv : isVr (bt s i) = true
   ·exact Evt.pos hv (h.cast (by simp [isT, hv]))
   ·exact Evt.neg hv (Evt.const (by simp [isT, hv, show ¬ (0 ≤ ltI (bt s i)) by omega]))
  ·exact Evt.neg hc (h.cast (by simp [isT, show 0 ≤ ltI (bt s i) by omega]))
theorem impl_IsTerm_ev (s : ByteArray) : Evt (fun k => impl_IsTerm.f k s) (isTm s) := by
 simp only [impl_IsTerm.f]
 by_cases h12 : (s.size : Int) > 12
 ·exact Evt.pos h12 (Evt.const (by simp [isTm, show ¬ s.size ≤ 12 by omega]))
 refine Evt.neg h12 ?_
 have h := Evt.up (fun k i => impl_IsTerm.l0 k s i) s.size (fun i => ((bytesOf s).drop i).all isT) ?_ ?_
 ·exact h.cast (by simp [isTm, show s.size ≤ 12 by omega])
 ·refine Evt.step ?_
  simp only [impl_IsTerm.l0]
  rw [List.drop_of_length_le (by rw [bytesOf_length]; omega)]
  exact Evt.neg (by omega) (Evt.ret _)
 ·intro i hi h
  refine Evt.step ?_
  simp only [impl_IsTerm.l0]
  refine Evt.pos (by omega) (Evt.pos (by omega) (Evt.bindc (impl_LetterIndex_eq (bt0 _ _) (bt255 _ _)) ?_))
  have hl : i < (bytesOf s).length := by rw [bytesOf_length]; exact hi
  rw [List.drop_eq_getElem_cons hl, ← bt_get s i hl, w64s (by omega)]
  by_cases hc : ltI (bt s i) < 0
  ·refine Evt.pos hc (Evt.bindc (impl_isVariable_eq (bt0 _ _) (bt255 _ _)) ?_)
   by_cases hv : isVr (bt s i) = true
   ·exact Evt.pos hv (h.cast (by simp [isT, hv]))
   ·exact Evt.neg hv (Evt.const (by simp [isT, hv, show ¬ (0 ≤ ltI (bt s i)) by omega]))
  ·exact Evt.neg hc (h.cast (by simp [isT, show 0 ≤ ltI (bt s i) by omega]))
def cntB (l : List Int) (c : Int) : Nat := l.count c
theorem spec_CountByte_ev (s : ByteArray) (c : Int) (hs : s.size ≤ 9223372036854775807) : Evt (fun k => spec_CountByte.f k s c) ((cntB (bytesOf s) c : Nat) : Int) := by
 have h : ∀ d i n : Nat, i + d = s.size → n ≤ i → Evt (fun k => spec_CountByte.l0 k s c (n : Int) (i : Int)) (((n + cntB ((bytesOf s).drop i) c : Nat)) : Int) := by
  intro d
  induction d with
  | zero =>
   intro i n hi hn
   refine Evt.step ?_
   simp only [spec_CountByte.l0]
   rw [List.drop_of_length_le (by rw [bytesOf_length]; omega)]
   exact Evt.neg (by omega) (Evt.const (by simp [cntB]))
  | succ d ih =>
   intro i n hi hn
   refine Evt.step ?_
   simp only [spec_CountByte.l0]
   have hl : i < (bytesOf s).length := by rw [bytesOf_length]; omega
   rw [List.drop_eq_getElem_cons hl, ← bt_get s i hl, w64s (i := i) (by omega), w64s (i := n) (by omega)]
   refine Evt.pos (by omega) (Evt.pos (by omega) ?_)
   by_cases hc : bt s i = c
   ·exact Evt.pos hc ((ih (i + 1) (n + 1) (by omega) (by omega)).cast (by simp [cntB, hc]; omega))
   ·exact Evt.neg hc ((ih (i + 1) n (by omega) (by omega)).cast (by simp [cntB, hc]))
 have := h s.size 0 0 (by omega) (by omega)
 simpa [spec_CountByte.f] using this
theorem cntB_pos (l : List Int) (c : Int) : ((cntB l c : Nat) : Int) > 0 ↔ c ∈ l := by
 unfold cntB
 rw [show (((l.count c : Nat) : Int) > 0) = (0 < l.count c) by apply propext; omega]
 exact List.count_pos_iff
def vr (p : Int → Bool) : Nat → Int → ByteArray → ByteArray
 | 0, _, acc => acc
 | n + 1, i, acc => vr p n (i + 1) (if p (bt (⟨#[88, 89, 90]⟩ : ByteArray) i) = true then acc ++ ((⟨#[88, 89, 90]⟩ : ByteArray).extract (i : Int).toNat ((i + 1) : Int).toNat) else acc)
def varsB (s : ByteArray) : ByteArray := vr (fun c => decide (c ∈ bytesOf s)) 3 0 (⟨#[]⟩ : ByteArray)
theorem ext_size (i : Int) (h0 : 0 ≤ i) (h : i < 3) : ((⟨#[88, 89, 90]⟩ : ByteArray).extract (i : Int).toNat ((i + 1) : Int).toNat).size = 1 := by
 have : i = 0 ∨ i = 1 ∨ i = 2 := by omega
 rcases this with rfl | rfl | rfl <;> rfl
theorem spec_VarsOf_ev (s : ByteArray) (hs : s.size ≤ 9223372036854775807) : Evt (fun k => spec_VarsOf.f k s) (varsB s) := by
 have h : ∀ (n : Nat) (i : Int) (acc : ByteArray), 0 ≤ i → i + n = 3 → acc.size + n ≤ 3 → Evt (fun k => spec_VarsOf.l0 k s acc i) (vr (fun c => decide (c ∈ bytesOf s)) n i acc) := by
  intro n
  induction n with
  | zero =>
   intro i acc h0 hi ha
   refine Evt.step ?_
   simp only [spec_VarsOf.l0]
   exact Evt.neg (by omega) (Evt.ret _)
  | succ n ih =>
   intro i acc h0 hi ha
   have hx := ext_size i h0 (by omega)
   have hw : wrap64 (i + 1) = i + 1 := w64 (by omega) (by omega)
   refine Evt.step ?_
   simp only [spec_VarsOf.l0, hw, hx]
   refine Evt.pos (by omega) (Evt.pos (by omega) (Evt.bind (spec_CountByte_ev s _ hs) ?_))
   unfold vr
   by_cases hc : bt (⟨#[88, 89, 90]⟩ : ByteArray) i ∈ bytesOf s
   ·refine Evt.pos ((cntB_pos _ _).2 hc) (Evt.pos (by omega) (Evt.pos (by omega) (Evt.pos (by omega) ?_)))
    exact (ih (i + 1) _ (by omega) (by omega) (by rw [ByteArray.size_append, hx]; omega)).cast (by simp [hc])
   ·exact Evt.neg (fun h => hc ((cntB_pos _ _).1 h)) ((ih (i + 1) acc (by omega) (by omega) (by omega)).cast (by simp [hc]))
 simpa [spec_VarsOf.f, varsB] using h 3 0 (⟨#[]⟩ : ByteArray) (by omega) (by omega) (by decide)
theorem ib_nonneg (s : ByteArray) {c : Int} (h0 : 0 ≤ c) (h1 : c ≤ 255) : Lib.indexByte s.data.toList c.toNat.toUInt8 ≥ 0 ↔ c ∈ bytesOf s := by
 obtain ⟨n, rfl⟩ := Int.eq_ofNat_of_zero_le h0
 rw [Int.toNat_natCast, ge_iff_le, indexByte_nonneg, mem_data s n (by omega)]
theorem impl_VarsOf_ev (s : ByteArray) : Evt (fun k => impl_VarsOf.f k s) (varsB s) := by
 have h : ∀ (n : Nat) (i : Int) (acc : ByteArray), 0 ≤ i → i + n = 3 → acc.size + n ≤ 3 → Evt (fun k => impl_VarsOf.l0 k s acc i) (vr (fun c => decide (c ∈ bytesOf s)) n i acc) := by
  intro n
  induction n with
  | zero =>
   intro i acc h0 hi ha
   refine Evt.step ?_
   simp only [impl_VarsOf.l0]
   exact Evt.neg (by omega) (Evt.ret _)
  | succ n ih =>
   intro i acc h0 hi ha
   have hx := ext_size i h0 (by omega)
   have hw : wrap64 (i + 1) = i + 1 := w64 (by omega) (by omega)
   refine Evt.step ?_
   simp only [impl_VarsOf.l0, hw, hx]
   refine Evt.pos (by omega) (Evt.pos (by omega) (Evt.bindc rfl ?_))
   unfold vr
   by_cases hc : bt (⟨#[88, 89, 90]⟩ : ByteArray) i ∈ bytesOf s
   ·refine Evt.pos ((ib_nonneg s (bt0 _ _) (bt255 _ _)).2 hc) (Evt.pos (by omega) (Evt.pos (by omega) (Evt.pos (by omega) ?_)))
    exact (ih (i + 1) _ (by omega) (by omega) (by rw [ByteArray.size_append, hx]; omega)).cast (by simp [hc])
   ·exact Evt.neg (fun h => hc ((ib_nonneg s (bt0 _ _) (bt255 _ _)).1 h)) ((ih (i + 1) acc (by omega) (by omega) (by omega)).cast (by simp [hc]))
 simpa [impl_VarsOf.f, varsB] using h 3 0 (⟨#[]⟩ : ByteArray) (by omega) (by omega) (by decide)
end Go.Proofs.Ytpppopdmnejcfaa.F
namespace Go.Proofs.Ytpppopdmnejcfaa.F
open Go Go.RowKit Go.Proofs.YtpppopdmnejcfaaW.PrintWords Go.Proofs.Ytpppopdmnejcfaa.Pl Go.Proofs.Ytpppopdmnejcfaa.A Go.Proofs.Ytpppopdmnejcfaa.Ext
theorem i64wrap255 (n : Nat) (h : n ≤ 255) : IntKind.i64.wrap (n : Int) = n := by
 unfold IntKind.wrap
 simp [IntKind.signed, IntKind.bits]
 omega
theorem and255 (a : Int) : 0 ≤ Go.bits .and .i64 a 255 ∧ Go.bits .and .i64 a 255 ≤ 255 := by
 have h : (BitVec.ofInt 64 a &&& BitVec.ofInt 64 255).toNat ≤ 255 := by
  rw [BitVec.toNat_and]
  exact Nat.le_trans Nat.and_le_right (by decide)
 have e : Go.bits .and .i64 a 255 = IntKind.i64.wrap ((BitVec.ofInt 64 a &&& BitVec.ofInt 64 255).toNat : Int) := rfl
 rw [e, i64wrap255 _ h]
 omega
def Cu (b : List Int) (i : Int) : Prop := b.length ≤ 1048576 ∧ 0 ≤ i ∧ i ≤ b.length
theorem l1Byte_ok {b : List Int} {i : Int} (h : Int) (hc : Cu b i) : ∃ x i' h', spec_l1Byte.f b i h = some (x, i', h') ∧ 0 ≤ x ∧ x ≤ 255 ∧ Cu b i' := by
 obtain ⟨h0, h1, h2⟩ := hc
 unfold spec_l1Byte.f
 by_cases hl : i < (b.length : Int)
 ·rw [if_pos hl, if_pos h1]
  refine ⟨_, _, _, rfl, (and255 _).1, (and255 _).2, h0, ?_⟩
  rw [w64 (by omega) (by omega)]
  omega
 ·rw [if_neg hl]
  exact ⟨_, _, _, rfl, (and255 _).1, (and255 _).2, h0, h1, h2⟩
theorem l1Below_ok {b : List Int} {i : Int} (h n : Int) (hc : Cu b i) (hn : 1 ≤ n) (hn' : n ≤ 256) : ∃ x i' h', spec_l1Below.f b i h n = some (x, i', h') ∧ 0 ≤ x ∧ x < n ∧ Cu b i' := by
 obtain ⟨x, i', h', e, h0, h1, hc'⟩ := l1Byte_ok h hc
 unfold spec_l1Below.f
 rw [if_neg (by omega), if_pos hn', e]
 simp only [Option.bind_some]
 rw [if_neg (by omega)]
 exact ⟨_, _, _, rfl, Int.tmod_nonneg _ h0, Int.tmod_lt_of_pos _ (by omega), hc'⟩
theorem l1Once_ok {b : List Int} {i : Int} (h n : Int) (hc : Cu b i) (hn : 1 ≤ n) (hn' : n ≤ 256) : ∃ x i' h', spec_l1Once.f b i h n = some (x, i', h') ∧ Cu b i' := by
 obtain ⟨x, i', h', e, _, _, hc'⟩ := l1Below_ok h n hc hn hn'
 unfold spec_l1Once.f
 rw [e]
 exact ⟨_, _, _, rfl, hc'⟩
theorem l1Pick_ok {b : List Int} {i : Int} (h : Int) (l : List ByteArray) (hc : Cu b i) (hn : 1 ≤ l.length) (hn' : l.length ≤ 256) : ∃ s i' h', spec_l1Pick.f b i h l = some (s, i', h') ∧ s ∈ l ∧ Cu b i' := by
 obtain ⟨x, i', h', e, h0, h1, hc'⟩ := l1Below_ok h (l.length : Int) hc (by omega) (by omega)
 unfold spec_l1Pick.f
 rw [e]
 simp only [Option.bind_some]
 rw [if_pos h0, if_pos h1]
 refine ⟨_, _, _, rfl, ?_, hc'⟩
 have hx : x.toNat < l.length := by omega
 unfold rdOf
 rw [List.getD_eq_getElem?_getD, List.getElem?_eq_getElem hx]
 exact List.getElem_mem hx
theorem l1New_ok (l : List Int) (hl : l.length ≤ 1048576) : ∃ h, Evt (fun k => spec_l1New.f k l) (l, 0, h) := by
 have hh : ∀ d i : Nat, i + d = l.length → ∀ h : Int, ∃ h', Evt (fun k => spec_l1New.l0 k l h (i : Int)) (l, 0, h') := by
  intro d
  induction d with
  | zero =>
   intro i hi h
   refine ⟨h, Evt.step ?_⟩
   simp only [spec_l1New.l0]
   exact Evt.neg (by omega) (Evt.ret _)
  | succ d ih =>
   intro i hi h
   by_cases hm : (i : Int) < 4000
   ·obtain ⟨h', hn⟩ := ih (i + 1) (by omega) (Go.bits .and .i64 (wrap64 ((wrap64 ((wrap64 (h * 131)) + (wrap64 (rd l (i : Int))))) + 7)) 1073741823)
    refine ⟨h', Evt.step ?_⟩
    simp only [spec_l1New.l0]
    rw [w64s (by omega)]
    exact Evt.pos (by omega) (Evt.pos hm (Evt.pos (by omega) hn))
   ·refine ⟨h, Evt.step ?_⟩
    simp only [spec_l1New.l0]
    exact Evt.pos (by omega) (Evt.neg hm (Evt.ret _))
 exact hh l.length 0 (by omega) _
theorem l2Word_ok {b : List Int} {i : Int} (h : Int) (n : Nat) (hc : Cu b i) (hn : n ≤ 200) : ∃ s i' h', Evt (fun k => spec_l2Word.f k b i h (n : Int)) (s, i', h') ∧ s.size ≤ n ∧ Cu b i' := by
 obtain ⟨m, i1, h1, e, m0, m1, hc1⟩ := l1Below_ok h ((n : Int) + 1) hc (by omega) (by omega)
 obtain ⟨m, rfl⟩ := Int.eq_ofNat_of_zero_le m0
 have hh : ∀ d j : Nat, j + d = m → ∀ (acc : ByteArray) (i h : Int), acc.size ≤ j → Cu b i → ∃ s i' h', Evt (fun k => spec_l2Word.l0 k acc (m : Int) (j : Int) b i h) (s, i', h') ∧ s.size ≤ n ∧ Cu b i' := by
  intro d
  induction d with
  | zero =>
   intro j hj acc i h ha hc
   refine ⟨acc, i, h, Evt.step ?_, by omega, hc⟩
   simp only [spec_l2Word.l0]
   exact Evt.neg (by omega) (Evt.ret _)
  | succ d ih =>
   intro j hj acc i h ha hc
   obtain ⟨s, i', h', e, hs, hc'⟩ := l1Pick_ok h [(⟨#[97]⟩ : ByteArray), (⟨#[98]⟩ : ByteArray), (⟨#[97]⟩ : ByteArray), (⟨#[98]⟩ : ByteArray), (⟨#[99]⟩ : ByteArray)] hc (by decide) (by decide)
   have hs1 : s.size = 1 := by
    simp only [List.mem_cons, List.not_mem_nil, or_false] at hs
    rcases hs with rfl | rfl | rfl | rfl | rfl <;> rfl
   obtain ⟨r, i2, h2, hr, hr2, hc2⟩ := ih (j + 1) (by omega) (acc ++ s) i' h' (by rw [ByteArray.size_append]; omega) hc'
   refine ⟨r, i2, h2, Evt.step ?_, hr2, hc2⟩
   simp only [spec_l2Word.l0]
   rw [w64s (by omega)]
   exact Evt.pos (by omega) (Evt.bindc e (Evt.pos (show acc.size + s.size ≤ 9223372036854775807 by omega) hr))
 obtain ⟨s, i', h', hr, hr2, hc2⟩ := hh m 0 (by omega) (⟨#[]⟩ : ByteArray) i1 h1 (Nat.le_refl _) hc1
 refine ⟨s, i', h', ?_, hr2, hc2⟩
 simp only [spec_l2Word.f]
 rw [w64 (by omega) (by omega)]
 exact Evt.bindc e hr
theorem l2Any_ok {b : List Int} {i : Int} (h : Int) (hc : Cu b i) : ∃ s i' h', Evt (fun k => spec_l2Any.f k b i h) (s, i', h') ∧ s.size ≤ 31 ∧ Cu b i' := by
 obtain ⟨s, i1, h1, e, hs, hc1⟩ := l2Word_ok h 6 hc (by omega)
 obtain ⟨r, i2, h2, e2, hr, hc2⟩ := l1Pick_ok h1 [(⟨#[]⟩ : ByteArray), (⟨#[97]⟩ : ByteArray), (⟨#[97, 98, 99]⟩ : ByteArray), (⟨#[99, 99]⟩ : ByteArray), (⟨#[97, 98, 100]⟩ : ByteArray), (⟨#[65]⟩ : ByteArray), (⟨#[99, 99, 99, 99, 99, 99, 99, 99, 99, 99, 99, 99, 99, 99, 99, 99, 99, 99, 99, 99, 99, 99, 99, 99, 99, 99, 99, 99, 99, 99]⟩ : ByteArray), (⟨#[97, 97, 97, 97, 97, 97, 97, 97, 97, 97, 97, 97, 97, 97, 97, 97, 97, 97, 97, 97, 97, 97, 97, 97, 97, 97, 97, 97, 97, 97, 97]⟩ : ByteArray), (⟨#[97, 99, 99]⟩ : ByteArray), s] hc1 (by simp) (by simp)
 refine ⟨r, i2, h2, ?_, ?_, hc2⟩
 ·simp only [spec_l2Any.f]
  exact Evt.bind e (Evt.bindc e2 (Evt.ret _))
 ·simp only [List.mem_cons, List.not_mem_nil, or_false] at hr
  rcases hr with rfl | rfl | rfl | rfl | rfl | rfl | rfl | rfl | rfl | rfl
  all_goals first | decide | omega
theorem l8Draw_ok {b : List Int} {i : Int} (h : Int) (n : Nat) (vars : ByteArray) (hc : Cu b i) (hn : n ≤ 200) (hv : vars.size ≤ 3) : ∃ s i' h', Evt (fun k => spec_l8Draw.f k b i h (n : Int) vars) (s, i', h') ∧ s.size ≤ n ∧ Cu b i' := by
 obtain ⟨m, i1, h1, e, m0, m1, hc1⟩ := l1Below_ok h ((n : Int) + 1) hc (by omega) (by omega)
 obtain ⟨m, rfl⟩ := Int.eq_ofNat_of_zero_le m0
 have hh : ∀ d j : Nat, j + d = m → ∀ (acc : ByteArray) (i h : Int), acc.size ≤ j → Cu b i → ∃ s i' h', Evt (fun k => spec_l8Draw.l0 k vars acc (m : Int) (j : Int) b i h) (s, i', h') ∧ s.size ≤ n ∧ Cu b i' := by
  intro d
  induction d with
  | zero =>
   intro j hj acc i h ha hc
   refine ⟨acc, i, h, Evt.step ?_, by omega, hc⟩
   simp only [spec_l8Draw.l0]
   exact Evt.neg (by omega) (Evt.ret _)
  | succ d ih =>
   intro j hj acc i h ha hc
   obtain ⟨s, i', h', e, hs, hc'⟩ := l1Pick_ok h [(⟨#[97]⟩ : ByteArray), (⟨#[98]⟩ : ByteArray), (⟨#[88]⟩ : ByteArray), (⟨#[89]⟩ : ByteArray), (⟨#[88]⟩ : ByteArray), (⟨#[97]⟩ : ByteArray), (⟨#[90]⟩ : ByteArray)] hc (by decide) (by decide)
   have hs1 : s.size = 1 := by
    simp only [List.mem_cons, List.not_mem_nil, or_false] at hs
    rcases hs with rfl | rfl | rfl | rfl | rfl | rfl | rfl <;> rfl
   obtain ⟨r, i2, h2, hr, hr2, hc2⟩ := ih (j + 1) (by omega) (acc ++ s) i' h' (by rw [ByteArray.size_append]; omega) hc'
   obtain ⟨r', i3, h3, hr', hr2', hc3⟩ := ih (j + 1) (by omega) acc i' h' (by omega) hc'
   by_cases c1 : ltI (bt s 0) ≥ 0
   ·refine ⟨r, i2, h2, Evt.step ?_, hr2, hc2⟩
    simp only [spec_l8Draw.l0]
    rw [w64s (by omega)]
    exact Evt.pos (by omega) (Evt.bindc e (Evt.pos (show 0 < (s.size : Int) by omega) (Evt.bind (spec_LetterIndex_ev _) (Evt.pos c1 (Evt.pos (show acc.size + s.size ≤ 9223372036854775807 by omega) hr)))))
   ·by_cases c2 : ((cntB (bytesOf vars) (bt s 0) : Nat) : Int) > 0
    ·by_cases c3 : ((cntB (bytesOf acc) (bt s 0) : Nat) : Int) < 2
     ·refine ⟨r, i2, h2, Evt.step ?_, hr2, hc2⟩
      simp only [spec_l8Draw.l0]
      rw [w64s (by omega)]
      exact Evt.pos (by omega) (Evt.bindc e (Evt.pos (show 0 < (s.size : Int) by omega) (Evt.bind (spec_LetterIndex_ev _) (Evt.neg c1 (Evt.bind (spec_CountByte_ev _ _ (by omega)) (Evt.pos c2 (Evt.bind (spec_CountByte_ev _ _ (by omega)) (Evt.pos c3 (Evt.pos (show acc.size + s.size ≤ 9223372036854775807 by omega) hr)))))))))
     ·refine ⟨r', i3, h3, Evt.step ?_, hr2', hc3⟩
      simp only [spec_l8Draw.l0]
      rw [w64s (by omega)]
      exact Evt.pos (by omega) (Evt.bindc e (Evt.pos (show 0 < (s.size : Int) by omega) (Evt.bind (spec_LetterIndex_ev _) (Evt.neg c1 (Evt.bind (spec_CountByte_ev _ _ (by omega)) (Evt.pos c2 (Evt.bind (spec_CountByte_ev _ _ (by omega)) (Evt.neg c3 hr'))))))))
    ·refine ⟨r', i3, h3, Evt.step ?_, hr2', hc3⟩
     simp only [spec_l8Draw.l0]
     rw [w64s (by omega)]
     exact Evt.pos (by omega) (Evt.bindc e (Evt.pos (show 0 < (s.size : Int) by omega) (Evt.bind (spec_LetterIndex_ev _) (Evt.neg c1 (Evt.bind (spec_CountByte_ev _ _ (by omega)) (Evt.neg c2 hr'))))))
 obtain ⟨s, i', h', hr, hr2, hc2⟩ := hh m 0 (by omega) (⟨#[]⟩ : ByteArray) i1 h1 (Nat.le_refl _) hc1
 refine ⟨s, i', h', ?_, hr2, hc2⟩
 simp only [spec_l8Draw.f]
 rw [w64 (by omega) (by omega)]
 exact Evt.bindc e hr
theorem l8Any_ok {b : List Int} {i : Int} (h : Int) (hc : Cu b i) : ∃ s i' h', Evt (fun k => spec_l8Any.f k b i h) (s, i', h') ∧ s.size ≤ 13 ∧ Cu b i' := by
 obtain ⟨s, i1, h1, e, hs, hc1⟩ := l8Draw_ok h 6 (⟨#[88, 89, 90]⟩ : ByteArray) hc (by omega) (by decide)
 obtain ⟨r, i2, h2, e2, hr, hc2⟩ := l1Pick_ok h1 [(⟨#[]⟩ : ByteArray), (⟨#[97, 88, 98]⟩ : ByteArray), (⟨#[88, 88]⟩ : ByteArray), (⟨#[87]⟩ : ByteArray), (⟨#[90, 89, 88]⟩ : ByteArray), (⟨#[97, 97, 97, 97, 97, 97, 97, 97, 97, 97, 97, 97]⟩ : ByteArray), (⟨#[97, 97, 97, 97, 97, 97, 97, 97, 97, 97, 97, 97, 88]⟩ : ByteArray), (⟨#[120]⟩ : ByteArray), s] hc1 (by simp) (by simp)
 refine ⟨r, i2, h2, ?_, ?_, hc2⟩
 ·simp only [spec_l8Any.f]
  exact Evt.bind e (Evt.bindc e2 (Evt.ret _))
 ·simp only [List.mem_cons, List.not_mem_nil, or_false] at hr
  rcases hr with rfl | rfl | rfl | rfl | rfl | rfl | rfl | rfl | rfl
  all_goals first | decide | omega
theorem l8Values_ok {b : List Int} {i : Int} (h : Int) (hc : Cu b i) : ∃ x y z i' h', Evt (fun k => spec_l8Values.f k b i h) (x, y, z, i', h') ∧ x.size ≤ 31 ∧ y.size ≤ 31 ∧ z.size ≤ 31 ∧ Cu b i' := by
 obtain ⟨x, i1, h1, e1, s1, c1⟩ := l2Word_ok h 3 hc (by omega)
 obtain ⟨y, i2, h2, e2, s2, c2⟩ := l2Word_ok h1 3 c1 (by omega)
 obtain ⟨o, i3, h3, e3, c3⟩ := l1Once_ok h2 10 c2 (by omega) (by omega)
 simp only [spec_l8Values.f]
 cases o with
 | true =>
  obtain ⟨x', i4, h4, e4, s4, c4⟩ := l2Any_ok h3 c3
  obtain ⟨z, i5, h5, e5, s5, c5⟩ := l2Word_ok h4 2 c4 (by omega)
  exact ⟨x', y, z, i5, h5, Evt.bind e1 (Evt.bind e2 (Evt.bindc e3 (Evt.pos rfl (Evt.bind e4 (Evt.bind e5 (Evt.ret _)))))), s4, by omega, by omega, c5⟩
 | false =>
  obtain ⟨z, i5, h5, e5, s5, c5⟩ := l2Word_ok h3 2 c3 (by omega)
  exact ⟨x, y, z, i5, h5, Evt.bind e1 (Evt.bind e2 (Evt.bindc e3 (Evt.neg (show ¬ (false = true) by decide) (Evt.bind e5 (Evt.ret _))))), by omega, by omega, by omega, c5⟩
theorem cu0 {l : List Int} (hl : l.length ≤ 1048576) : Cu l 0 := ⟨hl, Int.le_refl _, by omega⟩
theorem drawApplyValues_ok (l : List Int) (hl : l.length ≤ 1048576) : ∃ s x y z, Evt (fun k => spec_DrawApplyValues.f k l) (s, x, y, z) ∧ s.size ≤ 13 ∧ x.size ≤ 31 ∧ y.size ≤ 31 ∧ z.size ≤ 31 := by
 obtain ⟨h, e0⟩ := l1New_ok l hl
 obtain ⟨s, i1, h1, e1, s1, c1⟩ := l8Any_ok h (cu0 hl)
 obtain ⟨x, y, z, i2, h2, e2, s2, s3, s4, _⟩ := l8Values_ok h1 c1
 refine ⟨s, x, y, z, ?_, s1, s2, s3, s4⟩
 simp only [spec_DrawApplyValues.f]
 exact Evt.bind e0 (Evt.bind e1 (Evt.bind e2 (Evt.ret _)))
theorem drawFormatValues_ok (l : List Int) (hl : l.length ≤ 1048576) : ∃ x y z s, Evt (fun k => spec_DrawFormatValues.f k l) (x, y, z, s) ∧ s.size ≤ 13 ∧ x.size ≤ 31 ∧ y.size ≤ 31 ∧ z.size ≤ 31 := by
 obtain ⟨h, e0⟩ := l1New_ok l hl
 obtain ⟨x, y, z, i2, h2, e2, s2, s3, s4, c2⟩ := l8Values_ok h (cu0 hl)
 obtain ⟨s, i1, h1, e1, s1, c1⟩ := l8Any_ok h2 c2
 refine ⟨x, y, z, s, ?_, s1, s2, s3, s4⟩
 simp only [spec_DrawFormatValues.f]
 exact Evt.bind e0 (Evt.bind e2 (Evt.bind e1 (Evt.ret _)))
theorem drawWithValue_ok (l : List Int) (hl : l.length ≤ 1048576) : ∃ x y z nm w, Evt (fun k => spec_DrawWithValue.f k l) (x, y, z, nm, w) ∧ (nm = 88 ∨ nm = 89 ∨ nm = 90 ∨ nm = 97) := by
 obtain ⟨h, e0⟩ := l1New_ok l hl
 obtain ⟨x, y, z, i2, h2, e2, s2, s3, s4, c2⟩ := l8Values_ok h (cu0 hl)
 obtain ⟨q, i3, h3, e3, q0, q1, c3⟩ := l1Below_ok h2 4 c2 (by omega) (by omega)
 obtain ⟨w, i4, h4, e4, _, _⟩ := l2Word_ok h 4 (cu0 hl) (by omega)
 refine ⟨x, y, z, bt (⟨#[88, 89, 90, 97]⟩ : ByteArray) q, w, ?_, ?_⟩
 ·simp only [spec_DrawWithValue.f, spec_DrawValueOf.f]
  exact Evt.bind (Evt.bind e0 (Evt.bind e2 (Evt.bindc e3 (Evt.pos q0 (Evt.pos q1 (Evt.ret _)))))) (Evt.bind e0 (Evt.bind e4 (Evt.ret _)))
 ·have : q = 0 ∨ q = 1 ∨ q = 2 ∨ q = 3 := by omega
  rcases this with rfl | rfl | rfl | rfl
  ·exact .inl (by decide)
  ·exact .inr (.inl (by decide))
  ·exact .inr (.inr (.inl (by decide)))
  ·exact .inr (.inr (.inr (by decide)))
end Go.Proofs.Ytpppopdmnejcfaa.F
namespace Go.Proofs.Ytpppopdmnejcfaa.F
open Go.RowKit Go.Proofs.YtpppopdmnejcfaaW.PrintWords Go.Proofs.Ytpppopdmnejcfaa.Pl Go.Proofs.Ytpppopdmnejcfaa.A Go.Proofs.Ytpppopdmnejcfaa.Ext
theorem bytesOf_strOf (s : ByteArray) : strOfNums (bytesOf s) = s := by
 apply bytesOf_inj
 unfold strOfNums bytesOf
 simp
theorem one_byte (s : ByteArray) (i : Nat) (h : i < s.size) : bytesOf (s.extract i (i + 1)) = [bt s (i : Int)] := by
 have hl : i < (bytesOf s).length := by rw [bytesOf_length]; exact h
 rw [bytesOf_extract, List.drop_eq_getElem_cons hl, bt_get s i hl, show i + 1 - i = 1 by omega]
 rfl
theorem size_le_of (s : ByteArray) : s.size = (bytesOf s).length := (bytesOf_length s).symm
theorem repl_len (G : Int → ByteArray × Bool) (l acc : List Int) (h : acc.length ≤ 1048576) : (repl G l acc).length ≤ 1048576 := by
 induction l generalizing acc with
 | nil => exact h
 | cons c l ih =>
  unfold repl
  by_cases h2 : (acc ++ (if (G c).2 = true then bytesOf (G c).1 else [c])).length > 1048576
  ·rw [if_pos h2]
   exact Nat.zero_le _
  ·rw [if_neg h2]
   exact ih _ (by omega)
theorem strOfNums_size (l : List Int) : (strOfNums l).size = l.length := by
 unfold strOfNums
 show (List.toArray _).size = _
 simp
theorem replB_size (G : Int → ByteArray × Bool) (s : ByteArray) : (replB G s).size ≤ 1048576 := by
 have := repl_len G (bytesOf s) [] (by simp)
 unfold replB
 rw [strOfNums_size]
 exact this
theorem impl_ReplaceVar_eq (s b : ByteArray) (c : Int) (hs : s.size ≤ 9223372036854775807) (hb : b.size ≤ 1048576) : impl_ReplaceVar.f s c b = some (replB (fun x => (b, x == c)) s) := by
 unfold impl_ReplaceVar.f
 rw [if_pos ⟨hs, hb⟩]
end Go.Proofs.Ytpppopdmnejcfaa.F
namespace Go.Proofs.Ytpppopdmnejcfaa.F
open Go.RowKit Go.Proofs.YtpppopdmnejcfaaW.PrintWords Go.Proofs.Ytpppopdmnejcfaa.Pl Go.Proofs.Ytpppopdmnejcfaa.A Go.Proofs.Ytpppopdmnejcfaa.Ext
theorem impl_ApplyValues_eq (s x y z : ByteArray) (hs : s.size ≤ 9223372036854775807) (hx : x.size ≤ 1048576) (hy : y.size ≤ 1048576) (hz : z.size ≤ 1048576) : impl_ApplyValues.f s x y z = some (replB (wordOf x y z) s) := by
 unfold impl_ApplyValues.f
 rw [if_pos ⟨hs, hx, hy, hz⟩]
theorem wordOf_var (x y z : ByteArray) {c : Int} (h0 : 0 ≤ c) (h1 : c ≤ 255) : (wordOf x y z c).2 = isVr c := by
 unfold wordOf
 rw [impl_isVariable_eq h0 h1]
 rfl
theorem spec_ValueOf_eq (x y z : ByteArray) (c : Int) : spec_ValueOf.f x y z c = some (wordOf x y z c).1 := valueOf_some x y z c
theorem spec_ApplyValues_ev (s x y z : ByteArray) (hs : s.size ≤ 9223372036854775807) (hx : x.size ≤ 1048576) (hy : y.size ≤ 1048576) (hz : z.size ≤ 1048576) : Evt (fun k => spec_ApplyValues.f k s x y z) (replB (wordOf x y z) s) := by
 have h : ∀ (d i : Nat) (acc : ByteArray), i + d = s.size → acc.size ≤ 1048576 → Evt (fun k => spec_ApplyValues.l0 k s acc (i : Int) x y z) (strOfNums (repl (wordOf x y z) ((bytesOf s).drop i) (bytesOf acc))) := by
  intro d
  induction d with
  | zero =>
   intro i acc hi ha
   refine Evt.step ?_
   simp only [spec_ApplyValues.l0]
   refine Evt.neg (by omega) (Evt.const ?_)
   rw [List.drop_of_length_le (by rw [bytesOf_length]; omega)]
   exact congrArg some (bytesOf_strOf acc).symm
  | succ d ih =>
   intro i acc hi ha
   have hl : i < (bytesOf s).length := by rw [bytesOf_length]; omega
   have hx1 : ((s.extract i (i + 1)).size : Nat) = 1 := by rw [size_le_of, one_byte s i (by omega)]; rfl
   refine Evt.step ?_
   simp only [spec_ApplyValues.l0]
   rw [w64s (by omega), Int.toNat_natCast, Int.toNat_natCast]
   rw [List.drop_eq_getElem_cons hl, ← bt_get s i hl]
   have hv := wordOf_var x y z (bt0 s i) (bt255 s i)
   have hw := wordOf_size x y z (bt s i) hx hy hz
   have hs2 := spec_ValueOf_eq x y z (bt s i)
   refine Evt.pos (by omega) (Evt.pos (by omega) (Evt.bindc (spec_l8Var_eq _) ?_))
   by_cases hc : isVr (bt s i) = true
   ·have e : (if (wordOf x y z (bt s (i : Int))).2 = true then bytesOf (wordOf x y z (bt s (i : Int))).1 else [bt s (i : Int)]) = bytesOf (wordOf x y z (bt s (i : Int))).1 := by rw [hv, if_pos hc]
    refine Evt.pos hc (Evt.bindc hs2 (Evt.pos (by omega) ?_))
    by_cases hbig : ((acc ++ (wordOf x y z (bt s (i : Int))).1).size : Int) > 1048576
    ·refine Evt.pos hbig (Evt.const ?_)
     unfold repl
     simp only [e]
     rw [if_pos (by rw [← bytesOf_append, bytesOf_length]; omega)]
     rfl
    ·refine Evt.neg hbig ((ih (i + 1) (acc ++ (wordOf x y z (bt s (i : Int))).1) (by omega) (by omega)).cast ?_)
     rw [bytesOf_append]
     conv => rhs; unfold repl
     simp only [e]
     rw [if_neg (by rw [← bytesOf_append, bytesOf_length]; omega)]
   ·have e : (if (wordOf x y z (bt s (i : Int))).2 = true then bytesOf (wordOf x y z (bt s (i : Int))).1 else [bt s (i : Int)]) = [bt s (i : Int)] := by rw [hv, if_neg hc]
    refine Evt.neg hc (Evt.pos (by omega) (Evt.pos (by omega) (Evt.pos (by omega) ?_)))
    by_cases hbig : ((acc ++ s.extract i (i + 1)).size : Int) > 1048576
    ·refine Evt.pos hbig (Evt.const ?_)
     unfold repl
     simp only [e]
     rw [if_pos (by rw [← one_byte s i (by omega), ← bytesOf_append, bytesOf_length]; omega)]
     rfl
    ·refine Evt.neg hbig ((ih (i + 1) (acc ++ s.extract i (i + 1)) (by omega) (by omega)).cast ?_)
     rw [bytesOf_append, one_byte s i (by omega)]
     conv => rhs; unfold repl
     simp only [e]
     rw [if_neg (by rw [← one_byte s i (by omega), ← bytesOf_append, bytesOf_length]; omega)]
 have := h s.size 0 (⟨#[]⟩ : ByteArray) (by omega) (by decide)
 rw [show bytesOf (⟨#[]⟩ : ByteArray) = [] from rfl] at this
 simpa [spec_ApplyValues.f, replB] using this
end Go.Proofs.Ytpppopdmnejcfaa.F
namespace Go.Proofs.Ytpppopdmnejcfaa.F
open Go Go.RowKit Go.Proofs.YtpppopdmnejcfaaW.PrintWords Go.Proofs.Ytpppopdmnejcfaa.Pl Go.Proofs.Ytpppopdmnejcfaa.A Go.Proofs.Ytpppopdmnejcfaa.Ext
def nmB (l : List UInt8) : List Int := l.map fun b => (b.toNat : Int)
theorem strOfNums_nmB (l : List UInt8) : strOfNums (nmB l) = ⟨l.toArray⟩ := by
 simp [strOfNums, nmB, List.map_map, Function.comp_def]
def jn (s : ByteArray) : List ByteArray → Bool → List Int → Option (List Int)
 | [], _, acc => some acc
 | x :: l, fst, acc =>
  if ((if fst = true then acc else acc ++ bytesOf s) ++ bytesOf x).length > 1048576 then none else jn s l false ((if fst = true then acc else acc ++ bytesOf s) ++ bytesOf x)
def outJ (o : Option (List Int)) : ByteArray := match o with | some a => strOfNums a | none => (⟨#[]⟩ : ByteArray)
def joinP (l : List ByteArray) (s : ByteArray) : ByteArray := outJ (jn s l true [])
theorem jn_tail (s : ByteArray) (l : List ByteArray) : ∀ (acc a : List Int), acc.length ≤ 1048576 → jn s l false acc = some a → a = acc ++ nmB (Lib.joinTail s.data.toList (l.map (·.data.toList))) ∧ a.length ≤ 1048576 := by
 induction l with
 | nil =>
  intro acc a ha h
  simp only [jn, Option.some.injEq] at h
  subst h
  exact ⟨by simp [Lib.joinTail, nmB], ha⟩
 | cons x l ih =>
  intro acc a ha h
  simp only [jn, Bool.false_eq_true, if_false] at h
  split at h
  ·cases h
  ·next hl =>
   obtain ⟨h1, h2⟩ := ih _ _ (by omega) h
   refine ⟨?_, h2⟩
   rw [h1]
   simp [Lib.joinTail, nmB, bytesOf]
theorem jn_all (s : ByteArray) (l : List ByteArray) (a : List Int) (h : jn s l true [] = some a) : a = nmB (Lib.join (l.map (·.data.toList)) s.data.toList) ∧ a.length ≤ 1048576 := by
 cases l with
 | nil =>
  simp only [jn, Option.some.injEq] at h
  subst h
  exact ⟨rfl, by decide⟩
 | cons x l =>
  simp only [jn, if_true, List.nil_append] at h
  split at h
  ·cases h
  ·next hl =>
   obtain ⟨h1, h2⟩ := jn_tail s l _ _ (by omega) h
   refine ⟨?_, h2⟩
   rw [h1, List.map_cons, Lib.join_cons]
   simp [nmB, bytesOf]
theorem jn_strings (s : ByteArray) (l : List ByteArray) (hl : l.length ≤ 1048576) (a : List Int) (h : jn s l true [] = some a) : strings_Join.f l s = some (strOfNums a) := by
 obtain ⟨h1, h2⟩ := jn_all s l a h
 have h3 : (Lib.join (l.map (·.data.toList)) s.data.toList).length ≤ 1048576 := by
  rw [h1] at h2
  simpa [nmB] using h2
 unfold strings_Join.f
 rw [if_pos ⟨by omega, by omega⟩, h1, strOfNums_nmB]
 rfl
theorem rdS_at (l : List ByteArray) (i : Nat) (h : i < l.length) : rdOf ByteArray.empty l (i : Int) = l[i] := by simp [rdOf, h]
theorem spec_Join_ev (l : List ByteArray) (s : ByteArray) (hl : l.length ≤ 1048576) (hs : s.size ≤ 1048576) (hx : ∀ x ∈ l, x.size ≤ 2097152) : Evt (fun k => spec_Join.f k l s) (joinP l s) := by
 have hh : ∀ d i : Nat, i + d = l.length → ∀ acc : List Int, acc.length ≤ 1048576 → Evt (fun k => spec_Join.l0 k l s acc (i : Int)) (outJ (jn s (l.drop i) (decide (i = 0)) acc)) := by
  intro d
  induction d with
  | zero =>
   intro i hi acc ha
   refine Evt.step ?_
   simp only [spec_Join.l0]
   rw [List.drop_of_length_le (by omega)]
   exact Evt.neg (by omega) (Evt.ret _)
  | succ d ih =>
   intro i hi acc ha
   have hi' : i < l.length := by omega
   have hxi := hx _ (List.getElem_mem hi')
   refine Evt.step ?_
   simp only [spec_Join.l0]
   rw [List.drop_eq_getElem_cons hi', rdS_at l i hi', w64s (by omega)]
   simp only [jn]
   refine Evt.pos (by omega) ?_
   by_cases h0 : i = 0
   ·have hd : decide (i = 0) = true := by simpa using h0
    simp only [if_pos hd]
    refine Evt.neg (by omega) (Evt.pos (by omega) (Evt.pos (by omega) (Evt.bindc rfl ?_)))
    have hn := ih (i + 1) (by omega) (acc ++ bytesOf l[i])
    by_cases hc : (acc ++ bytesOf l[i]).length > 1048576
    ·rw [if_pos hc]
     exact Evt.pos (by omega) (Evt.ret _)
    ·rw [if_neg hc]
     exact Evt.neg (by omega) (hn (by omega))
   ·have hd : ¬ (decide (i = 0) = true) := by simpa using h0
    simp only [if_neg hd]
    refine Evt.pos (by omega) (Evt.pos (by omega) (Evt.bindc rfl (Evt.pos (by omega) (Evt.pos (by rw [List.length_append, bytesOf_length]; omega) (Evt.bindc rfl ?_)))))
    have hn := ih (i + 1) (by omega) (acc ++ bytesOf s ++ bytesOf l[i])
    by_cases hc : (acc ++ bytesOf s ++ bytesOf l[i]).length > 1048576
    ·rw [if_pos hc]
     exact Evt.pos (by omega) (Evt.ret _)
    ·rw [if_neg hc]
     exact Evt.neg (by omega) (hn (by omega))
 exact hh l.length 0 (by omega) [] (by simp)
theorem impl_Join_ev (l : List ByteArray) (s : ByteArray) (hl : l.length ≤ 1048576) (hs : s.size ≤ 1048576) (hx : ∀ x ∈ l, x.size ≤ 2097152) : Evt (fun k => impl_Join.f k l s) (joinP l s) := by
 have hh : ∀ d i : Nat, i + d = l.length → ∀ acc : List Int, acc.length ≤ 1048576 → (∀ a, jn s (l.drop i) (decide (i = 0)) acc = some a → jn s l true [] = some a) → Evt (fun k => impl_Join.l0 k l s (acc.length : Int) l (l.length : Int) (i : Int)) (outJ (jn s (l.drop i) (decide (i = 0)) acc)) := by
  intro d
  induction d with
  | zero =>
   intro i hi acc ha hg
   refine Evt.step ?_
   simp only [impl_Join.l0]
   rw [List.drop_of_length_le (by omega)] at hg ⊢
   refine Evt.neg (by omega) (Evt.bindc (jn_strings s l hl acc (hg acc rfl)) (Evt.ret _))
  | succ d ih =>
   intro i hi acc ha hg
   have hi' : i < l.length := by omega
   have hxi := hx _ (List.getElem_mem hi')
   refine Evt.step ?_
   simp only [impl_Join.l0]
   rw [List.drop_eq_getElem_cons hi'] at hg ⊢
   rw [rdS_at l i hi', w64s (by omega)]
   simp only [jn] at hg ⊢
   refine Evt.pos (by omega) (Evt.pos (by omega) (Evt.pos (by omega) ?_))
   by_cases h0 : i = 0
   ·have hd : decide (i = 0) = true := by simpa using h0
    simp only [if_pos hd] at hg ⊢
    refine Evt.neg (by omega) ?_
    have hn := ih (i + 1) (by omega) (acc ++ bytesOf l[i])
    have hq : wrap64 ((acc.length : Int) + (l[i].size : Int)) = ((acc ++ bytesOf l[i]).length : Int) := by
     rw [w64 (by omega) (by omega), List.length_append, bytesOf_length]
     omega
    rw [hq]
    by_cases hc : (acc ++ bytesOf l[i]).length > 1048576
    ·rw [if_pos hc]
     exact Evt.pos (by omega) (Evt.ret _)
    ·rw [if_neg hc] at hg ⊢
     exact Evt.neg (by omega) (hn (by omega) hg)
   ·have hd : ¬ (decide (i = 0) = true) := by simpa using h0
    simp only [if_neg hd] at hg ⊢
    refine Evt.pos (by omega) ?_
    have hn := ih (i + 1) (by omega) (acc ++ bytesOf s ++ bytesOf l[i])
    have hq : wrap64 (wrap64 ((acc.length : Int) + (s.size : Int)) + (l[i].size : Int)) = ((acc ++ bytesOf s ++ bytesOf l[i]).length : Int) := by
     rw [w64 (x := (acc.length : Int) + (s.size : Int)) (by omega) (by omega), w64 (by omega) (by omega), List.length_append, List.length_append, bytesOf_length, bytesOf_length]
     omega
    rw [hq]
    by_cases hc : (acc ++ bytesOf s ++ bytesOf l[i]).length > 1048576
    ·rw [if_pos hc]
     exact Evt.pos (by omega) (Evt.ret _)
    ·rw [if_neg hc] at hg ⊢
     exact Evt.neg (by omega) (hn (by omega) hg)
 exact hh l.length 0 (by omega) [] (by simp) (fun a h => h)
end Go.Proofs.Ytpppopdmnejcfaa.F
namespace Go.Proofs.Ytpppopdmnejcfaa.F
open Go Go.RowKit Go.Proofs.YtpppopdmnejcfaaW.PrintWords Go.Proofs.Ytpppopdmnejcfaa.Pl Go.Proofs.Ytpppopdmnejcfaa.A Go.Proofs.Ytpppopdmnejcfaa.Ext
def valV (a b c : ByteArray) (x : Int) : ByteArray := if x = 88 then a else if x = 89 then b else if x = 90 then c else (⟨#[]⟩ : ByteArray)
theorem spec_ValueOf_v (a b c : ByteArray) (x : Int) : spec_ValueOf.f a b c x = some (valV a b c x) := by
 unfold spec_ValueOf.f valV
 repeat' split
 all_goals rfl
theorem impl_ValueOf_v (a b c : ByteArray) (x : Int) : impl_ValueOf.f a b c x = some (valV a b c x) := by
 unfold impl_ValueOf.f valV
 repeat' split
 all_goals rfl
theorem valV_size (a b c : ByteArray) (x : Int) (ha : a.size ≤ 1048576) (hb : b.size ≤ 1048576) (hc : c.size ≤ 1048576) : (valV a b c x).size ≤ 1048576 := by
 unfold valV
 repeat' split
 all_goals first | assumption | exact Nat.zero_le _
def itemV (a b c vars : ByteArray) (j : Nat) : ByteArray := (vars.extract ((j : Nat) : Int).toNat ((j + 1 : Nat) : Int).toNat ++ (⟨#[61]⟩ : ByteArray)) ++ valV a b c (bt vars (j : Int))
theorem extract1 (v : ByteArray) (j : Nat) (h : j < v.size) : (v.extract ((j : Nat) : Int).toNat ((j + 1 : Nat) : Int).toNat).size = 1 := by
 rw [ByteArray.size_extract]
 omega
theorem itemV_size (a b c vars : ByteArray) (j : Nat) (h : j < vars.size) (ha : a.size ≤ 1048576) (hb : b.size ≤ 1048576) (hc : c.size ≤ 1048576) : (itemV a b c vars j).size ≤ 2097152 := by
 have h1 := extract1 vars j h
 have h2 := valV_size a b c (bt vars (j : Int)) ha hb hc
 have h3 : (⟨#[61]⟩ : ByteArray).size = 1 := rfl
 unfold itemV
 rw [ByteArray.size_append, ByteArray.size_append]
 omega
def spB : ByteArray := (⟨#[32]⟩ : ByteArray)
theorem spec_FormatValues_l (a b c vars : ByteArray) (hv : vars.size ≤ 3) (ha : a.size ≤ 1048576) (hb : b.size ≤ 1048576) (hc : c.size ≤ 1048576) : Evt (fun k => spec_FormatValues.l0 k [] vars 0 a b c) (joinP ((List.range vars.size).map (itemV a b c vars)) spB) := by
 have hh : ∀ d i : Nat, i + d = vars.size → Evt (fun k => spec_FormatValues.l0 k ((List.range i).map (itemV a b c vars)) vars (i : Int) a b c) (joinP ((List.range vars.size).map (itemV a b c vars)) spB) := by
  intro d
  induction d with
  | zero =>
   intro i hi
   refine Evt.step ?_
   simp only [spec_FormatValues.l0]
   rw [show i = vars.size by omega]
   refine Evt.neg (by omega) (Evt.bind (spec_Join_ev _ spB (by simp; omega) (by decide) ?_) (Evt.ret _))
   intro x hx
   obtain ⟨j, hj, rfl⟩ := List.mem_map.1 hx
   exact itemV_size a b c vars j (List.mem_range.1 hj) ha hb hc
  | succ d ih =>
   intro i hi
   have h1 := extract1 vars i (by omega)
   have h2 := valV_size a b c (bt vars (i : Int)) ha hb hc
   have h3 : (⟨#[61]⟩ : ByteArray).size = 1 := rfl
   refine Evt.step ?_
   simp only [spec_FormatValues.l0]
   rw [w64s (by omega)]
   refine Evt.pos (by omega) (Evt.pos (by omega) (Evt.pos (by omega) (Evt.pos (by omega) (Evt.pos (by omega) (Evt.bindc (spec_ValueOf_v _ _ _ _) (Evt.pos (by rw [ByteArray.size_append]; omega) (Evt.pos (by simp; omega) ?_)))))))
   have hn := ih (i + 1) (by omega)
   rw [List.range_succ, List.map_append] at hn
   exact hn
 exact hh vars.size 0 (by omega)
def xyzB : ByteArray := (⟨#[88, 89, 90]⟩ : ByteArray)
def itemsV (a b c names : ByteArray) : Nat → Nat → List ByteArray
 | 0, _ => []
 | n + 1, i => if bt xyzB (i : Int) ∈ bytesOf names then itemV a b c xyzB i :: itemsV a b c names n (i + 1) else itemsV a b c names n (i + 1)
theorem itemsV_mem (a b c names : ByteArray) (ha : a.size ≤ 1048576) (hb : b.size ≤ 1048576) (hc : c.size ≤ 1048576) (n : Nat) : ∀ i, i + n ≤ 3 → ∀ x ∈ itemsV a b c names n i, x.size ≤ 2097152 := by
 induction n with
 | zero => intro i _ x hx; cases hx
 | succ n ih =>
  intro i hi x hx
  unfold itemsV at hx
  split at hx
  ·rcases List.mem_cons.1 hx with rfl | hx
   ·exact itemV_size a b c xyzB i (show i < 3 by omega) ha hb hc
   ·exact ih (i + 1) (by omega) x hx
  ·exact ih (i + 1) (by omega) x hx
theorem itemsV_len (a b c names : ByteArray) (n : Nat) : ∀ i, (itemsV a b c names n i).length ≤ n := by
 induction n with
 | zero => intro i; exact Nat.le_refl _
 | succ n ih =>
  intro i
  have := ih (i + 1)
  unfold itemsV
  split
  ·simp only [List.length_cons]; omega
  ·omega
theorem impl_FormatValues_ev (a b c names : ByteArray) (ha : a.size ≤ 1048576) (hb : b.size ≤ 1048576) (hc : c.size ≤ 1048576) : Evt (fun k => impl_FormatValues.f k a b c names) (joinP (itemsV a b c names 3 0) spB) := by
 have hh : ∀ d i : Nat, i + d = 3 → ∀ acc : List ByteArray, acc.length ≤ i → acc ++ itemsV a b c names d i = itemsV a b c names 3 0 → Evt (fun k => impl_FormatValues.l0 k names acc (i : Int) a b c) (joinP (itemsV a b c names 3 0) spB) := by
  intro d
  induction d with
  | zero =>
   intro i hi acc hl he
   refine Evt.step ?_
   simp only [impl_FormatValues.l0]
   have e : acc = itemsV a b c names 3 0 := by simpa [itemsV] using he
   have hlen := itemsV_len a b c names 3 0
   rw [e]
   exact Evt.neg (by omega) (Evt.bind (impl_Join_ev _ spB (by omega) (by decide) (itemsV_mem a b c names ha hb hc 3 0 (by omega))) (Evt.ret _))
  | succ d ih =>
   intro i hi acc hl he
   have h1 := extract1 xyzB i (show i < 3 by omega)
   have h1' : ((⟨#[88, 89, 90]⟩ : ByteArray).extract ((i : Nat) : Int).toNat ((i + 1 : Nat) : Int).toNat).size = 1 := h1
   have h2 := valV_size a b c (bt xyzB (i : Int)) ha hb hc
   have h2' : (valV a b c (bt (⟨#[88, 89, 90]⟩ : ByteArray) (i : Int))).size ≤ 1048576 := h2
   have h3 : (⟨#[61]⟩ : ByteArray).size = 1 := rfl
   unfold itemsV at he
   refine Evt.step ?_
   simp only [impl_FormatValues.l0]
   rw [w64s (by omega)]
   refine Evt.pos (by omega) (Evt.pos (by omega) (Evt.bindc rfl ?_))
   by_cases hm : bt xyzB (i : Int) ∈ bytesOf names
   ·rw [if_pos hm] at he
    refine Evt.pos ((ib_nonneg names (bt0 _ _) (bt255 _ _)).2 hm) (Evt.pos (by omega) (Evt.pos (by omega) (Evt.pos (by omega) (Evt.bindc (impl_ValueOf_v _ _ _ _) (Evt.pos (by rw [ByteArray.size_append]; omega) (Evt.pos (by omega) ?_))))))
    exact ih (i + 1) (by omega) _ (by simp; omega) (by rw [List.append_assoc]; exact he)
   ·rw [if_neg hm] at he
    exact Evt.neg (fun h => hm ((ib_nonneg names (bt0 _ _) (bt255 _ _)).1 h)) (ih (i + 1) (by omega) acc (by omega) he)
 simp only [impl_FormatValues.f]
 exact hh 3 0 (by omega) [] (by simp) (by simp)
theorem items_eq (a b c names : ByteArray) : (List.range (varsB names).size).map (itemV a b c (varsB names)) = itemsV a b c names 3 0 := by
 have b0 : bt (⟨#[88, 89, 90]⟩ : ByteArray) 0 = 88 := by decide
 have b1 : bt (⟨#[88, 89, 90]⟩ : ByteArray) (0 + 1) = 89 := by decide
 have b2 : bt (⟨#[88, 89, 90]⟩ : ByteArray) (0 + 1 + 1) = 90 := by decide
 have c0 : bt xyzB ((0 : Nat) : Int) = 88 := by decide
 have c1 : bt xyzB ((0 + 1 : Nat) : Int) = 89 := by decide
 have c2 : bt xyzB ((0 + 1 + 1 : Nat) : Int) = 90 := by decide
 have hv : varsB names = (if (88 : Int) ∈ bytesOf names then (if (89 : Int) ∈ bytesOf names then (if (90 : Int) ∈ bytesOf names then (⟨#[88, 89, 90]⟩ : ByteArray) else ⟨#[88, 89]⟩) else (if (90 : Int) ∈ bytesOf names then (⟨#[88, 90]⟩ : ByteArray) else ⟨#[88]⟩)) else (if (89 : Int) ∈ bytesOf names then (if (90 : Int) ∈ bytesOf names then (⟨#[89, 90]⟩ : ByteArray) else ⟨#[89]⟩) else (if (90 : Int) ∈ bytesOf names then (⟨#[90]⟩ : ByteArray) else ⟨#[]⟩))) := by
  unfold varsB
  simp only [vr, b0, b1, b2, decide_eq_true_eq]
  by_cases h0 : (88 : Int) ∈ bytesOf names <;> by_cases h1 : (89 : Int) ∈ bytesOf names <;> by_cases h2 : (90 : Int) ∈ bytesOf names <;> simp only [h0, h1, h2, if_true, if_false] <;> decide
 rw [hv]
 simp only [itemsV, c0, c1, c2]
 have e (u : ByteArray) (j i : Nat) (h1 : u.extract ((j : Nat) : Int).toNat ((j + 1 : Nat) : Int).toNat = xyzB.extract ((i : Nat) : Int).toNat ((i + 1 : Nat) : Int).toNat) (h2 : bt u (j : Int) = bt xyzB (i : Int)) : itemV a b c u j = itemV a b c xyzB i := by
  unfold itemV
  rw [h1, h2]
 by_cases h0 : (88 : Int) ∈ bytesOf names <;> by_cases h1 : (89 : Int) ∈ bytesOf names <;> by_cases h2 : (90 : Int) ∈ bytesOf names <;> simp only [h0, h1, h2, if_true, if_false]
 ·show [itemV a b c (⟨#[88, 89, 90]⟩ : ByteArray) 0, itemV a b c (⟨#[88, 89, 90]⟩ : ByteArray) 1, itemV a b c (⟨#[88, 89, 90]⟩ : ByteArray) 2] = [itemV a b c xyzB 0, itemV a b c xyzB 1, itemV a b c xyzB 2]
  rfl
 ·show [itemV a b c (⟨#[88, 89]⟩ : ByteArray) 0, itemV a b c (⟨#[88, 89]⟩ : ByteArray) 1] = [itemV a b c xyzB 0, itemV a b c xyzB 1]
  rw [e (⟨#[88, 89]⟩ : ByteArray) 0 0 (by decide) (by decide), e (⟨#[88, 89]⟩ : ByteArray) 1 1 (by decide) (by decide)]
 ·show [itemV a b c (⟨#[88, 90]⟩ : ByteArray) 0, itemV a b c (⟨#[88, 90]⟩ : ByteArray) 1] = [itemV a b c xyzB 0, itemV a b c xyzB 2]
  rw [e (⟨#[88, 90]⟩ : ByteArray) 0 0 (by decide) (by decide), e (⟨#[88, 90]⟩ : ByteArray) 1 2 (by decide) (by decide)]
 ·show [itemV a b c (⟨#[88]⟩ : ByteArray) 0] = [itemV a b c xyzB 0]
  rw [e (⟨#[88]⟩ : ByteArray) 0 0 (by decide) (by decide)]
 ·show [itemV a b c (⟨#[89, 90]⟩ : ByteArray) 0, itemV a b c (⟨#[89, 90]⟩ : ByteArray) 1] = [itemV a b c xyzB 1, itemV a b c xyzB 2]
  rw [e (⟨#[89, 90]⟩ : ByteArray) 0 1 (by decide) (by decide), e (⟨#[89, 90]⟩ : ByteArray) 1 2 (by decide) (by decide)]
 ·show [itemV a b c (⟨#[89]⟩ : ByteArray) 0] = [itemV a b c xyzB 1]
  rw [e (⟨#[89]⟩ : ByteArray) 0 1 (by decide) (by decide)]
 ·show [itemV a b c (⟨#[90]⟩ : ByteArray) 0] = [itemV a b c xyzB 2]
  rw [e (⟨#[90]⟩ : ByteArray) 0 2 (by decide) (by decide)]
 ·rfl
theorem varsB_size3 (s : ByteArray) : (varsB s).size ≤ 3 := by
 have h (p : Int → Bool) : ∀ (n : Nat) (i : Int) (acc : ByteArray), 0 ≤ i → i + n = 3 → (vr p n i acc).size ≤ acc.size + n := by
  intro n
  induction n with
  | zero => intro i acc _ _; exact Nat.le_refl _
  | succ n ih =>
   intro i acc h0 hi
   have hx := ext_size i h0 (by omega)
   unfold vr
   split
   ·have := ih (i + 1) (acc ++ ((⟨#[88, 89, 90]⟩ : ByteArray).extract (i : Int).toNat ((i + 1) : Int).toNat)) (by omega) (by omega)
    rw [ByteArray.size_append, hx] at this
    omega
   ·have := ih (i + 1) acc (by omega) (by omega)
    omega
 have := h (fun c => decide (c ∈ bytesOf s)) 3 0 (⟨#[]⟩ : ByteArray) (by omega) (by omega)
 have e : (⟨#[]⟩ : ByteArray).size = 0 := rfl
 unfold varsB
 omega
theorem spec_FormatValues_ev (a b c names : ByteArray) (hn : names.size ≤ 9223372036854775807) (ha : a.size ≤ 1048576) (hb : b.size ≤ 1048576) (hc : c.size ≤ 1048576) : Evt (fun k => spec_FormatValues.f k a b c names) (joinP (itemsV a b c names 3 0) spB) := by
 simp only [spec_FormatValues.f]
 refine Evt.bind (spec_VarsOf_ev names hn) ?_
 rw [← items_eq]
 exact spec_FormatValues_l a b c (varsB names) (varsB_size3 names) ha hb hc
end Go.Proofs.Ytpppopdmnejcfaa.F
namespace Go.Proofs.Ytpppopdmnejcfaa.Pure
open Go Go.RowKit Go.Proofs.YtpppopdmnejcfaaW.PrintWords Go.Proofs.Ytpppopdmnejcfaa.Pl Go.Proofs.Ytpppopdmnejcfaa.F Go.Proofs.Ytpppopdmnejcfaa.A Go.Proofs.Ytpppopdmnejcfaa.Ext
def expd (G : Int → ByteArray × Bool) (l : List Int) : List Int := l.flatMap fun c => if (G c).2 = true then bytesOf (G c).1 else [c]
theorem expd_cons (G : Int → ByteArray × Bool) (c : Int) (l : List Int) : expd G (c :: l) = (if (G c).2 = true then bytesOf (G c).1 else [c]) ++ expd G l := by simp [expd]
theorem repl_expd (G : Int → ByteArray × Bool) (l : List Int) : ∀ acc : List Int, acc.length + (expd G l).length ≤ 1048576 → repl G l acc = acc ++ expd G l := by
 induction l with
 | nil => intro acc _; simp [repl, expd]
 | cons c l ih =>
  intro acc h
  rw [expd_cons, List.length_append] at h
  unfold repl
  rw [if_neg (by rw [List.length_append]; omega), ih _ (by rw [List.length_append]; omega), expd_cons, List.append_assoc]
theorem expd_len (G : Int → ByteArray × Bool) (m : Nat) (hm : 1 ≤ m) (hG : ∀ c, (G c).1.size ≤ m) (l : List Int) : (expd G l).length ≤ m * l.length := by
 induction l with
 | nil => simp [expd]
 | cons c l ih =>
  rw [expd_cons, List.length_append, List.length_cons, Nat.mul_succ]
  have : (if (G c).2 = true then bytesOf (G c).1 else [c]).length ≤ m := by
   split
   ·rw [bytesOf_length]; exact hG c
   ·simpa using hm
  omega
theorem bytesOf_strOfNums (l : List Int) (h : ∀ c ∈ l, 0 ≤ c ∧ c ≤ 255) : bytesOf (strOfNums l) = l := by
 unfold bytesOf
 rw [strOfNums_data, List.map_map]
 conv => rhs; rw [← List.map_id l]
 refine List.map_congr_left fun c hc => ?_
 obtain ⟨h0, h1⟩ := h c hc
 simp only [Function.comp_apply, UInt8.toNat_ofNat', id_eq]
 omega
theorem expd_range (G : Int → ByteArray × Bool) (l : List Int) (h : ∀ c ∈ l, 0 ≤ c ∧ c ≤ 255) : ∀ c ∈ expd G l, 0 ≤ c ∧ c ≤ 255 := by
 intro c hc
 unfold expd at hc
 obtain ⟨d, hd, hc⟩ := List.mem_flatMap.1 hc
 split at hc
 ·exact mem_bytes _ hc
 ·rw [List.mem_singleton.1 hc]; exact h d hd
theorem replB_bytes (G : Int → ByteArray × Bool) (m : Nat) (hm : 1 ≤ m) (hG : ∀ c, (G c).1.size ≤ m) (s : ByteArray) (hs : m * s.size ≤ 1048576) : bytesOf (replB G s) = expd G (bytesOf s) := by
 have h1 := expd_len G m hm hG (bytesOf s)
 rw [bytesOf_length] at h1
 unfold replB
 rw [repl_expd G _ [] (by simp only [List.length_nil]; omega), List.nil_append]
 exact bytesOf_strOfNums _ (expd_range G _ (fun c hc => mem_bytes s hc))
theorem expd_id (W : Int → ByteArray × Bool) (l : List Int) (h : ∀ c ∈ l, (W c).2 = false) : expd W l = l := by
 induction l with
 | nil => rfl
 | cons c l ih =>
  rw [expd_cons, h c (by simp), ih (fun d hd => h d (by simp [hd]))]
  rfl
theorem expd_twice (W : Int → ByteArray × Bool) (c : Int) (hv : (W c).2 = true) (hb : ∀ d ∈ bytesOf (W c).1, (W d).2 = false) (l : List Int) : expd W (expd (fun x => ((W c).1, x == c)) l) = expd W l := by
 induction l with
 | nil => rfl
 | cons d l ih =>
  rw [expd_cons, expd_cons]
  have happ : ∀ p q, expd W (p ++ q) = expd W p ++ expd W q := by intro p q; simp [expd]
  rw [happ, ih]
  congr 1
  by_cases h : d = c
  ·subst h
   simp only [beq_self_eq_true, if_true, hv]
   exact expd_id W _ hb
  ·have : (d == c) = false := by simpa using h
   simp only [this, Bool.false_eq_true, if_false]
   rw [expd_cons]
   simp [expd]
theorem word_plain {s : ByteArray} (h : isW s = true) : ∀ d ∈ bytesOf s, isVr d = false := by
 intro d hd
 unfold isW allL at h
 simp only [Bool.and_eq_true, List.all_eq_true, decide_eq_true_eq] at h
 have h1 := h.1 d hd
 rw [ltI_nonneg] at h1
 unfold isVr
 simp
 omega
theorem isValues_ev (x y z : ByteArray) (hx : x.size ≤ 31) (hy : y.size ≤ 31) (hz : z.size ≤ 31) : Evt (fun k => spec_IsValues.f k x y z) (isW x && (isW y && isW z)) := by
 simp only [spec_IsValues.f]
 refine Evt.bind (spec_IsWord_ev x (by omega)) ?_
 cases isW x with
 | false => exact Evt.neg (by decide) ((Evt.ret _).cast (by simp))
 | true =>
  refine Evt.pos rfl (Evt.bind (spec_IsWord_ev y (by omega)) ?_)
  cases isW y with
  | false => exact Evt.neg (by decide) ((Evt.ret _).cast (by simp))
  | true => exact Evt.pos rfl (Evt.bind (spec_IsWord_ev z (by omega)) ((Evt.ret _).cast (by simp)))
theorem impl_CountByte_ev (s : ByteArray) (c : Int) (hs : s.size ≤ 9223372036854775807) : Evt (fun k => impl_CountByte.f k s c) ((cntB (bytesOf s) c : Nat) : Int) := by
 have h : ∀ d i n : Nat, i + d = s.size → n ≤ i → Evt (fun k => impl_CountByte.l0 k s c (n : Int) (i : Int)) (((n + cntB ((bytesOf s).drop i) c : Nat)) : Int) := by
  intro d
  induction d with
  | zero =>
   intro i n hi hn
   refine Evt.step ?_
   simp only [impl_CountByte.l0]
   rw [List.drop_of_length_le (by rw [bytesOf_length]; omega)]
   exact Evt.neg (by omega) (Evt.const (by simp [cntB]))
  | succ d ih =>
   intro i n hi hn
   refine Evt.step ?_
   simp only [impl_CountByte.l0]
   have hl : i < (bytesOf s).length := by rw [bytesOf_length]; omega
   rw [List.drop_eq_getElem_cons hl, ← bt_get s i hl, w64s (i := i) (by omega), w64s (i := n) (by omega)]
   refine Evt.pos (by omega) (Evt.pos (by omega) ?_)
   by_cases hc : bt s i = c
   ·exact Evt.pos hc ((ih (i + 1) (n + 1) (by omega) (by omega)).cast (by simp [cntB, hc]; omega))
   ·exact Evt.neg hc ((ih (i + 1) n (by omega) (by omega)).cast (by simp [cntB, hc]))
 have := h s.size 0 0 (by omega) (by omega)
 simpa [impl_CountByte.f] using this
theorem varsB_mem (s : ByteArray) (c : Int) (hc : c = 88 ∨ c = 89 ∨ c = 90) : c ∈ bytesOf (varsB s) ↔ c ∈ bytesOf s := by
 have b0 : bt (⟨#[88, 89, 90]⟩ : ByteArray) 0 = 88 := by decide
 have b1 : bt (⟨#[88, 89, 90]⟩ : ByteArray) (0 + 1) = 89 := by decide
 have b2 : bt (⟨#[88, 89, 90]⟩ : ByteArray) (0 + 1 + 1) = 90 := by decide
 unfold varsB
 simp only [vr, b0, b1, b2, decide_eq_true_eq]
 by_cases h0 : (88 : Int) ∈ bytesOf s <;> by_cases h1 : (89 : Int) ∈ bytesOf s <;> by_cases h2 : (90 : Int) ∈ bytesOf s <;> simp only [h0, h1, h2, if_true, if_false]
 all_goals
  rcases hc with rfl | rfl | rfl
  all_goals first
   | (simp only [h0, iff_true]; decide)
   | (simp only [h1, iff_true]; decide)
   | (simp only [h2, iff_true]; decide)
   | (simp only [h0, iff_false]; decide)
   | (simp only [h1, iff_false]; decide)
   | (simp only [h2, iff_false]; decide)
theorem FnTerms : FnTerms.Pure := by
 intro l hl
 refine Evt.get (g := fun k => laws_FnTerms.f k l) ?_
 simp only [laws_FnTerms.f]
 by_cases hbig : (l.length : Int) > 1048576
 ·exact Evt.bindc (a := true) (by simp [laws_big.f, hbig]) (Evt.pos rfl (Evt.ret _))
 refine Evt.bindc (a := false) (by simp only [laws_big.f]; congr 1; exact decide_eq_false hbig) (Evt.neg (by decide) ?_)
 have hl' : l.length ≤ 1048576 := by omega
 obtain ⟨s, x, y, z, e1, s0, s1, s2, s3⟩ := drawApplyValues_ok l hl'
 refine Evt.bind e1 (Evt.bindc (impl_ApplyValues_eq s x y z (by omega) (by omega) (by omega) (by omega)) (Evt.bind (spec_ApplyValues_ev s x y z (by omega) (by omega) (by omega) (by omega)) (Evt.pos rfl (Evt.bind (impl_VarsOf_ev s) (Evt.bind (spec_VarsOf_ev s (by omega)) (Evt.pos rfl (Evt.bind (impl_IsTerm_ev s) (Evt.bind (spec_IsTerm_ev s (by omega)) ?_))))))))
 have ebne : (isTm s != isTm s) = false := by simp
 rw [ebne]
 refine Evt.step ?_
 simp only [laws_FnTerms.j0]
 refine Evt.neg (by decide) ?_
 have hW : ∀ c, (wordOf x y z c).1.size ≤ 31 := by
  intro c
  have := valueOf_some x y z c
  rw [impl_ValueOf_v] at this
  rw [← Option.some.inj this]
  unfold valV
  repeat' split
  all_goals first | assumption | exact Nat.zero_le _
 have hend : Evt (fun k => laws_FnTerms.l0 k l s (replB (wordOf x y z) s) ((3 : Nat) : Int) x y z) true := by
  refine Evt.step ?_
  simp only [laws_FnTerms.l0]
  obtain ⟨x', y', z', nm, w, e2, hnm⟩ := drawWithValue_ok l hl'
  obtain ⟨p, q, r, t, e3, t0, t1, t2, t3⟩ := drawFormatValues_ok l hl'
  have hf1 := impl_FormatValues_ev p q r t (by omega) (by omega) (by omega)
  have hf2 := spec_FormatValues_ev p q r t (by omega) (by omega) (by omega) (by omega)
  refine Evt.neg (by omega) (Evt.bind e2 ?_)
  rcases hnm with rfl | rfl | rfl | rfl
  ·exact Evt.bindc (a := (w, y', z')) rfl (Evt.bind e3 (Evt.bindc (a := (w, y', z')) rfl (Evt.pos (by simp) (Evt.neg (show ¬ ((88 : Int) = 97) by decide) (Evt.bindc (a := w) rfl (Evt.pos rfl (Evt.bind hf1 (Evt.bind hf2 ((Evt.ret _).cast (by simp))))))))))
  ·exact Evt.bindc (a := (x', w, z')) rfl (Evt.bind e3 (Evt.bindc (a := (x', w, z')) rfl (Evt.pos (by simp) (Evt.neg (show ¬ ((89 : Int) = 97) by decide) (Evt.bindc (a := w) rfl (Evt.pos rfl (Evt.bind hf1 (Evt.bind hf2 ((Evt.ret _).cast (by simp))))))))))
  ·exact Evt.bindc (a := (x', y', w)) rfl (Evt.bind e3 (Evt.bindc (a := (x', y', w)) rfl (Evt.pos (by simp) (Evt.neg (show ¬ ((90 : Int) = 97) by decide) (Evt.bindc (a := w) rfl (Evt.pos rfl (Evt.bind hf1 (Evt.bind hf2 ((Evt.ret _).cast (by simp))))))))))
  ·exact Evt.bindc (a := (x', y', z')) rfl (Evt.bind e3 (Evt.bindc (a := (x', y', z')) rfl (Evt.pos (by simp) (Evt.pos (show (97 : Int) = 97 by decide) (Evt.bind hf1 (Evt.bind hf2 ((Evt.ret _).cast (by simp))))))))
 have hstep : ∀ i : Nat, i < 3 → Evt (fun k => laws_FnTerms.l0 k l s (replB (wordOf x y z) s) ((i + 1 : Nat) : Int) x y z) true → Evt (fun k => laws_FnTerms.l0 k l s (replB (wordOf x y z) s) (i : Int) x y z) true := by
  intro i hi hn
  have hc : bt (⟨#[88, 89, 90]⟩ : ByteArray) (i : Int) = 88 ∨ bt (⟨#[88, 89, 90]⟩ : ByteArray) (i : Int) = 89 ∨ bt (⟨#[88, 89, 90]⟩ : ByteArray) (i : Int) = 90 := by
   have : i = 0 ∨ i = 1 ∨ i = 2 := by omega
   rcases this with rfl | rfl | rfl
   ·exact .inl (by decide)
   ·exact .inr (.inl (by decide))
   ·exact .inr (.inr (by decide))
  refine Evt.step ?_
  simp only [laws_FnTerms.l0]
  rw [w64s (by omega)]
  generalize bt (⟨#[88, 89, 90]⟩ : ByteArray) (i : Int) = c at hc ⊢
  have hsz := replB_size (fun u => ((wordOf x y z c).1, u == c)) s
  have hwc := hW c
  have hcnt : (decide (((cntB (bytesOf s) c : Nat) : Int) > 0) != decide (((cntB (bytesOf (varsB s)) c : Nat) : Int) > 0)) = false := by
   have e : (((cntB (bytesOf s) c : Nat) : Int) > 0) = (((cntB (bytesOf (varsB s)) c : Nat) : Int) > 0) := by
    apply propext
    rw [cntB_pos, cntB_pos, varsB_mem s c hc]
   simp only [e, bne_self_eq_false]
  have hv3 := varsB_size3 s
  refine Evt.pos (by omega) (Evt.pos (by omega) (Evt.bindc (valueOf_some x y z c) (Evt.bindc (impl_ReplaceVar_eq s _ c (by omega) (by omega)) (Evt.bind (impl_CountByte_ev s c (by omega)) (Evt.bind (impl_VarsOf_ev s) (Evt.bind (impl_CountByte_ev _ c (by omega)) (Evt.neg (by rw [hcnt]; decide) (Evt.bindc (impl_ApplyValues_eq _ x y z (by omega) (by omega) (by omega) (by omega)) ?_))))))))
  by_cases heq : replB (wordOf x y z) (replB (fun u => ((wordOf x y z c).1, u == c)) s) = replB (wordOf x y z) s
  ·exact Evt.pos (by rw [heq]) hn
  ·refine Evt.neg (fun h => heq ((toList_eq_iff _ _).1 h)) (Evt.bind (isValues_ev x y z s1 s2 s3) (Evt.neg (fun hv => heq ?_) hn))
   simp only [Bool.and_eq_true] at hv
   obtain ⟨v1, v2, v3⟩ := hv
   have hcr : 0 ≤ c ∧ c ≤ 255 := by omega
   have hvar : (wordOf x y z c).2 = true := by
    rw [wordOf_var x y z hcr.1 hcr.2]
    unfold isVr
    simp
    omega
   have hpl : ∀ d ∈ bytesOf (wordOf x y z c).1, (wordOf x y z d).2 = false := by
    intro d hd
    have hr := mem_bytes _ hd
    rw [wordOf_var x y z hr.1 hr.2]
    have e := valueOf_some x y z c
    rw [impl_ValueOf_v] at e
    rw [← Option.some.inj e] at hd
    rcases hc with rfl | rfl | rfl
    ·exact word_plain v1 d hd
    ·exact word_plain v2 d hd
    ·exact word_plain v3 d hd
   apply bytesOf_inj
   have b1 := replB_bytes (fun u => ((wordOf x y z c).1, u == c)) 31 (by omega) (fun _ => hwc) s (by omega)
   have hlen : (replB (fun u => ((wordOf x y z c).1, u == c)) s).size ≤ 403 := by
    have h1 := expd_len (fun u => ((wordOf x y z c).1, u == c)) 31 (by omega) (fun _ => hwc) (bytesOf s)
    rw [← b1, bytesOf_length, bytesOf_length] at h1
    omega
   rw [replB_bytes (wordOf x y z) 31 (by omega) hW _ (by omega), b1, replB_bytes (wordOf x y z) 31 (by omega) hW s (by omega)]
   exact expd_twice (wordOf x y z) c hvar hpl (bytesOf s)
 exact hstep 0 (by omega) (hstep 1 (by omega) (hstep 2 (by omega) hend))
end Go.Proofs.Ytpppopdmnejcfaa.Pure
namespace Go.Proofs.Ytpppopdmnejcfaa.fnTerms
open Go.ChangeShapes Go.WideShapes Go.ChangeAt Go.RowKit Go.Proofs.Ytpppopdmnejcfaa.Br Go.Proofs.YtpppopdmnejcfaaW.PrintWords Go.Proofs.Ytpppopdmnejcfaa.A
open Go.ChangeMaps (open_string shut_string)
theorem own : ownKnob Try.prog.godebug = none := by kernel_rfl
theorem laidOut : laidOutB Try.prog = true := by kernel_rfl
set_option maxHeartbeats 2000000 in
theorem lifted (os : Os) (started : os.Started) (H : Type) (enc : TypeId × Value → H) :
  ReturnsInHanded {} Try.checked os 7 .any (Rows.fnTermsSpec.pre6 enc Try.prog Try.f7 Rows.fnTermsRow.domain false) (Rows.fnTermsSpec.post enc Try.prog Try.f7 false true false false) := by
 refine returnsInHanded_of_change_sized (C := Try.checked) own started (by kernel_rfl) Try.func7
  (ChangeSpec.witness6 (enc := enc) (C := Try.checked) false ⟨#[], #[.slice none 0 0], []⟩ 8 (by kernel_rfl) (by kernel_rfl) (by kernel_rfl) (by kernel_rfl)) ?_
 intro W base args ds gs before hval0 hW hcnd hsz0 _
 have hval : ∀ (j : Nat) t v, Try.f7.params[j]? = some t → args[j]? = some v → Value.okWide Try.prog W .any base t v := hval0
 have hW' := hW
 obtain ⟨p, q, hA0, hV, rfl, hfz, hnd⟩ := hW
 have hA : DataW.TrodAll enc Try.prog W 0 (fun _ => true) true Try.f7.params.toList args.toList ds p := hA0
 rw [Try.params7] at hA hval
 obtain ⟨v0, vs0, d0, ds0, p0, q0, hargs, rfl, rfl, h0, r0⟩ := trodAll_cons hA
 obtain ⟨rfl, rfl, rfl⟩ := trodAll_nil r0
 obtain rfl : args = #[v0] := by cases args; simp_all
 obtain ⟨rfl, rfl⟩ := trodVars_none hV
 have k0 := h0
 have lt0 : ∀ x ∈ p0, x.block < W.heap.size := by obtain ⟨m, hm⟩ := k0; exact DataW.trod_lt m _ _ _ hm
 obtain ⟨aa0, len0, cap0, rfl⟩ := okWide_slice Try.underlying81 (hval 0 81 v0 rfl rfl)
 obtain ⟨fuel0, hf0⟩ := h0
 obtain ⟨l0, ⟨A0, c0, hcs0, hc0, hr0⟩, w0⟩ := (show ∀ n, BrN Try.prog n 81 _ _ from fun n => (br_slice' Try.underlying81 (show Try.prog.cellsOf 5 = 1 by kernel_rfl) (fun n => (br_int Try.underlying5 n)) n)) fuel0 H enc W 0 (fun _ => true) true fuel0 _ _ (Nat.le_refl _) hf0
 obtain ⟨rfl, rfl, rfl⟩ : aa0 = A0 ∧ len0 = l0.length ∧ cap0 = c0 := by simpa [Value.cells] using hcs0
 clear hA0 hval0 hsz0
 obtain ⟨k, hp⟩ := Pure.FnTerms l0 w0
 refine (laws_FnTerms.calls k _ _ l0 true W hr0 hc0 hp).mono fun e W' ⟨he, bel0⟩ => ?_
 subst he
 have bel : Below W.heap.size W W' := bel0
 exact ⟨_, rfl, _, _, _, [], _, [], hW', trodAll_mk1 (shut_bool Try.underlying4 _), (trodAll_cons_mk (Below.trod laidOut (by kernel_rfl) (of_decide_eq_true (by kernel_rfl)) k0 bel lt0) trodAll_mk0), rfl, bel.frame _, fun h => by cases h⟩
theorem fact0 : (Rows.fnTermsRow.inPlace == Try.pinned.checked.prog.inPlace 7) = true := by kernel_rfl
theorem fact1 : (Rows.fnTermsRow.unfollowed == Try.pinned.checked.prog.unfollowed 7) = true := by kernel_rfl
theorem fact2 : (Rows.fnTermsRow.recurses == Try.pinned.checked.prog.recurses 7) = true := by kernel_rfl
theorem fact3 : (Rows.fnTermsRow.named == Try.pinned.checked.prog.varsNamed 7) = true := by kernel_rfl
theorem facts : joinedFacts Try.pinned.checked.prog 7 Try.f7 Rows.fnTermsSpec Rows.fnTermsRow = true := by
 unfold joinedFacts
 rw [fact0, fact1, fact2, fact3]
 kernel_rfl
theorem known : Try.pinned.checked.prog.funcNamed Rows.fnTermsRow.func = some 7 := by kernel_rfl
theorem inst : Try.f7.isInstance Try.pinned.checked.prog Rows.fnTermsRow.origin Rows.fnTermsRow.targs := of_decide_eq_true (by kernel_rfl)
theorem wrap : Try.f7.isWrapper Try.pinned.checked.prog Rows.fnTermsRow.wrapper Rows.fnTermsRow.mainSum := by unfold Func.isWrapper; first | (rw [if_pos (by decide +kernel)]; kernel_rfl) | (rw [if_neg (by decide +kernel)]; exact ⟨rfl, rfl⟩)
theorem over : Rows.fnTermsRow.holds Try.pinned (OpenSpec.ofChange Rows.fnTermsSpec) :=
 OpenClaim.holds_of_wide 7 Try.f7 rfl rfl rfl rfl rfl rfl rfl ⟨rfl, rfl, rfl, rfl, rfl⟩ rfl rfl rfl rfl rfl known Try.func7 facts inst wrap
  (fun os started H enc _ => lifted os started H enc)
theorem proved : Rows.FnTermsSaid := over
#print axioms proved
end Go.Proofs.Ytpppopdmnejcfaa.fnTerms
namespace Go.Proofs.Ytpppopdmnejcfaa
theorem fnTerms_holds : Rows.FnTermsSaid := fnTerms.proved
end Go.Proofs.Ytpppopdmnejcfaa
