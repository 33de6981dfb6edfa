/- FnExactEqualState: what its proof needs, put together by this session's program wip/merge.py out of the texts that wip/xp.py printed and of this session's own. -/
import Derived.Test.YtkefiajemifklaaQFnExactEqualState1
import Derived.Test.YtkefiajemifklaaWMore
import Derived.ChangeArms
import Derived.ChangeReads
import Derived.DataReads
import Derived.DataElems
import Derived.Lib.Strings
import Derived.Lib.Bytealg
import Derived.Test.YtkefiajemifklaaRows
import Derived.WalkKit
import Derived.ProofKit
import Derived.OpenShut
import Derived.ShutString
import Derived.ChangeOld
import Derived.Below
import Derived.SizedLaws
import Derived.Lib.SmallJoins
namespace Go.Proofs.Ytkefiajemifklaa.Br
set_option linter.unusedVariables false
set_option linter.unusedSimpArgs false
open Go Go.Proofs.YtkefiajemifklaaW.PrintWords

/-- Whatever reads at type t, with at most n of fuel, is of kind d and well formed. -/
def BrN (P : Program) (n : Nat) (t : TypeId) {α : Type} (d : Kd α) (wf : α → Prop) : Prop :=
  ∀ (H : Type) (enc : TypeId × Value → H) (w : World) (base : Nat) (spare : Nat → Bool) (held : Bool) (m : Nat) (cs : List Value) (x : DataW H × List MemPlace),
    m ≤ n → DataW.trod enc P w base spare held m t cs = some x → ∃ a, d.K w a cs ∧ wf a
def Br (P : Program) (t : TypeId) {α : Type} (d : Kd α) (wf : α → Prop) : Prop := ∀ n, BrN P n t d wf

/-- The same of the fields of a struct, from offset o on. -/
def BF (P : Program) (n : Nat) (fs : List Field) (o : Nat) {α : Type} (d : Kd α) (wf : α → Prop) : Prop :=
  ∀ (H : Type) (enc : TypeId × Value → H) (w : World) (base : Nat) (spare : Nat → Bool) (held : Bool) (m : Nat) (cs : List Value) (xs : List (DataW H × List MemPlace)),
    m ≤ n → cs.length = d.sz → xs.length = fs.length →
    (∀ (i : Nat) (f : Field), fs[i]? = some f → DataW.trod enc P w base spare held m f.type ((cs.drop (f.offset - o)).take (P.cellsOf f.type)) = xs[i]?) → ∃ a, d.K w a cs ∧ wf a

theorem BrN.mono {P : Program} {n m : Nat} {t : TypeId} {α : Type} {d : Kd α} {wf : α → Prop} (h : BrN P n t d wf) (hm : m ≤ n) : BrN P m t d wf :=
  fun H enc w base spare held k cs x hk => h H enc w base spare held k cs x (Nat.le_trans hk hm)
theorem BrN.zero (P : Program) (t : TypeId) {α : Type} (d : Kd α) (wf : α → Prop) : BrN P 0 t d wf := by
  intro H enc w base spare held m cs x hm hx
  obtain rfl : m = 0 := by omega
  simp [DataW.trod] at hx

theorem br_int {P : Program} {t : TypeId} {k : IntKind} (ht : P.underlying t = some (.int k)) (n : Nat) : BrN P n t (Kd.int k) (fun a => (Lit.int k a).wf = true) := by
  intro H enc w base spare held m cs x _ hx
  obtain ⟨a, rfl, _, hw⟩ := DataW.trod_int ht hx
  exact ⟨a, rfl, hw⟩
theorem br_string {P : Program} {t : TypeId} (ht : P.underlying t = some .string) (n : Nat) : BrN P n t Kd.string (fun s => s.size ≤ 9223372036854775807) := by
  intro H enc w base spare held m cs x _ hx
  obtain ⟨a, rfl, _, hw⟩ := DataW.trod_string ht hx
  exact ⟨a, rfl, by simpa [maxLen] using hw⟩

theorem list_of_all {α : Type} {Q : Nat → α → Prop} (n : Nat) (h : ∀ i, i < n → ∃ a, Q i a) : ∃ l : List α, l.length = n ∧ ∀ i a, l[i]? = some a → Q i a := by
  induction n with
  | zero => exact ⟨[], rfl, fun i a h => by simp at h⟩
  | succ n ih =>
    obtain ⟨l, hl, hq⟩ := ih (fun i hi => h i (by omega))
    obtain ⟨a, ha⟩ := h n (by omega)
    refine ⟨l ++ [a], by simp [hl], fun i b hb => ?_⟩
    rcases Nat.lt_or_ge i l.length with hi | hi
    · rw [List.getElem?_append_left hi] at hb
      exact hq i b hb
    · rw [List.getElem?_append_right hi] at hb
      obtain ⟨h0, rfl⟩ : i - l.length = 0 ∧ a = b := by
        rcases Nat.eq_zero_or_pos (i - l.length) with h0 | h0
        · rw [h0] at hb; exact ⟨h0, by simpa using hb⟩
        · rw [List.getElem?_eq_none (by simp; omega)] at hb; simp at hb
      obtain rfl : i = n := by omega
      exact ha

theorem cells_at {w : World} {base : Nat} {a : Addr} {n : Nat} {cs : List Value} (h : w.cells? base a n = some cs) : cs.length = n ∧ ∀ i u, cs[i]? = some u → w.cell? (a.add i) = some u := by
  unfold World.cells? at h
  split at h
  · have hl := mapM_some_length h
    refine ⟨by simpa using hl, fun i u hu => ?_⟩
    have hi : i < n := by
      have := (List.getElem?_eq_some_iff.1 hu).1
      simp at hl
      omega
    have := mapM_some_get h i i (by simp [hi])
    rw [this, hu]
  · simp at h

theorem br_slice {P : Program} {t e : TypeId} {α : Type} {d : Kd α} {wf : α → Prop} {n : Nat} (ht : P.underlying t = some (.slice e)) (hs : P.cellsOf e = d.sz) (h : BrN P n e d wf) :
    BrN P (n + 1) t (Kd.slice e d) (fun l => l.length ≤ 9223372036854775807 ∧ ∀ a ∈ l, wf a) := by
  intro H enc w base spare held m cs x hm hx
  rcases DataW.trod_slice ht hx with ⟨rfl, _⟩ | ⟨a, len, cap, elems, rest, k, rfl, rfl, _, _, hl, hc, he, hg, _, _⟩
  · exact ⟨[], ⟨none, 0, rfl, Nat.le_refl _, Kd.C_nil d w⟩, by simp, by simp⟩
  · have hq : ∀ i, i < len → ∃ b, (∃ c, c.length = d.sz ∧ d.K w b c ∧ ∀ j u, c[j]? = some u → w.cell? (a.add (i * d.sz + j)) = some u) ∧ wf b := by
      intro i hi
      have g := hg i hi
      rw [List.getElem?_eq_getElem (by omega)] at g
      obtain ⟨c, hc1, hc2⟩ := Option.bind_eq_some_iff.1 g
      obtain ⟨b, hb, hw⟩ := h H enc w base spare held k c _ (by omega) hc2
      obtain ⟨h1, h2⟩ := cells_at hc1
      refine ⟨b, ⟨c, by rw [h1, hs], hb, fun j u hu => ?_⟩, hw⟩
      have := h2 j u hu
      rw [Addr.add_add, hs] at this
      exact this
    obtain ⟨l, hl1, hl2⟩ := list_of_all len hq
    have hlen : len ≤ 9223372036854775807 := by simp only [maxLen] at hc; omega
    refine ⟨l, ⟨some a, cap, by rw [hl1], by omega, rfl, by omega, fun _ => ⟨a, rfl, fun j p hp => (hl2 j p hp).1⟩⟩, by omega, fun b hb => ?_⟩
    obtain ⟨i, hi, rfl⟩ := List.mem_iff_getElem.1 hb
    exact (hl2 i _ (List.getElem?_eq_getElem hi)).2
theorem br_slice' {P : Program} {t e : TypeId} {α : Type} {d : Kd α} {wf : α → Prop} (ht : P.underlying t = some (.slice e)) (hs : P.cellsOf e = d.sz) (h : ∀ n, BrN P n e d wf) (n : Nat) :
    BrN P n t (Kd.slice e d) (fun l => l.length ≤ 9223372036854775807 ∧ ∀ a ∈ l, wf a) := (br_slice ht hs (h n)).mono (Nat.le_succ n)

theorem bf_one {P : Program} {n o : Nat} {f : Field} {α : Type} {d : Kd α} {wf : α → Prop} (ho : f.offset = o) (hs : P.cellsOf f.type = d.sz) (h : BrN P n f.type d wf) : BF P n [f] o d wf := by
  intro H enc w base spare held m cs xs hm hl hx hf
  have g := hf 0 f rfl
  rw [ho, Nat.sub_self, List.drop_zero, hs, ← hl, List.take_length, List.getElem?_eq_getElem (by simp at hx; omega)] at g
  exact h H enc w base spare held m cs _ hm g
theorem bf_cons {P : Program} {n o : Nat} {f : Field} {fs : List Field} {α β : Type} {d : Kd α} {d' : Kd β} {wf : α → Prop} {wf' : β → Prop} (ho : f.offset = o) (hs : P.cellsOf f.type = d.sz) (h : BrN P n f.type d wf)
    (hfs : BF P n fs (o + d.sz) d' wf') (hle : ∀ g ∈ fs, o + d.sz ≤ g.offset) : BF P n (f :: fs) o (Kd.pair d d') (fun x => wf x.1 ∧ wf' x.2) := by
  intro H enc w base spare held m cs xs hm hl hx hf
  have hl' : cs.length = d.sz + d'.sz := hl
  have g := hf 0 f rfl
  rw [ho, Nat.sub_self, List.drop_zero, hs, List.getElem?_eq_getElem (by simp at hx; omega)] at g
  obtain ⟨a, ha, hwa⟩ := h H enc w base spare held m _ _ hm g
  cases xs with
  | nil => simp at hx
  | cons y ys =>
    obtain ⟨b, hb, hwb⟩ := hfs H enc w base spare held m (cs.drop d.sz) ys hm (by rw [List.length_drop]; omega) (by simpa using hx) (fun i q hq => by
      have g2 := hf (i + 1) q (by simpa using hq)
      have hm : q ∈ fs := List.mem_of_getElem? hq
      have := hle q hm
      rw [List.drop_drop, show d.sz + (q.offset - (o + d.sz)) = q.offset - o by omega]
      simpa using g2)
    exact ⟨(a, b), ⟨cs.take d.sz, cs.drop d.sz, (List.take_append_drop _ _).symm, ha, hb⟩, hwa, hwb⟩
theorem br_struct {P : Program} {t : TypeId} {fs : Array Field} {α : Type} {d : Kd α} {wf : α → Prop} {n : Nat} (ht : P.underlying t = some (.struct fs)) (hs : P.cellsOf t = d.sz) (h : BF P n fs.toList 0 d wf) : BrN P (n + 1) t d wf := by
  intro H enc w base spare held m cs x hm hx
  obtain ⟨xs, k, rfl, _, hl, hxs, hf⟩ := DataW.trod_struct ht hx
  exact h H enc w base spare held k cs xs (by omega) (by rw [hl, hs]) (by simpa using hxs) (fun i f hi => by simpa using hf i f (by simpa using hi))
theorem br_struct' {P : Program} {t : TypeId} {fs : Array Field} {α : Type} {d : Kd α} {wf : α → Prop} (ht : P.underlying t = some (.struct fs)) (hs : P.cellsOf t = d.sz) (h : ∀ n, BF P n fs.toList 0 d wf) (n : Nat) : BrN P n t d wf :=
  (br_struct ht hs (h n)).mono (Nat.le_succ n)
theorem arr_of {xs : Array Value} {l : List Value} (h : xs.toList = l) : xs = l.toArray := by rw [← h]

end Go.Proofs.Ytkefiajemifklaa.Br


namespace Go.Proofs.Ytkefiajemifklaa.Pure
open Go Go.RowKit Go.Proofs.Ytkefiajemifklaa.Br Go.Proofs.YtkefiajemifklaaW.PrintWords Go.Proofs.YtkefiajemifklaaW.PrintLast Go.Proofs.Ytkefiajemifklaa.A Go.Proofs.Ytkefiajemifklaa.Ext
set_option linter.unusedVariables false
def FnExactEqualState.Pure : Prop := ∀ (a0_0 : ByteArray) (a0_1 : ByteArray) (l0_2 : (List Int)) (a1_0 : ByteArray) (a1_1 : ByteArray) (l1_2 : (List Int)), ((a0_0 : ByteArray).size ≤ 9223372036854775807) → ((a0_1 : ByteArray).size ≤ 9223372036854775807) → ((l0_2 : (List Int)).length ≤ 9223372036854775807 ∧ ∀ a ∈ l0_2, (Lit.int .i64 a).wf = true) → ((a1_0 : ByteArray).size ≤ 9223372036854775807) → ((a1_1 : ByteArray).size ≤ 9223372036854775807) → ((l1_2 : (List Int)).length ≤ 9223372036854775807 ∧ ∀ a ∈ l1_2, (Lit.int .i64 a).wf = true) → ∃ k, laws_FnExactEqualState.f k a0_0 a0_1 l0_2 a1_0 a1_1 l1_2 = some true
end Go.Proofs.Ytkefiajemifklaa.Pure

namespace Go.Proofs.Ytkefiajemifklaa.Pl
set_option linter.unusedVariables false
set_option linter.unusedSimpArgs false
open Go.RowKit Go.Proofs.YtkefiajemifklaaW.PrintWords

/-- From some number of rounds on, it answers r. -/
def Evt {α : Type} (g : Nat → Option α) (r : α) : Prop := ∃ K, ∀ k, K ≤ k → g k = some r
section
variable {α β : Type}
theorem Evt.const {g : Option α} {r : α} (h : g = some r) : Evt (fun _ => g) r := ⟨0, fun _ _ => h⟩
theorem Evt.ret (r : α) : Evt (fun _ => some r) r := Evt.const rfl
theorem Evt.bind {g : Nat → Option α} {f : Nat → α → Option β} {a : α} {r : β} (hg : Evt g a) (hf : Evt (fun k => f k a) r) : Evt (fun k => (g k).bind (f k)) r := by
  obtain ⟨K, hK⟩ := hg
  obtain ⟨L, hL⟩ := hf
  exact ⟨max K L, fun k hk => by show (g k).bind (f k) = some r; rw [hK k (by omega)]; exact hL k (by omega)⟩
theorem Evt.bindc {g : Option α} {f : Nat → α → Option β} {a : α} {r : β} (hg : g = some a) (hf : Evt (fun k => f k a) r) : Evt (fun k => g.bind (f k)) r := Evt.bind (Evt.const hg) hf
theorem Evt.step {g : Nat → Option α} {r : α} (h : Evt (fun k => g (k + 1)) r) : Evt g r := by
  obtain ⟨K, hK⟩ := h
  exact ⟨K + 1, fun k hk => by
    obtain ⟨m, rfl⟩ : ∃ m, k = m + 1 := ⟨k - 1, by omega⟩
    exact hK m (by omega)⟩
theorem Evt.pos {c : Prop} [Decidable c] {t e : Nat → Option α} {r : α} (h : c) (ht : Evt t r) : Evt (fun k => if c then t k else e k) r := by
  obtain ⟨K, hK⟩ := ht
  exact ⟨K, fun k hk => (if_pos h).trans (hK k hk)⟩
theorem Evt.neg {c : Prop} [Decidable c] {t e : Nat → Option α} {r : α} (h : ¬ c) (ht : Evt e r) : Evt (fun k => if c then t k else e k) r := by
  obtain ⟨K, hK⟩ := ht
  exact ⟨K, fun k hk => (if_neg h).trans (hK k hk)⟩
theorem Evt.ite {c : Prop} [Decidable c] {t e : Nat → Option α} {x y : α} (ht : c → Evt t x) (he : ¬ c → Evt e y) : Evt (fun k => if c then t k else e k) (if c then x else y) := by
  by_cases h : c
  · rw [if_pos h]; exact Evt.pos h (ht h)
  · rw [if_neg h]; exact Evt.neg h (he h)
theorem Evt.get {g : Nat → Option α} {r : α} (h : Evt g r) : ∃ k, g k = some r := by
  obtain ⟨K, hK⟩ := h
  exact ⟨K, hK K (Nat.le_refl _)⟩
theorem Evt.of_eq {g g' : Nat → Option α} {r : α} (h : ∀ k, g k = g' k) (h' : Evt g' r) : Evt g r := by
  obtain ⟨K, hK⟩ := h'
  exact ⟨K, fun k hk => by rw [h]; exact hK k hk⟩
theorem Evt.cast {g : Nat → Option α} {r r' : α} (h : Evt g r) (e : r = r') : Evt g r' := e ▸ h
/-- A loop that counts up from 0 to n: what it answers at i is R i. -/
theorem Evt.up (l : Nat → Int → Option α) (n : Nat) (R : Nat → α) (hend : Evt (fun k => l k (n : Int)) (R n))
    (hstep : ∀ i : Nat, i < n → Evt (fun k => l k ((i + 1 : Nat) : Int)) (R (i + 1)) → Evt (fun k => l k (i : Int)) (R i)) : Evt (fun k => l k 0) (R 0) := by
  have h : ∀ d i : Nat, i + d = n → Evt (fun k => l k (i : Int)) (R i) := by
    intro d
    induction d with
    | zero => intro i hi; obtain rfl : i = n := by omega
              exact hend
    | succ d ih => intro i hi; exact hstep i (by omega) (ih (i + 1) (by omega))
  exact h n 0 (by omega)
end

theorem w64 {x : Int} (h : -9223372036854775808 ≤ x) (h' : x ≤ 9223372036854775807) : wrap64 x = x := by unfold wrap64; omega
/-- The counter's next value. -/
theorem w64s {i : Nat} (h : i < 9223372036854775807) : wrap64 ((i : Int) + 1) = ((i + 1 : Nat) : Int) := by
  rw [w64 (by omega) (by omega)]; omega

theorem bt0 (s : ByteArray) (i : Int) : 0 ≤ bt s i := (bt_range s i).1
theorem bt255 (s : ByteArray) (i : Int) : bt s i ≤ 255 := (bt_range s i).2
theorem bt_get (s : ByteArray) (i : Nat) (h : i < (bytesOf s).length) : bt s (i : Int) = (bytesOf s)[i] := by
  rw [← rd_bytesOf]
  simp [rd, h]
theorem bytesOf_inj {s t : ByteArray} (h : bytesOf s = bytesOf t) : s = t := by
  have h1 : s.data.toList = t.data.toList := by
    refine List.map_inj_right (f := fun b : UInt8 => (b.toNat : Int)) (fun x y hxy => ?_) |>.1 h
    exact UInt8.toNat_inj.1 (Int.ofNat_inj.1 hxy)
  cases s; cases t
  simp only [ByteArray.mk.injEq]
  exact Array.toList_inj.1 h1
theorem toList_eq_iff (s t : ByteArray) : s.toList = t.toList ↔ s = t := by
  rw [Lib.toList_data, Lib.toList_data]
  constructor
  · intro h
    cases s; cases t
    simp only [ByteArray.mk.injEq]
    exact Array.toList_inj.1 h
  · rintro rfl; rfl
theorem toList_nil_iff (s : ByteArray) : s.toList = ([] : List UInt8) ↔ s.size = 0 := by
  rw [Lib.toList_data, ← data_length, List.length_eq_zero_iff]
theorem mem_bytes (s : ByteArray) {c : Int} (h : c ∈ bytesOf s) : 0 ≤ c ∧ c ≤ 255 := by
  unfold bytesOf at h
  obtain ⟨b, _, rfl⟩ := List.mem_map.1 h
  have := b.toNat_lt
  omega
theorem bytesOf_append (s t : ByteArray) : bytesOf (s ++ t) = bytesOf s ++ bytesOf t := by
  simp [bytesOf, ByteArray.data_append]
theorem bytesOf_extract (s : ByteArray) (a b : Nat) : bytesOf (s.extract a b) = ((bytesOf s).drop a).take (b - a) := by
  have h := Lib.extract_toList s a b
  rw [Lib.toList_data] at h
  unfold bytesOf
  rw [h, List.map_take, List.map_drop]
theorem bytesOf_tail (s : ByteArray) (a : Nat) : bytesOf (s.extract a s.size) = (bytesOf s).drop a := by
  rw [bytesOf_extract, List.take_of_length_le]
  rw [List.length_drop, bytesOf_length]
  exact Nat.le_refl _

/-- A letter's number. -/
def ltI (c : Int) : Int := if 97 = c then 0 else if 98 = c then 1 else if 99 = c then 2 else -1
def varI (c : Int) : Int := if 88 = c then 0 else if 89 = c then 1 else if 90 = c then 2 else -1
def isVr (c : Int) : Bool := decide (88 ≤ c ∧ c ≤ 90)
theorem ix_abc : ∀ n : Nat, n < 256 → Lib.indexByte [97, 98, 99] n.toUInt8 = ltI (n : Int) := by decide +kernel
theorem ix_XYZ : ∀ n : Nat, n < 256 → Lib.indexByte [88, 89, 90] n.toUInt8 = varI (n : Int) := by decide +kernel
theorem varI_isVar (c : Int) : decide (varI c ≥ 0) = isVr c := by
  unfold varI isVr
  split
  · subst_vars; rfl
  · split
    · subst_vars; rfl
    · split
      · subst_vars; rfl
      · simp; omega
theorem ltI_nonneg (c : Int) : 0 ≤ ltI c ↔ (97 ≤ c ∧ c ≤ 99) := by
  unfold ltI
  split
  · subst_vars; simp
  · split
    · subst_vars; simp
    · split
      · subst_vars; simp
      · simp; omega
theorem ltI_le (c : Int) : ltI c ≤ 2 := by
  unfold ltI
  repeat' split
  all_goals omega
theorem ltI_ge (c : Int) : -1 ≤ ltI c := by
  unfold ltI
  repeat' split
  all_goals omega
theorem bt_abc0 : bt (⟨#[97, 98, 99]⟩ : ByteArray) 0 = 97 := by decide
theorem bt_abc1 : bt (⟨#[97, 98, 99]⟩ : ByteArray) 1 = 98 := by decide
theorem bt_abc2 : bt (⟨#[97, 98, 99]⟩ : ByteArray) 2 = 99 := by decide
theorem bt_XYZ0 : bt (⟨#[88, 89, 90]⟩ : ByteArray) 0 = 88 := by decide
theorem bt_XYZ1 : bt (⟨#[88, 89, 90]⟩ : ByteArray) 1 = 89 := by decide
theorem bt_XYZ2 : bt (⟨#[88, 89, 90]⟩ : ByteArray) 2 = 90 := by decide
theorem w64_a : wrap64 1 = 1 := by unfold wrap64; omega
theorem w64_b : wrap64 2 = 2 := by unfold wrap64; omega
theorem w64_c : wrap64 3 = 3 := by unfold wrap64; omega
theorem w64_1 : wrap64 (0 + 1) = 1 := by unfold wrap64; omega
theorem w64_2 : wrap64 (1 + 1) = 2 := by unfold wrap64; omega
theorem w64_3 : wrap64 (2 + 1) = 3 := by unfold wrap64; omega

theorem indexByte_nonneg (l : List UInt8) (c : UInt8) : 0 ≤ Lib.indexByte l c ↔ c ∈ l := by
  induction l with
  | nil => simp [Lib.indexByte]
  | cons b l ih =>
    unfold Lib.indexByte
    by_cases h : b = c
    · subst h; simp
    · have hb : (b == c) = false := by simpa using h
      rw [hb]
      have hge := Lib.indexByte_ge l c
      by_cases h2 : Lib.indexByte l c = -1
      · simp only [h2]
        simp
        refine ⟨fun e => h e.symm, fun hm => ?_⟩
        have := ih.2 hm
        omega
      · have h3 : (Lib.indexByte l c == -1) = false := by simpa using h2
        rw [h3]
        simp
        constructor
        · intro _; exact .inr (ih.1 (by omega))
        · rintro (e | hm)
          · exact absurd e.symm h
          · have := ih.2 hm; omega
theorem mem_data (s : ByteArray) (n : Nat) (hn : n < 256) : n.toUInt8 ∈ s.data.toList ↔ (n : Int) ∈ bytesOf s := by
  unfold bytesOf
  rw [List.mem_map]
  constructor
  · intro h
    exact ⟨_, h, by simp [Nat.mod_eq_of_lt hn]⟩
  · rintro ⟨b, hb, e⟩
    have e2 : b.toNat = n := by omega
    subst e2
    simpa using hb
theorem w64_sub {a : Int} {n : Nat} (ha : -1 ≤ a) (ha' : a ≤ 1048576) (hn : n ≤ 9223372036854775807) : wrap64 (a - (n : Int)) = a - (n : Int) := w64 (by omega) (by omega)
end Go.Proofs.Ytkefiajemifklaa.Pl

namespace Go.Proofs.Ytkefiajemifklaa.F
set_option linter.unusedVariables false
set_option linter.unusedSimpArgs false
open Go.RowKit Go.Proofs.YtkefiajemifklaaW.PrintWords Go.Proofs.Ytkefiajemifklaa.Pl Go.Proofs.Ytkefiajemifklaa.A

theorem rd_at (l : List Int) (i : Nat) (h : i < l.length) : rd l (i : Int) = l[i] := by simp [rd, h]
theorem l5Ints_ev (l l' : List Int) (hl : l.length ≤ 9223372036854775807) : Evt (fun k => spec_l5Ints.f k l l') (decide (l = l')) := by
  simp only [spec_l5Ints.f]
  by_cases he : l.length = l'.length
  · refine Evt.pos (by omega) ?_
    have h := Evt.up (fun k i => spec_l5Ints.l0 k l l' i) l.length (fun i => decide (l.drop i = l'.drop i)) ?_ ?_
    · simpa using h
    · refine Evt.step ?_
      simp only [spec_l5Ints.l0]
      refine Evt.neg (by omega) (Evt.const ?_)
      rw [List.drop_of_length_le (Nat.le_refl _), List.drop_of_length_le (by omega)]
      rfl
    · intro i hi h
      refine Evt.step ?_
      simp only [spec_l5Ints.l0]
      have hi' : i < l'.length := by omega
      refine Evt.pos (by omega) (Evt.pos (by omega) (Evt.pos (by omega) ?_))
      rw [List.drop_eq_getElem_cons hi, List.drop_eq_getElem_cons hi', w64s (by omega), rd_at l i hi, rd_at l' i hi']
      by_cases hc : l[i] = l'[i]
      · exact Evt.pos hc (h.cast (by rw [hc]; simp only [List.cons.injEq, true_and]))
      · exact Evt.neg hc (Evt.const (by rw [decide_eq_false (fun e => hc (List.cons.inj e).1)]))
  · refine Evt.neg (by omega) (Evt.const ?_)
    have : l ≠ l' := fun e => he (by rw [e])
    simp [this]
theorem slEq_ev (l l' : List Int) (hl : l.length ≤ 9223372036854775807) : Evt (fun k => slices_Equal_int_int.f k l l') (decide (l = l')) := by
  simp only [slices_Equal_int_int.f]
  by_cases he : l.length = l'.length
  · refine Evt.pos (by omega) ?_
    have h := Evt.up (fun k i => slices_Equal_int_int.l0 k l l' (l.length : Int) i) l.length (fun i => decide (l.drop i = l'.drop i)) ?_ ?_
    · simpa using h
    · refine Evt.step ?_
      simp only [slices_Equal_int_int.l0]
      refine Evt.neg (by omega) (Evt.const ?_)
      rw [List.drop_of_length_le (Nat.le_refl _), List.drop_of_length_le (by omega)]
      rfl
    · intro i hi h
      refine Evt.step ?_
      simp only [slices_Equal_int_int.l0]
      have hi' : i < l'.length := by omega
      refine Evt.pos (by omega) (Evt.pos (by omega) (Evt.pos (by omega) (Evt.pos (by omega) ?_)))
      rw [List.drop_eq_getElem_cons hi, List.drop_eq_getElem_cons hi', w64s (by omega), rd_at l i hi, rd_at l' i hi']
      by_cases hc : l[i] = l'[i]
      · exact Evt.pos hc (h.cast (by rw [hc]; simp only [List.cons.injEq, true_and]))
      · exact Evt.neg hc (Evt.const (by rw [decide_eq_false (fun e => hc (List.cons.inj e).1)]))
  · refine Evt.neg (by omega) (Evt.const ?_)
    have : l ≠ l' := fun e => he (by rw [e])
    simp [this]

end Go.Proofs.Ytkefiajemifklaa.F


namespace Go.Proofs.Ytkefiajemifklaa.F
set_option linter.unusedVariables false
set_option linter.unusedSimpArgs false
open Go.RowKit Go.Proofs.YtkefiajemifklaaW.PrintWords Go.Proofs.Ytkefiajemifklaa.Pl Go.Proofs.Ytkefiajemifklaa.A

theorem szIntS_eq (l : List Int) (a : Int) (ha : -1 ≤ a) (ha' : a ≤ 1048576) (hl : l.length ≤ 9223372036854775807) :
    ∃ t, laws_szIntS.f l a = some t ∧ (t = -1 ∨ (0 ≤ t ∧ t = a - l.length)) := by
  unfold laws_szIntS.f
  rw [w64_sub ha ha' hl]
  by_cases h1 : a - l.length < 0
  · exact ⟨-1, by rw [if_pos h1], .inl rfl⟩
  · rw [if_neg h1]; exact ⟨_, rfl, .inr ⟨by omega, rfl⟩⟩
theorem set_next (l : List Int) (i n : Nat) (hn : l.length = n) (hi : i < n) : (l.take i ++ List.replicate (n - i) 0).set i (rd l (i : Int)) = l.take (i + 1) ++ List.replicate (n - (i + 1)) 0 := by
  have hl : (l.take i).length = i := by rw [List.length_take]; omega
  have e : rd l (i : Int) = l[i] := by simp [rd, show i < l.length by omega]
  rw [List.set_append_right _ _ (by omega), hl, Nat.sub_self, show n - i = (n - (i + 1)) + 1 by omega, List.replicate_succ, List.set_cons_zero, List.take_succ_eq_append_getElem (by omega), e, List.append_assoc]
  rfl
theorem toIntS_ev (l : List Int) (hl : l.length ≤ 35184372088832) : Evt (fun k => laws_toIntS.f k l) l := by
  simp only [laws_toIntS.f]
  refine Evt.pos (by omega) (Evt.pos (by omega) ?_)
  rw [Int.toNat_natCast]
  have h : ∀ d i : Nat, i + d = l.length → Evt (fun k => laws_toIntS.l0 k l (l.take i ++ List.replicate (l.length - i) 0) (i : Int)) l := by
    intro d
    induction d with
    | zero =>
      intro i hi
      refine Evt.step ?_
      simp only [laws_toIntS.l0]
      refine Evt.neg (by omega) (Evt.const ?_)
      obtain rfl : i = l.length := by omega
      simp
    | succ d ih =>
      intro i hi
      refine Evt.step ?_
      simp only [laws_toIntS.l0]
      rw [w64s (by omega), Int.toNat_natCast, set_next l i l.length rfl (by omega)]
      exact Evt.pos (by omega) (Evt.pos (by omega) (Evt.pos (by simp; omega) (ih (i + 1) (by omega))))
  simpa using h l.length 0 (by omega)
theorem eqIntS_ev (l l' : List Int) (hl : l.length ≤ 9223372036854775807) : Evt (fun k => laws_eqIntS.f k l l') (decide (l = l')) := by
  simp only [laws_eqIntS.f]
  by_cases he : l.length = l'.length
  · refine Evt.pos (by omega) ?_
    have h := Evt.up (fun k i => laws_eqIntS.l0 k l l' i) l.length (fun i => decide (l.drop i = l'.drop i)) ?_ ?_
    · simpa using h
    · refine Evt.step ?_
      simp only [laws_eqIntS.l0]
      refine Evt.neg (by omega) (Evt.const ?_)
      rw [List.drop_of_length_le (Nat.le_refl _), List.drop_of_length_le (by omega)]
      rfl
    · intro i hi h
      refine Evt.step ?_
      simp only [laws_eqIntS.l0]
      have hi' : i < l'.length := by omega
      refine Evt.pos (by omega) (Evt.pos (by omega) (Evt.pos (by omega) ?_))
      rw [List.drop_eq_getElem_cons hi, List.drop_eq_getElem_cons hi', w64s (by omega)]
      have e1 : rd l (i : Int) = l[i] := by simp [rd, hi]
      have e2 : rd l' (i : Int) = l'[i] := by simp [rd, hi']
      rw [e1, e2]
      by_cases hc : l[i] = l'[i]
      · exact Evt.pos hc (h.cast (by rw [hc]; simp only [List.cons.injEq, true_and]))
      · exact Evt.neg hc (Evt.const (by rw [decide_eq_false (fun e => hc (List.cons.inj e).1)]))
  · refine Evt.neg (by omega) (Evt.const ?_)
    have : l ≠ l' := fun e => he (by rw [e])
    simp [this]

end Go.Proofs.Ytkefiajemifklaa.F


namespace Go.Proofs.Ytkefiajemifklaa.F
set_option linter.unusedVariables false
set_option linter.unusedSimpArgs false
open Go.RowKit Go.Proofs.YtkefiajemifklaaW.PrintWords Go.Proofs.Ytkefiajemifklaa.Pl Go.Proofs.Ytkefiajemifklaa.A

theorem szState_eq (a b : ByteArray) (l : List Int) (x : Int) (hx : 0 ≤ x) (hx' : x ≤ 1048576) (ha : a.size ≤ 9223372036854775807) (hb : b.size ≤ 9223372036854775807) (hl : l.length ≤ 9223372036854775807) :
    ∃ t, laws_szState.f a b l x = some t ∧ (t = -1 ∨ (0 ≤ t ∧ t = x - a.size - b.size - l.length)) := by
  unfold laws_szState.f
  rw [w64_sub (by omega) (by omega) ha]
  by_cases h1 : x - a.size < 0
  · exact ⟨-1, by rw [if_pos h1], .inl rfl⟩
  rw [if_neg h1, w64_sub (by omega) (by omega) hb]
  by_cases h2 : x - a.size - b.size < 0
  · exact ⟨-1, by rw [if_pos h2], .inl rfl⟩
  rw [if_neg h2]
  obtain ⟨t, ht, hc⟩ := szIntS_eq l (x - a.size - b.size) (by omega) (by omega) hl
  rw [ht]
  simp only [Option.bind_some]
  rcases hc with rfl | ⟨h0, he⟩
  · exact ⟨-1, by simp, .inl rfl⟩
  · exact ⟨t, by rw [if_neg (by omega)], .inr ⟨h0, he⟩⟩
theorem eqState_ev (a b : ByteArray) (l : List Int) (hl : l.length ≤ 9223372036854775807) : Evt (fun k => laws_eqState.f k a b l a b l) true := by
  simp only [laws_eqState.f]
  exact Evt.pos (by trivial) (Evt.pos (by trivial) (Evt.bind (eqIntS_ev l l hl) (Evt.pos (by simp) (Evt.ret _))))
theorem toState_ev (a b : ByteArray) (l : List Int) (hl : l.length ≤ 35184372088832) : Evt (fun k => laws_toState.f k a b l) (a, b, l) := by
  simp only [laws_toState.f]
  exact Evt.bind (toIntS_ev l hl) (Evt.ret _)

end Go.Proofs.Ytkefiajemifklaa.F


namespace Go.Proofs.Ytkefiajemifklaa.Pure
set_option linter.unusedVariables false
set_option linter.unusedSimpArgs false
open Go Go.RowKit Go.Proofs.YtkefiajemifklaaW.PrintWords Go.Proofs.Ytkefiajemifklaa.Pl Go.Proofs.Ytkefiajemifklaa.F Go.Proofs.Ytkefiajemifklaa.A Go.Proofs.Ytkefiajemifklaa.Ext

theorem FnExactEqualState : FnExactEqualState.Pure := by
  intro a b l a' b' l' ha hb hl ha' hb' hl'
  obtain ⟨t, ht, hs⟩ := szState_eq a b l 1048576 (by omega) (by omega) ha hb hl.1
  refine Evt.get (g := fun k => laws_FnExactEqualState.f k a b l a' b' l') ?_
  simp only [laws_FnExactEqualState.f]
  refine Evt.bindc ht ?_
  by_cases h : t < 0
  · exact Evt.pos h (Evt.ret _)
  obtain ⟨t', ht', hs'⟩ := szState_eq a' b' l' t (by omega) (by omega) ha' hb' hl'.1
  refine Evt.neg h (Evt.bindc ht' ?_)
  by_cases h' : t' < 0
  · exact Evt.pos h' (Evt.ret _)
  have e1 : l.length ≤ 1048576 := by omega
  have e2 : l'.length ≤ 1048576 := by omega
  have hS : ∃ q, Evt (fun k => spec_EqualState.f k a b l a' b' l') q ∧ Evt (fun k => impl_EqualState.f k a b l a' b' l') q := by
    simp only [spec_EqualState.f, impl_EqualState.f]
    by_cases c1 : a.toList = a'.toList
    · by_cases c2 : b.toList = b'.toList
      · exact ⟨_, Evt.pos c1 (Evt.pos c2 (Evt.bind (l5Ints_ev l l' hl.1) (Evt.ret _))), Evt.pos c1 (Evt.pos c2 (Evt.bind (slEq_ev l l' hl.1) (Evt.ret _)))⟩
      · exact ⟨_, Evt.pos c1 (Evt.neg c2 (Evt.ret _)), Evt.pos c1 (Evt.neg c2 (Evt.ret _))⟩
    · exact ⟨_, Evt.neg c1 (Evt.ret _), Evt.neg c1 (Evt.ret _)⟩
  obtain ⟨q, h1, h2⟩ := hS
  have q1 := toState_ev a b l (by omega)
  have q2 := toState_ev a' b' l' (by omega)
  refine Evt.neg h' (Evt.bind q1 (Evt.bind q2 (Evt.bind h1 (Evt.bind q1 (Evt.bind q2 (Evt.bind h2 (Evt.neg (by simp) ?_)))))))
  exact Evt.bind q1 (Evt.bind (eqState_ev a b l hl.1) (Evt.pos rfl (Evt.bind q2 (Evt.bind (eqState_ev a' b' l' hl'.1) (Evt.pos rfl (Evt.ret _))))))


end Go.Proofs.Ytkefiajemifklaa.Pure


namespace Go.Proofs.Ytkefiajemifklaa.fnExactEqualState
open Go.ChangeShapes Go.WideShapes Go.ChangeAt Go.RowKit Go.Proofs.Ytkefiajemifklaa.Br Go.Proofs.YtkefiajemifklaaW.PrintWords Go.Proofs.Ytkefiajemifklaa.A
open Go.ChangeMaps (open_string shut_string)
set_option linter.unusedVariables false
theorem own : ownKnob Try.prog.godebug = none := by kernel_rfl
theorem laidOut : laidOutB Try.prog = true := by kernel_rfl
set_option maxHeartbeats 2000000 in
set_option maxRecDepth 100000 in
theorem lifted (os : Os) (started : os.Started) (H : Type) (enc : TypeId × Value → H) :
    ReturnsInHanded {} Try.checked os 4 .any (Rows.fnExactEqualStateSpec.pre6 enc Try.prog Try.f4 Rows.fnExactEqualStateRow.domain false) (Rows.fnExactEqualStateSpec.post enc Try.prog Try.f4 false true false false) := by
  refine returnsInHanded_of_change_sized (C := Try.checked) own started (by kernel_rfl) Try.func4
    (ChangeSpec.witness6 (enc := enc) (C := Try.checked) false ⟨#[], #[.agg #[.string ByteArray.empty, .string ByteArray.empty, .slice none 0 0], .agg #[.string ByteArray.empty, .string ByteArray.empty, .slice none 0 0]], []⟩ 8 (by kernel_rfl) (by kernel_rfl) (by kernel_rfl) (by kernel_rfl)) ?_
  intro W base args ds gs before hval0 hW hcnd hsz0 _
  have hval : ∀ (j : Nat) t v, Try.f4.params[j]? = some t → args[j]? = some v → Value.okWide Try.prog W .any base t v := hval0
  have hW' := hW
  obtain ⟨p, q, hA0, hV, rfl, hfz, hnd⟩ := hW
  have hA : DataW.TrodAll enc Try.prog W 0 (fun _ => true) true Try.f4.params.toList args.toList ds p := hA0
  rw [Try.params4] at hA hval
  obtain ⟨v0, vs0, d0, ds0, p0, q0, hargs, rfl, rfl, h0, r0⟩ := trodAll_cons hA
  obtain ⟨v1, vs1, d1, ds1, p1, q1, rfl, rfl, rfl, h1, r1⟩ := trodAll_cons r0
  obtain ⟨rfl, rfl, rfl⟩ := trodAll_nil r1
  obtain rfl : args = #[v0, v1] := by cases args; simp_all
  obtain ⟨rfl, rfl⟩ := trodVars_none hV
  have k0 := h0
  have lt0 : ∀ x ∈ p0, x.block < W.heap.size := by obtain ⟨m, hm⟩ := k0; exact DataW.trod_lt m _ _ _ hm
  obtain ⟨arr0, rfl, _, _⟩ : ∃ cs, v0 = .agg cs ∧ cs.size = Try.prog.cellsOf 47 ∧ Row.okWide Try.prog W .any base 47 cs := by have z := (hval 0 47 v0 rfl rfl); unfold Value.okWide at z; rw [Try.underlying47] at z; exact z
  obtain ⟨fuel0, hf0⟩ := h0
  obtain ⟨x0, hK0, hw0⟩ := (show ∀ n, BrN Try.prog n 47 _ _ from fun n => (br_struct' Try.underlying47 (show Try.prog.cellsOf 47 = 3 by kernel_rfl) (fun n => (bf_cons rfl (show Try.prog.cellsOf 9 = 1 by kernel_rfl) (br_string Try.underlying9 n) (bf_cons rfl (show Try.prog.cellsOf 9 = 1 by kernel_rfl) (br_string Try.underlying9 n) (bf_one rfl (show Try.prog.cellsOf 29 = 1 by kernel_rfl) (br_slice' Try.underlying29 (show Try.prog.cellsOf 3 = 1 by kernel_rfl) (fun n => (br_int Try.underlying3 n)) n)) (of_decide_eq_true (by kernel_rfl))) (of_decide_eq_true (by kernel_rfl)))) n)) fuel0 H enc W 0 (fun _ => true) true fuel0 _ _ (Nat.le_refl _) hf0
  obtain ⟨a0_0, ⟨a0_1, l0_2⟩⟩ := x0
  replace hw0 := hw0
  obtain ⟨w0_0, ⟨w0_1, w0_2⟩⟩ := hw0
  obtain ⟨cs0, hcs0, hK0⟩ : ∃ cs, (Value.agg arr0).cells.toList = cs ∧ _ := ⟨_, rfl, hK0⟩
  obtain ⟨_, _, rfl, rfl, ⟨_, _, rfl, rfl, ⟨A0_2, c0_2, rfl, hc0_2, hr0_2⟩⟩⟩ := hK0
  obtain rfl : arr0 = #[.string a0_0, .string a0_1, .slice A0_2 l0_2.length c0_2] := arr_of hcs0
  have k1 := h1
  have lt1 : ∀ x ∈ p1, x.block < W.heap.size := by obtain ⟨m, hm⟩ := k1; exact DataW.trod_lt m _ _ _ hm
  obtain ⟨arr1, rfl, _, _⟩ : ∃ cs, v1 = .agg cs ∧ cs.size = Try.prog.cellsOf 47 ∧ Row.okWide Try.prog W .any base 47 cs := by have z := (hval 1 47 v1 rfl rfl); unfold Value.okWide at z; rw [Try.underlying47] at z; exact z
  obtain ⟨fuel1, hf1⟩ := h1
  obtain ⟨x1, hK1, hw1⟩ := (show ∀ n, BrN Try.prog n 47 _ _ from fun n => (br_struct' Try.underlying47 (show Try.prog.cellsOf 47 = 3 by kernel_rfl) (fun n => (bf_cons rfl (show Try.prog.cellsOf 9 = 1 by kernel_rfl) (br_string Try.underlying9 n) (bf_cons rfl (show Try.prog.cellsOf 9 = 1 by kernel_rfl) (br_string Try.underlying9 n) (bf_one rfl (show Try.prog.cellsOf 29 = 1 by kernel_rfl) (br_slice' Try.underlying29 (show Try.prog.cellsOf 3 = 1 by kernel_rfl) (fun n => (br_int Try.underlying3 n)) n)) (of_decide_eq_true (by kernel_rfl))) (of_decide_eq_true (by kernel_rfl)))) n)) fuel1 H enc W 0 (fun _ => true) true fuel1 _ _ (Nat.le_refl _) hf1
  obtain ⟨a1_0, ⟨a1_1, l1_2⟩⟩ := x1
  replace hw1 := hw1
  obtain ⟨w1_0, ⟨w1_1, w1_2⟩⟩ := hw1
  obtain ⟨cs1, hcs1, hK1⟩ : ∃ cs, (Value.agg arr1).cells.toList = cs ∧ _ := ⟨_, rfl, hK1⟩
  obtain ⟨_, _, rfl, rfl, ⟨_, _, rfl, rfl, ⟨A1_2, c1_2, rfl, hc1_2, hr1_2⟩⟩⟩ := hK1
  obtain rfl : arr1 = #[.string a1_0, .string a1_1, .slice A1_2 l1_2.length c1_2] := arr_of hcs1
  clear hA0 hval0 hsz0
  obtain ⟨k, hp⟩ := Pure.FnExactEqualState a0_0 a0_1 l0_2 a1_0 a1_1 l1_2 w0_0 w0_1 w0_2 w1_0 w1_1 w1_2
  refine (laws_FnExactEqualState.calls k a0_0 a0_1 _ _ l0_2 a1_0 a1_1 _ _ l1_2 true W hr0_2 hc0_2 hr1_2 hc1_2 hp).mono fun e W' ⟨he, bel0⟩ => ?_
  subst he
  have bel : Below W.heap.size W W' := bel0
  exact ⟨_, rfl, _, _, _, [], _, [], hW', trodAll_mk1 (shut_bool Try.underlying4 _), (trodAll_cons_mk (Below.trod laidOut (by kernel_rfl) (of_decide_eq_true (by kernel_rfl)) k0 bel lt0) (trodAll_cons_mk (Below.trod laidOut (by kernel_rfl) (of_decide_eq_true (by kernel_rfl)) k1 bel lt1) trodAll_mk0)), rfl, bel.frame _, fun h => by cases h⟩
theorem over : Rows.fnExactEqualStateRow.holds Try.pinned (OpenSpec.ofChange Rows.fnExactEqualStateSpec) :=
  OpenClaim.holds_of_wide 4 Try.f4 rfl rfl rfl rfl rfl rfl rfl ⟨rfl, rfl, rfl, rfl, rfl⟩ rfl rfl rfl rfl rfl (by kernel_rfl) Try.func4 (by kernel_rfl)
    (of_decide_eq_true (by kernel_rfl)) (by unfold Func.isWrapper; first | (rw [if_pos (by decide +kernel)]; kernel_rfl) | (rw [if_neg (by decide +kernel)]; exact ⟨rfl, rfl⟩))
    (fun os started H enc _ => lifted os started H enc)
theorem proved : Rows.FnExactEqualStateSaid := over
#print axioms proved
end Go.Proofs.Ytkefiajemifklaa.fnExactEqualState
namespace Go.Proofs.Ytkefiajemifklaa
/-- The row, under a short name, for the claim. -/
theorem fnExactEqualState_holds : Rows.FnExactEqualStateSaid := fnExactEqualState.proved
end Go.Proofs.Ytkefiajemifklaa
