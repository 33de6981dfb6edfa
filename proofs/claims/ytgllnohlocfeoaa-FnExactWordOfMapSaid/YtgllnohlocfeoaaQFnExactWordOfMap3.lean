/- FnExactWordOfMap: what its proof needs, put together by this session's program wip/merge.py out of the texts that wip/xp.py printed and of this session's own. -/
import Derived.Test.YtgllnohlocfeoaaQFnExactWordOfMap2
import Derived.ChangeArms
import Derived.ChangeReads
import Derived.DataReads
import Derived.DataElems
import Derived.Lib.Strings
import Derived.Lib.Bytealg
import Derived.Test.YtgllnohlocfeoaaRows
import Derived.WalkKit
import Derived.ProofKit
import Derived.OpenShut
import Derived.ShutString
import Derived.ChangeOld
import Derived.Below
import Derived.SizedLaws
import Derived.Lib.SmallJoins
namespace Go.Proofs.Ytgllnohlocfeoaa.Br
set_option linter.unusedVariables false
set_option linter.unusedSimpArgs false
open Go Go.Proofs.YtgllnohlocfeoaaW.PrintWords

/-- Whatever reads at type t, with at most n of fuel, is of kind d and well formed. -/
def BrN (P : Program) (n : Nat) (t : TypeId) {α : Type} (d : Kd α) (wf : α → Prop) : Prop :=
  ∀ (H : Type) (enc : TypeId × Value → H) (w : World) (base : Nat) (spare : Nat → Bool) (held : Bool) (m : Nat) (cs : List Value) (x : DataW H × List MemPlace),
    m ≤ n → DataW.trod enc P w base spare held m t cs = some x → ∃ a, d.K w a cs ∧ wf a
def Br (P : Program) (t : TypeId) {α : Type} (d : Kd α) (wf : α → Prop) : Prop := ∀ n, BrN P n t d wf

/-- The same of the fields of a struct, from offset o on. -/
def BF (P : Program) (n : Nat) (fs : List Field) (o : Nat) {α : Type} (d : Kd α) (wf : α → Prop) : Prop :=
  ∀ (H : Type) (enc : TypeId × Value → H) (w : World) (base : Nat) (spare : Nat → Bool) (held : Bool) (m : Nat) (cs : List Value) (xs : List (DataW H × List MemPlace)),
    m ≤ n → cs.length = d.sz → xs.length = fs.length →
    (∀ (i : Nat) (f : Field), fs[i]? = some f → DataW.trod enc P w base spare held m f.type ((cs.drop (f.offset - o)).take (P.cellsOf f.type)) = xs[i]?) → ∃ a, d.K w a cs ∧ wf a

theorem BrN.mono {P : Program} {n m : Nat} {t : TypeId} {α : Type} {d : Kd α} {wf : α → Prop} (h : BrN P n t d wf) (hm : m ≤ n) : BrN P m t d wf :=
  fun H enc w base spare held k cs x hk => h H enc w base spare held k cs x (Nat.le_trans hk hm)
theorem BrN.imp {P : Program} {n : Nat} {t : TypeId} {α : Type} {d : Kd α} {wf wf' : α → Prop} (h : BrN P n t d wf) (hi : ∀ a, wf a → wf' a) : BrN P n t d wf' :=
  fun H enc w base spare held k cs x hk hx => by
    obtain ⟨a, h1, h2⟩ := h H enc w base spare held k cs x hk hx
    exact ⟨a, h1, hi a h2⟩
theorem BrN.zero (P : Program) (t : TypeId) {α : Type} (d : Kd α) (wf : α → Prop) : BrN P 0 t d wf := by
  intro H enc w base spare held m cs x hm hx
  obtain rfl : m = 0 := by omega
  simp [DataW.trod] at hx

theorem br_int {P : Program} {t : TypeId} {k : IntKind} (ht : P.underlying t = some (.int k)) (n : Nat) : BrN P n t (Kd.int k) (fun a => (Lit.int k a).wf = true) := by
  intro H enc w base spare held m cs x _ hx
  obtain ⟨a, rfl, _, hw⟩ := DataW.trod_int ht hx
  exact ⟨a, rfl, hw⟩
theorem list_of_all {α : Type} {Q : Nat → α → Prop} (n : Nat) (h : ∀ i, i < n → ∃ a, Q i a) : ∃ l : List α, l.length = n ∧ ∀ i a, l[i]? = some a → Q i a := by
  induction n with
  | zero => exact ⟨[], rfl, fun i a h => by simp at h⟩
  | succ n ih =>
    obtain ⟨l, hl, hq⟩ := ih (fun i hi => h i (by omega))
    obtain ⟨a, ha⟩ := h n (by omega)
    refine ⟨l ++ [a], by simp [hl], fun i b hb => ?_⟩
    rcases Nat.lt_or_ge i l.length with hi | hi
    · rw [List.getElem?_append_left hi] at hb
      exact hq i b hb
    · rw [List.getElem?_append_right hi] at hb
      obtain ⟨h0, rfl⟩ : i - l.length = 0 ∧ a = b := by
        rcases Nat.eq_zero_or_pos (i - l.length) with h0 | h0
        · rw [h0] at hb; exact ⟨h0, by simpa using hb⟩
        · rw [List.getElem?_eq_none (by simp; omega)] at hb; simp at hb
      obtain rfl : i = n := by omega
      exact ha

theorem cells_at {w : World} {base : Nat} {a : Addr} {n : Nat} {cs : List Value} (h : w.cells? base a n = some cs) : cs.length = n ∧ ∀ i u, cs[i]? = some u → w.cell? (a.add i) = some u := by
  unfold World.cells? at h
  split at h
  · have hl := mapM_some_length h
    refine ⟨by simpa using hl, fun i u hu => ?_⟩
    have hi : i < n := by
      have := (List.getElem?_eq_some_iff.1 hu).1
      simp at hl
      omega
    have := mapM_some_get h i i (by simp [hi])
    rw [this, hu]
  · simp at h

theorem br_slice {P : Program} {t e : TypeId} {α : Type} {d : Kd α} {wf : α → Prop} {n : Nat} (ht : P.underlying t = some (.slice e)) (hs : P.cellsOf e = d.sz) (h : BrN P n e d wf) :
    BrN P (n + 1) t (Kd.slice e d) (fun l => l.length ≤ 9223372036854775807 ∧ ∀ a ∈ l, wf a) := by
  intro H enc w base spare held m cs x hm hx
  rcases DataW.trod_slice ht hx with ⟨rfl, _⟩ | ⟨a, len, cap, elems, rest, k, rfl, rfl, _, _, hl, hc, he, hg, _, _⟩
  · exact ⟨[], ⟨none, 0, rfl, Nat.le_refl _, Kd.C_nil d w⟩, by simp, by simp⟩
  · have hq : ∀ i, i < len → ∃ b, (∃ c, c.length = d.sz ∧ d.K w b c ∧ ∀ j u, c[j]? = some u → w.cell? (a.add (i * d.sz + j)) = some u) ∧ wf b := by
      intro i hi
      have g := hg i hi
      rw [List.getElem?_eq_getElem (by omega)] at g
      obtain ⟨c, hc1, hc2⟩ := Option.bind_eq_some_iff.1 g
      obtain ⟨b, hb, hw⟩ := h H enc w base spare held k c _ (by omega) hc2
      obtain ⟨h1, h2⟩ := cells_at hc1
      refine ⟨b, ⟨c, by rw [h1, hs], hb, fun j u hu => ?_⟩, hw⟩
      have := h2 j u hu
      rw [Addr.add_add, hs] at this
      exact this
    obtain ⟨l, hl1, hl2⟩ := list_of_all len hq
    have hlen : len ≤ 9223372036854775807 := by simp only [maxLen] at hc; omega
    refine ⟨l, ⟨some a, cap, by rw [hl1], by omega, rfl, by omega, fun _ => ⟨a, rfl, fun j p hp => (hl2 j p hp).1⟩⟩, by omega, fun b hb => ?_⟩
    obtain ⟨i, hi, rfl⟩ := List.mem_iff_getElem.1 hb
    exact (hl2 i _ (List.getElem?_eq_getElem hi)).2
theorem br_slice' {P : Program} {t e : TypeId} {α : Type} {d : Kd α} {wf : α → Prop} (ht : P.underlying t = some (.slice e)) (hs : P.cellsOf e = d.sz) (h : ∀ n, BrN P n e d wf) (n : Nat) :
    BrN P n t (Kd.slice e d) (fun l => l.length ≤ 9223372036854775807 ∧ ∀ a ∈ l, wf a) := (br_slice ht hs (h n)).mono (Nat.le_succ n)

theorem bf_one {P : Program} {n o : Nat} {f : Field} {α : Type} {d : Kd α} {wf : α → Prop} (ho : f.offset = o) (hs : P.cellsOf f.type = d.sz) (h : BrN P n f.type d wf) : BF P n [f] o d wf := by
  intro H enc w base spare held m cs xs hm hl hx hf
  have g := hf 0 f rfl
  rw [ho, Nat.sub_self, List.drop_zero, hs, ← hl, List.take_length, List.getElem?_eq_getElem (by simp at hx; omega)] at g
  exact h H enc w base spare held m cs _ hm g
theorem bf_cons {P : Program} {n o : Nat} {f : Field} {fs : List Field} {α β : Type} {d : Kd α} {d' : Kd β} {wf : α → Prop} {wf' : β → Prop} (ho : f.offset = o) (hs : P.cellsOf f.type = d.sz) (h : BrN P n f.type d wf)
    (hfs : BF P n fs (o + d.sz) d' wf') (hle : ∀ g ∈ fs, o + d.sz ≤ g.offset) : BF P n (f :: fs) o (Kd.pair d d') (fun x => wf x.1 ∧ wf' x.2) := by
  intro H enc w base spare held m cs xs hm hl hx hf
  have hl' : cs.length = d.sz + d'.sz := hl
  have g := hf 0 f rfl
  rw [ho, Nat.sub_self, List.drop_zero, hs, List.getElem?_eq_getElem (by simp at hx; omega)] at g
  obtain ⟨a, ha, hwa⟩ := h H enc w base spare held m _ _ hm g
  cases xs with
  | nil => simp at hx
  | cons y ys =>
    obtain ⟨b, hb, hwb⟩ := hfs H enc w base spare held m (cs.drop d.sz) ys hm (by rw [List.length_drop]; omega) (by simpa using hx) (fun i q hq => by
      have g2 := hf (i + 1) q (by simpa using hq)
      have hm : q ∈ fs := List.mem_of_getElem? hq
      have := hle q hm
      rw [List.drop_drop, show d.sz + (q.offset - (o + d.sz)) = q.offset - o by omega]
      simpa using g2)
    exact ⟨(a, b), ⟨cs.take d.sz, cs.drop d.sz, (List.take_append_drop _ _).symm, ha, hb⟩, hwa, hwb⟩
theorem br_struct {P : Program} {t : TypeId} {fs : Array Field} {α : Type} {d : Kd α} {wf : α → Prop} {n : Nat} (ht : P.underlying t = some (.struct fs)) (hs : P.cellsOf t = d.sz) (h : BF P n fs.toList 0 d wf) : BrN P (n + 1) t d wf := by
  intro H enc w base spare held m cs x hm hx
  obtain ⟨xs, k, rfl, _, hl, hxs, hf⟩ := DataW.trod_struct ht hx
  exact h H enc w base spare held k cs xs (by omega) (by rw [hl, hs]) (by simpa using hxs) (fun i f hi => by simpa using hf i f (by simpa using hi))
theorem br_struct' {P : Program} {t : TypeId} {fs : Array Field} {α : Type} {d : Kd α} {wf : α → Prop} (ht : P.underlying t = some (.struct fs)) (hs : P.cellsOf t = d.sz) (h : ∀ n, BF P n fs.toList 0 d wf) (n : Nat) : BrN P n t d wf :=
  (br_struct ht hs (h n)).mono (Nat.le_succ n)
theorem arr_of {xs : Array Value} {l : List Value} (h : xs.toList = l) : xs = l.toArray := by rw [← h]

end Go.Proofs.Ytgllnohlocfeoaa.Br


namespace Go.Proofs.Ytgllnohlocfeoaa.Pure
open Go Go.RowKit Go.Proofs.Ytgllnohlocfeoaa.Br Go.Proofs.YtgllnohlocfeoaaW.PrintWords Go.Proofs.YtgllnohlocfeoaaW.PrintLast Go.Proofs.Ytgllnohlocfeoaa.A Go.Proofs.Ytgllnohlocfeoaa.Ext
set_option linter.unusedVariables false
def FnExactWordOfMap.Pure : Prop := ∀ (l0_0 : (List (List Int))) (l0_1 : (List Int)) (l0_2 : (List (List Int))) (a1 : Int), ((l0_0 : (List (List Int))).length ≤ 9223372036854775807 ∧ ∀ a ∈ l0_0, (a : (List Int)).length ≤ 9223372036854775807 ∧ ∀ b ∈ a, (Lit.int .i64 b).wf = true) → ((l0_1 : (List Int)).length ≤ 9223372036854775807 ∧ ∀ a ∈ l0_1, (Lit.int .i64 a).wf = true) → ((l0_2 : (List (List Int))).length ≤ 9223372036854775807 ∧ ∀ a ∈ l0_2, (a : (List Int)).length ≤ 9223372036854775807 ∧ ∀ b ∈ a, (Lit.int .i64 b).wf = true) → ((Lit.int .i64 a1).wf = true) → ∃ k, laws_FnExactWordOfMap.f k l0_0 l0_1 l0_2 a1 = some true
end Go.Proofs.Ytgllnohlocfeoaa.Pure

namespace Go.Proofs.Ytgllnohlocfeoaa.Pl
set_option linter.unusedVariables false
set_option linter.unusedSimpArgs false
open Go.RowKit Go.Proofs.YtgllnohlocfeoaaW.PrintWords

/-- From some number of rounds on, it answers r. -/
def Evt {α : Type} (g : Nat → Option α) (r : α) : Prop := ∃ K, ∀ k, K ≤ k → g k = some r
section
variable {α β : Type}
theorem Evt.const {g : Option α} {r : α} (h : g = some r) : Evt (fun _ => g) r := ⟨0, fun _ _ => h⟩
theorem Evt.ret (r : α) : Evt (fun _ => some r) r := Evt.const rfl
theorem Evt.bind {g : Nat → Option α} {f : Nat → α → Option β} {a : α} {r : β} (hg : Evt g a) (hf : Evt (fun k => f k a) r) : Evt (fun k => (g k).bind (f k)) r := by
  obtain ⟨K, hK⟩ := hg
  obtain ⟨L, hL⟩ := hf
  exact ⟨max K L, fun k hk => by show (g k).bind (f k) = some r; rw [hK k (by omega)]; exact hL k (by omega)⟩
theorem Evt.bindc {g : Option α} {f : Nat → α → Option β} {a : α} {r : β} (hg : g = some a) (hf : Evt (fun k => f k a) r) : Evt (fun k => g.bind (f k)) r := Evt.bind (Evt.const hg) hf
theorem Evt.step {g : Nat → Option α} {r : α} (h : Evt (fun k => g (k + 1)) r) : Evt g r := by
  obtain ⟨K, hK⟩ := h
  exact ⟨K + 1, fun k hk => by
    obtain ⟨m, rfl⟩ : ∃ m, k = m + 1 := ⟨k - 1, by omega⟩
    exact hK m (by omega)⟩
theorem Evt.pos {c : Prop} [Decidable c] {t e : Nat → Option α} {r : α} (h : c) (ht : Evt t r) : Evt (fun k => if c then t k else e k) r := by
  obtain ⟨K, hK⟩ := ht
  exact ⟨K, fun k hk => (if_pos h).trans (hK k hk)⟩
theorem Evt.neg {c : Prop} [Decidable c] {t e : Nat → Option α} {r : α} (h : ¬ c) (ht : Evt e r) : Evt (fun k => if c then t k else e k) r := by
  obtain ⟨K, hK⟩ := ht
  exact ⟨K, fun k hk => (if_neg h).trans (hK k hk)⟩
theorem Evt.ite {c : Prop} [Decidable c] {t e : Nat → Option α} {x y : α} (ht : c → Evt t x) (he : ¬ c → Evt e y) : Evt (fun k => if c then t k else e k) (if c then x else y) := by
  by_cases h : c
  · rw [if_pos h]; exact Evt.pos h (ht h)
  · rw [if_neg h]; exact Evt.neg h (he h)
theorem Evt.get {g : Nat → Option α} {r : α} (h : Evt g r) : ∃ k, g k = some r := by
  obtain ⟨K, hK⟩ := h
  exact ⟨K, hK K (Nat.le_refl _)⟩
theorem Evt.of_eq {g g' : Nat → Option α} {r : α} (h : ∀ k, g k = g' k) (h' : Evt g' r) : Evt g r := by
  obtain ⟨K, hK⟩ := h'
  exact ⟨K, fun k hk => by rw [h]; exact hK k hk⟩
theorem Evt.cast {g : Nat → Option α} {r r' : α} (h : Evt g r) (e : r = r') : Evt g r' := e ▸ h
/-- A loop that counts up from 0 to n: what it answers at i is R i. -/
theorem Evt.up (l : Nat → Int → Option α) (n : Nat) (R : Nat → α) (hend : Evt (fun k => l k (n : Int)) (R n))
    (hstep : ∀ i : Nat, i < n → Evt (fun k => l k ((i + 1 : Nat) : Int)) (R (i + 1)) → Evt (fun k => l k (i : Int)) (R i)) : Evt (fun k => l k 0) (R 0) := by
  have h : ∀ d i : Nat, i + d = n → Evt (fun k => l k (i : Int)) (R i) := by
    intro d
    induction d with
    | zero => intro i hi; obtain rfl : i = n := by omega
              exact hend
    | succ d ih => intro i hi; exact hstep i (by omega) (ih (i + 1) (by omega))
  exact h n 0 (by omega)
end

theorem w64 {x : Int} (h : -9223372036854775808 ≤ x) (h' : x ≤ 9223372036854775807) : wrap64 x = x := by unfold wrap64; omega
/-- The counter's next value. -/
theorem w64s {i : Nat} (h : i < 9223372036854775807) : wrap64 ((i : Int) + 1) = ((i + 1 : Nat) : Int) := by
  rw [w64 (by omega) (by omega)]; omega

theorem bt0 (s : ByteArray) (i : Int) : 0 ≤ bt s i := (bt_range s i).1
theorem bt255 (s : ByteArray) (i : Int) : bt s i ≤ 255 := (bt_range s i).2
theorem bt_get (s : ByteArray) (i : Nat) (h : i < (bytesOf s).length) : bt s (i : Int) = (bytesOf s)[i] := by
  rw [← rd_bytesOf]
  simp [rd, h]
theorem bytesOf_inj {s t : ByteArray} (h : bytesOf s = bytesOf t) : s = t := by
  have h1 : s.data.toList = t.data.toList := by
    refine List.map_inj_right (f := fun b : UInt8 => (b.toNat : Int)) (fun x y hxy => ?_) |>.1 h
    exact UInt8.toNat_inj.1 (Int.ofNat_inj.1 hxy)
  cases s; cases t
  simp only [ByteArray.mk.injEq]
  exact Array.toList_inj.1 h1
theorem toList_eq_iff (s t : ByteArray) : s.toList = t.toList ↔ s = t := by
  rw [Lib.toList_data, Lib.toList_data]
  constructor
  · intro h
    cases s; cases t
    simp only [ByteArray.mk.injEq]
    exact Array.toList_inj.1 h
  · rintro rfl; rfl
theorem toList_nil_iff (s : ByteArray) : s.toList = ([] : List UInt8) ↔ s.size = 0 := by
  rw [Lib.toList_data, ← data_length, List.length_eq_zero_iff]
theorem mem_bytes (s : ByteArray) {c : Int} (h : c ∈ bytesOf s) : 0 ≤ c ∧ c ≤ 255 := by
  unfold bytesOf at h
  obtain ⟨b, _, rfl⟩ := List.mem_map.1 h
  have := b.toNat_lt
  omega
theorem bytesOf_append (s t : ByteArray) : bytesOf (s ++ t) = bytesOf s ++ bytesOf t := by
  simp [bytesOf, ByteArray.data_append]
theorem bytesOf_extract (s : ByteArray) (a b : Nat) : bytesOf (s.extract a b) = ((bytesOf s).drop a).take (b - a) := by
  have h := Lib.extract_toList s a b
  rw [Lib.toList_data] at h
  unfold bytesOf
  rw [h, List.map_take, List.map_drop]
theorem bytesOf_tail (s : ByteArray) (a : Nat) : bytesOf (s.extract a s.size) = (bytesOf s).drop a := by
  rw [bytesOf_extract, List.take_of_length_le]
  rw [List.length_drop, bytesOf_length]
  exact Nat.le_refl _

/-- A letter's number. -/
def ltI (c : Int) : Int := if 97 = c then 0 else if 98 = c then 1 else if 99 = c then 2 else -1
def varI (c : Int) : Int := if 88 = c then 0 else if 89 = c then 1 else if 90 = c then 2 else -1
def isVr (c : Int) : Bool := decide (88 ≤ c ∧ c ≤ 90)
theorem ix_abc : ∀ n : Nat, n < 256 → Lib.indexByte [97, 98, 99] n.toUInt8 = ltI (n : Int) := by decide +kernel
theorem ix_XYZ : ∀ n : Nat, n < 256 → Lib.indexByte [88, 89, 90] n.toUInt8 = varI (n : Int) := by decide +kernel
theorem varI_isVar (c : Int) : decide (varI c ≥ 0) = isVr c := by
  unfold varI isVr
  split
  · subst_vars; rfl
  · split
    · subst_vars; rfl
    · split
      · subst_vars; rfl
      · simp; omega
theorem ltI_nonneg (c : Int) : 0 ≤ ltI c ↔ (97 ≤ c ∧ c ≤ 99) := by
  unfold ltI
  split
  · subst_vars; simp
  · split
    · subst_vars; simp
    · split
      · subst_vars; simp
      · simp; omega
theorem ltI_le (c : Int) : ltI c ≤ 2 := by
  unfold ltI
  repeat' split
  all_goals omega
theorem ltI_ge (c : Int) : -1 ≤ ltI c := by
  unfold ltI
  repeat' split
  all_goals omega
theorem bt_abc0 : bt (⟨#[97, 98, 99]⟩ : ByteArray) 0 = 97 := by decide
theorem bt_abc1 : bt (⟨#[97, 98, 99]⟩ : ByteArray) 1 = 98 := by decide
theorem bt_abc2 : bt (⟨#[97, 98, 99]⟩ : ByteArray) 2 = 99 := by decide
theorem bt_XYZ0 : bt (⟨#[88, 89, 90]⟩ : ByteArray) 0 = 88 := by decide
theorem bt_XYZ1 : bt (⟨#[88, 89, 90]⟩ : ByteArray) 1 = 89 := by decide
theorem bt_XYZ2 : bt (⟨#[88, 89, 90]⟩ : ByteArray) 2 = 90 := by decide
theorem w64_a : wrap64 1 = 1 := by unfold wrap64; omega
theorem w64_b : wrap64 2 = 2 := by unfold wrap64; omega
theorem w64_c : wrap64 3 = 3 := by unfold wrap64; omega
theorem w64_1 : wrap64 (0 + 1) = 1 := by unfold wrap64; omega
theorem w64_2 : wrap64 (1 + 1) = 2 := by unfold wrap64; omega
theorem w64_3 : wrap64 (2 + 1) = 3 := by unfold wrap64; omega

theorem indexByte_nonneg (l : List UInt8) (c : UInt8) : 0 ≤ Lib.indexByte l c ↔ c ∈ l := by
  induction l with
  | nil => simp [Lib.indexByte]
  | cons b l ih =>
    unfold Lib.indexByte
    by_cases h : b = c
    · subst h; simp
    · have hb : (b == c) = false := by simpa using h
      rw [hb]
      have hge := Lib.indexByte_ge l c
      by_cases h2 : Lib.indexByte l c = -1
      · simp only [h2]
        simp
        refine ⟨fun e => h e.symm, fun hm => ?_⟩
        have := ih.2 hm
        omega
      · have h3 : (Lib.indexByte l c == -1) = false := by simpa using h2
        rw [h3]
        simp
        constructor
        · intro _; exact .inr (ih.1 (by omega))
        · rintro (e | hm)
          · exact absurd e.symm h
          · have := ih.2 hm; omega
theorem mem_data (s : ByteArray) (n : Nat) (hn : n < 256) : n.toUInt8 ∈ s.data.toList ↔ (n : Int) ∈ bytesOf s := by
  unfold bytesOf
  rw [List.mem_map]
  constructor
  · intro h
    exact ⟨_, h, by simp [Nat.mod_eq_of_lt hn]⟩
  · rintro ⟨b, hb, e⟩
    have e2 : b.toNat = n := by omega
    subst e2
    simpa using hb
theorem w64_sub {a : Int} {n : Nat} (ha : -1 ≤ a) (ha' : a ≤ 1048576) (hn : n ≤ 9223372036854775807) : wrap64 (a - (n : Int)) = a - (n : Int) := w64 (by omega) (by omega)
end Go.Proofs.Ytgllnohlocfeoaa.Pl

namespace Go.Proofs.Ytgllnohlocfeoaa.F
set_option linter.unusedVariables false
set_option linter.unusedSimpArgs false
open Go.RowKit Go.Proofs.YtgllnohlocfeoaaW.PrintWords Go.Proofs.Ytgllnohlocfeoaa.Pl Go.Proofs.Ytgllnohlocfeoaa.A

theorem szIntS_eq (l : List Int) (a : Int) (ha : -1 ≤ a) (ha' : a ≤ 1048576) (hl : l.length ≤ 9223372036854775807) :
    ∃ t, laws_szIntS.f l a = some t ∧ (t = -1 ∨ (0 ≤ t ∧ t = a - l.length)) := by
  unfold laws_szIntS.f
  rw [w64_sub ha ha' hl]
  by_cases h1 : a - l.length < 0
  · exact ⟨-1, by rw [if_pos h1], .inl rfl⟩
  · rw [if_neg h1]; exact ⟨_, rfl, .inr ⟨by omega, rfl⟩⟩
theorem set_next (l : List Int) (i n : Nat) (hn : l.length = n) (hi : i < n) : (l.take i ++ List.replicate (n - i) 0).set i (rd l (i : Int)) = l.take (i + 1) ++ List.replicate (n - (i + 1)) 0 := by
  have hl : (l.take i).length = i := by rw [List.length_take]; omega
  have e : rd l (i : Int) = l[i] := by simp [rd, show i < l.length by omega]
  rw [List.set_append_right _ _ (by omega), hl, Nat.sub_self, show n - i = (n - (i + 1)) + 1 by omega, List.replicate_succ, List.set_cons_zero, List.take_succ_eq_append_getElem (by omega), e, List.append_assoc]
  rfl
theorem toIntS_ev (l : List Int) (hl : l.length ≤ 35184372088832) : Evt (fun k => laws_toIntS.f k l) l := by
  simp only [laws_toIntS.f]
  refine Evt.pos (by omega) (Evt.pos (by omega) ?_)
  rw [Int.toNat_natCast]
  have h : ∀ d i : Nat, i + d = l.length → Evt (fun k => laws_toIntS.l0 k l (l.take i ++ List.replicate (l.length - i) 0) (i : Int)) l := by
    intro d
    induction d with
    | zero =>
      intro i hi
      refine Evt.step ?_
      simp only [laws_toIntS.l0]
      refine Evt.neg (by omega) (Evt.const ?_)
      obtain rfl : i = l.length := by omega
      simp
    | succ d ih =>
      intro i hi
      refine Evt.step ?_
      simp only [laws_toIntS.l0]
      rw [w64s (by omega), Int.toNat_natCast, set_next l i l.length rfl (by omega)]
      exact Evt.pos (by omega) (Evt.pos (by omega) (Evt.pos (by simp; omega) (ih (i + 1) (by omega))))
  simpa using h l.length 0 (by omega)
theorem eqIntS_ev (l l' : List Int) (hl : l.length ≤ 9223372036854775807) : Evt (fun k => laws_eqIntS.f k l l') (decide (l = l')) := by
  simp only [laws_eqIntS.f]
  by_cases he : l.length = l'.length
  · refine Evt.pos (by omega) ?_
    have h := Evt.up (fun k i => laws_eqIntS.l0 k l l' i) l.length (fun i => decide (l.drop i = l'.drop i)) ?_ ?_
    · simpa using h
    · refine Evt.step ?_
      simp only [laws_eqIntS.l0]
      refine Evt.neg (by omega) (Evt.const ?_)
      rw [List.drop_of_length_le (Nat.le_refl _), List.drop_of_length_le (by omega)]
      rfl
    · intro i hi h
      refine Evt.step ?_
      simp only [laws_eqIntS.l0]
      have hi' : i < l'.length := by omega
      refine Evt.pos (by omega) (Evt.pos (by omega) (Evt.pos (by omega) ?_))
      rw [List.drop_eq_getElem_cons hi, List.drop_eq_getElem_cons hi', w64s (by omega)]
      have e1 : rd l (i : Int) = l[i] := by simp [rd, hi]
      have e2 : rd l' (i : Int) = l'[i] := by simp [rd, hi']
      rw [e1, e2]
      by_cases hc : l[i] = l'[i]
      · exact Evt.pos hc (h.cast (by rw [hc]; simp only [List.cons.injEq, true_and]))
      · exact Evt.neg hc (Evt.const (by rw [decide_eq_false (fun e => hc (List.cons.inj e).1)]))
  · refine Evt.neg (by omega) (Evt.const ?_)
    have : l ≠ l' := fun e => he (by rw [e])
    simp [this]

end Go.Proofs.Ytgllnohlocfeoaa.F


namespace Go.Proofs.Ytgllnohlocfeoaa.F
set_option linter.unusedVariables false
set_option linter.unusedSimpArgs false
open Go.RowKit Go.Proofs.YtgllnohlocfeoaaW.PrintWords Go.Proofs.Ytgllnohlocfeoaa.Pl Go.Proofs.Ytgllnohlocfeoaa.A

theorem rows_at (l : List (List Int)) (i : Nat) (h : i < l.length) : rd_L5 l (i : Int) = l[i] := by simp [rd_L5, h]
/-- A table that weighing lets through. -/
def RowsLe (l : List (List Int)) (b : Nat) : Prop := l.length ≤ b ∧ ∀ x ∈ l, x.length ≤ b
theorem szIntSS_ev (l : List (List Int)) (a : Int) (ha : 0 ≤ a) (ha' : a ≤ 1048576) (hl : l.length ≤ 9223372036854775807) (hw : ∀ x ∈ l, x.length ≤ 9223372036854775807) :
    ∃ t, Evt (fun k => laws_szIntSS.f k l a) t ∧ (t = -1 ∨ (0 ≤ t ∧ t ≤ a ∧ RowsLe l 1048576)) := by
  simp only [laws_szIntSS.f]
  rw [w64_sub (by omega) ha' hl]
  by_cases h1 : a - l.length < 0
  · exact ⟨-1, Evt.pos h1 (Evt.ret _), .inl rfl⟩
  have h : ∀ d i : Nat, i + d = l.length → ∀ b : Int, 0 ≤ b → b ≤ 1048576 → ∃ t, Evt (fun k => laws_szIntSS.l0 k l b (i : Int)) t ∧ (t = -1 ∨ (0 ≤ t ∧ t ≤ b ∧ ∀ x ∈ l.drop i, x.length ≤ 1048576)) := by
    intro d
    induction d with
    | zero =>
      intro i hi b hb hb'
      refine ⟨b, Evt.step ?_, .inr ⟨hb, Int.le_refl _, ?_⟩⟩
      · simp only [laws_szIntSS.l0]
        exact Evt.neg (by omega) (Evt.ret _)
      · rw [List.drop_of_length_le (by omega)]
        intro x hx
        cases hx
    | succ d ih =>
      intro i hi b hb hb'
      have hi' : i < l.length := by omega
      obtain ⟨t, ht, hc⟩ := szIntS_eq l[i] b (by omega) hb' (hw _ (List.getElem_mem hi'))
      by_cases h2 : t < 0
      · refine ⟨-1, Evt.step ?_, .inl rfl⟩
        simp only [laws_szIntSS.l0]
        rw [rows_at l i hi']
        exact Evt.pos (by omega) (Evt.pos (by omega) (Evt.bindc ht (Evt.pos h2 (Evt.ret _))))
      · have hc' : 0 ≤ t ∧ t = b - l[i].length := hc.elim (fun e => absurd (show t < 0 by omega) h2) id
        obtain ⟨t', ht', hc2⟩ := ih (i + 1) (by omega) t (by omega) (by omega)
        refine ⟨t', Evt.step ?_, ?_⟩
        · simp only [laws_szIntSS.l0]
          rw [rows_at l i hi', w64s (by omega)]
          exact Evt.pos (by omega) (Evt.pos (by omega) (Evt.bindc ht (Evt.neg h2 ht')))
        · rcases hc2 with h3 | ⟨h3, h4, h5⟩
          · exact .inl h3
          · refine .inr ⟨h3, by omega, ?_⟩
            rw [List.drop_eq_getElem_cons hi']
            intro x hx
            rcases List.mem_cons.1 hx with rfl | hx
            · omega
            · exact h5 x hx
  obtain ⟨t, ht, hc⟩ := h l.length 0 (by omega) (a - l.length) (by omega) (by omega)
  refine ⟨t, Evt.neg h1 ht, ?_⟩
  rcases hc with hc | ⟨h2, h3, h4⟩
  · exact .inl hc
  · exact .inr ⟨h2, by omega, by omega, by simpa using h4⟩
theorem set_nextR (l : List (List Int)) (i n : Nat) (hn : l.length = n) (hi : i < n) : (l.take i ++ List.replicate (n - i) []).set i l[i] = l.take (i + 1) ++ List.replicate (n - (i + 1)) [] := by
  have hl : (l.take i).length = i := by rw [List.length_take]; omega
  rw [List.set_append_right _ _ (by omega), hl, Nat.sub_self, show n - i = (n - (i + 1)) + 1 by omega, List.replicate_succ, List.set_cons_zero, List.take_succ_eq_append_getElem (by omega), List.append_assoc]
  rfl
theorem toIntSS_ev (l : List (List Int)) (hl : RowsLe l 1048576) : Evt (fun k => laws_toIntSS.f k l) l := by
  have hn := hl.1
  simp only [laws_toIntSS.f]
  refine Evt.pos (by omega) (Evt.pos (by omega) ?_)
  rw [Int.toNat_natCast]
  have h : ∀ d i : Nat, i + d = l.length → Evt (fun k => laws_toIntSS.l0 k l (l.take i ++ List.replicate (l.length - i) []) (i : Int)) l := by
    intro d
    induction d with
    | zero =>
      intro i hi
      refine Evt.step ?_
      simp only [laws_toIntSS.l0]
      refine Evt.neg (by omega) (Evt.const ?_)
      obtain rfl : i = l.length := by omega
      simp
    | succ d ih =>
      intro i hi
      have hi' : i < l.length := by omega
      have hx := hl.2 _ (List.getElem_mem hi')
      refine Evt.step ?_
      simp only [laws_toIntSS.l0]
      rw [rows_at l i hi']
      refine Evt.pos (by omega) (Evt.pos (by omega) (Evt.bind (toIntS_ev _ (by omega)) (Evt.pos (by simp; omega) ?_)))
      rw [Int.toNat_natCast, set_nextR l i l.length rfl hi', w64s (by omega)]
      exact ih (i + 1) (by omega)
  simpa using h l.length 0 (by omega)
theorem eqIntSS_ev (l l' : List (List Int)) (hl : l.length ≤ 9223372036854775807) (hw : ∀ x ∈ l, x.length ≤ 9223372036854775807) : Evt (fun k => laws_eqIntSS.f k l l') (decide (l = l')) := by
  simp only [laws_eqIntSS.f]
  by_cases he : l.length = l'.length
  · refine Evt.pos (by omega) ?_
    have h := Evt.up (fun k i => laws_eqIntSS.l0 k l l' i) l.length (fun i => decide (l.drop i = l'.drop i)) ?_ ?_
    · simpa using h
    · refine Evt.step ?_
      simp only [laws_eqIntSS.l0]
      refine Evt.neg (by omega) (Evt.const ?_)
      rw [List.drop_of_length_le (Nat.le_refl _), List.drop_of_length_le (by omega)]
      rfl
    · intro i hi h
      refine Evt.step ?_
      simp only [laws_eqIntSS.l0]
      have hi' : i < l'.length := by omega
      rw [rows_at l i hi, rows_at l' i hi']
      refine Evt.pos (by omega) (Evt.pos (by omega) (Evt.pos (by omega) (Evt.bind (eqIntS_ev _ _ (hw _ (List.getElem_mem hi))) ?_)))
      rw [List.drop_eq_getElem_cons hi, List.drop_eq_getElem_cons hi', w64s (by omega)]
      by_cases hc : l[i] = l'[i]
      · exact Evt.pos (by simp [hc]) (h.cast (by rw [hc]; simp only [List.cons.injEq, true_and]))
      · exact Evt.neg (by simp [hc]) (Evt.const (by rw [decide_eq_false (fun e => hc (List.cons.inj e).1)]))
  · refine Evt.neg (by omega) (Evt.const ?_)
    have : l ≠ l' := fun e => he (by rw [e])
    simp [this]

end Go.Proofs.Ytgllnohlocfeoaa.F


namespace Go.Proofs.Ytgllnohlocfeoaa.F
set_option linter.unusedVariables false
set_option linter.unusedSimpArgs false
open Go.RowKit Go.Proofs.YtgllnohlocfeoaaW.PrintWords Go.Proofs.Ytgllnohlocfeoaa.Pl Go.Proofs.Ytgllnohlocfeoaa.A Go.Proofs.Ytgllnohlocfeoaa.Ext

/-- Lengths that a machine can hold. -/
def RowsWf (l : List (List Int)) : Prop := l.length ≤ 9223372036854775807 ∧ ∀ x ∈ l, x.length ≤ 9223372036854775807
theorem RowsLe.wf {l : List (List Int)} (h : RowsLe l 1048576) : RowsWf l := ⟨by have := h.1; omega, fun x hx => by have := h.2 x hx; omega⟩
theorem szMonoid_ev (x : List (List Int)) (y : List Int) (z : List (List Int)) (a : Int) (ha : 0 ≤ a) (ha' : a ≤ 1048576) (hx : RowsWf x) (hy : y.length ≤ 9223372036854775807) (hz : RowsWf z) :
    ∃ t, Evt (fun k => laws_szMonoid.f k x y z a) t ∧ (t = -1 ∨ (0 ≤ t ∧ t ≤ a ∧ RowsLe x 1048576 ∧ y.length ≤ 1048576 ∧ RowsLe z 1048576)) := by
  simp only [laws_szMonoid.f]
  obtain ⟨t, ht, hc⟩ := szIntSS_ev x a ha ha' hx.1 hx.2
  rcases hc with rfl | ⟨h0, h1, h2⟩
  · exact ⟨-1, Evt.bind ht (Evt.pos (by decide) (Evt.ret _)), .inl rfl⟩
  obtain ⟨u, hu, hc⟩ := szIntS_eq y t (by omega) (by omega) hy
  rcases hc with rfl | ⟨g0, g1⟩
  · exact ⟨-1, Evt.bind ht (Evt.neg (by omega) (Evt.bindc hu (Evt.pos (by decide) (Evt.ret _)))), .inl rfl⟩
  obtain ⟨v, hv, hc⟩ := szIntSS_ev z u (by omega) (by omega) hz.1 hz.2
  rcases hc with rfl | ⟨k0, k1, k2⟩
  · exact ⟨-1, Evt.bind ht (Evt.neg (by omega) (Evt.bindc hu (Evt.neg (by omega) (Evt.bind hv (Evt.pos (by decide) (Evt.ret _)))))), .inl rfl⟩
  · exact ⟨v, Evt.bind ht (Evt.neg (by omega) (Evt.bindc hu (Evt.neg (by omega) (Evt.bind hv (Evt.neg (by omega) (Evt.ret _)))))), .inr ⟨k0, by omega, h2, by omega, k2⟩⟩
theorem toMonoid_ev (x : List (List Int)) (y : List Int) (z : List (List Int)) (hx : RowsLe x 1048576) (hy : y.length ≤ 1048576) (hz : RowsLe z 1048576) : Evt (fun k => laws_toMonoid.f k x y z) (x, y, z) := by
  simp only [laws_toMonoid.f]
  exact Evt.bind (toIntSS_ev x hx) (Evt.bind (toIntS_ev y (by omega)) (Evt.bind (toIntSS_ev z hz) (Evt.ret _)))
theorem eqMonoid_ev (x : List (List Int)) (y : List Int) (z : List (List Int)) (hx : RowsWf x) (hy : y.length ≤ 9223372036854775807) (hz : RowsWf z) : Evt (fun k => laws_eqMonoid.f k x y z x y z) true := by
  simp only [laws_eqMonoid.f]
  exact Evt.bind (eqIntSS_ev x x hx.1 hx.2) (Evt.pos (by simp) (Evt.bind (eqIntS_ev y y hy) (Evt.pos (by simp) (Evt.bind (eqIntSS_ev z z hz.1 hz.2) (Evt.pos (by simp) (Evt.ret _))))))

end Go.Proofs.Ytgllnohlocfeoaa.F


namespace Go.Proofs.Ytgllnohlocfeoaa.F
set_option linter.unusedVariables false
set_option linter.unusedSimpArgs false
open Go.RowKit Go.Proofs.YtgllnohlocfeoaaW.PrintWords Go.Proofs.Ytgllnohlocfeoaa.Pl Go.Proofs.Ytgllnohlocfeoaa.A Go.Proofs.Ytgllnohlocfeoaa.Ext

theorem l1In_eq (a : Int) (n : Nat) (hn : n ≤ 9223372036854775807) : spec_l1In.f a 0 (wrap64 ((n : Int) - 1)) = some (inR n a) := by
  rw [w64 (by omega) (by omega)]
  unfold spec_l1In.f inR
  by_cases h : a ≥ 0
  · rw [if_pos h]; simp [show 0 ≤ a from h]
  · rw [if_neg h]; simp [show ¬ 0 ≤ a from h]
theorem rdN (l : List Int) (i : Nat) (h : i < l.length) : rd l (i : Int) = l[i] := by simp [rd, h]
theorem l13Numbers_ev (l : List Int) (n : Nat) (hl : l.length ≤ 9223372036854775807) (hn : n ≤ 9223372036854775807) : Evt (fun k => spec_l13Numbers.f k l (n : Int)) (l.all (inR n)) := by
  have h := Evt.up (fun k i => spec_l13Numbers.l0 k l (n : Int) i) l.length (fun i => (l.drop i).all (inR n)) ?_ ?_
  · simpa [spec_l13Numbers.f] using h
  · refine Evt.step ?_
    simp only [spec_l13Numbers.l0]
    rw [List.drop_of_length_le (Nat.le_refl _)]
    exact Evt.neg (by omega) (Evt.ret _)
  · intro i hi h
    refine Evt.step ?_
    simp only [spec_l13Numbers.l0]
    refine Evt.pos (by omega) (Evt.pos (by omega) (Evt.bindc (l1In_eq _ n hn) ?_))
    rw [List.drop_eq_getElem_cons hi, rdN l i hi]
    cases hc : inR n l[i] with
    | true => rw [w64s (by omega)]; exact Evt.pos rfl (h.cast (by simp only [List.all_cons, hc, Bool.true_and]))
    | false => exact Evt.neg (by decide) (Evt.const (by simp only [List.all_cons, hc, Bool.false_and]))
theorem l13Good_ev (x : List (List Int)) (y : List Int) (z : List (List Int)) (hx : x.length ≤ 9223372036854775807) (hy : y.length ≤ 9223372036854775807) (hw : ∀ r ∈ z, r.length ≤ 9223372036854775807) : Evt (fun k => spec_l13Good.f k x y z) (wellB x.length y z) := by
  simp only [spec_l13Good.f]
  have hbad : ∀ n : Int, Evt (fun k => spec_l13Good.j0 k n true x y z) false := by
    intro n
    refine Evt.step ?_
    simp only [spec_l13Good.j0]
    exact Evt.pos trivial (Evt.ret _)
  by_cases c1 : x.length = 0
  · exact Evt.pos (by omega) ((hbad _).cast (by simp [wellB, c1]))
  refine Evt.neg (by omega) ?_
  by_cases c2 : y.length = 3
  · refine Evt.pos (by omega) ?_
    by_cases c3 : z.length = x.length
    · refine Evt.pos (by omega) (Evt.bind (l13Numbers_ev y x.length hy hx) ?_)
      cases c4 : y.all (inR x.length) with
      | false => exact (hbad _).cast (by simp only [wellB, c4]; simp)
      | true =>
        refine Evt.step ?_
        simp only [spec_l13Good.j0]
        refine Evt.neg (by decide) ?_
        have h := Evt.up (fun k i => spec_l13Good.l0 k (x.length : Int) i x y z) x.length (fun i => (z.drop i).all (rowOk x.length)) ?_ ?_
        · exact h.cast (by simp only [wellB, c4]; simp [c1, c2, c3])
        · refine Evt.step ?_
          simp only [spec_l13Good.l0]
          rw [List.drop_of_length_le (by omega)]
          exact Evt.neg (by omega) (Evt.ret _)
        · intro i hi h
          refine Evt.step ?_
          simp only [spec_l13Good.l0]
          have hi' : i < z.length := by omega
          rw [rows_at z i hi', List.drop_eq_getElem_cons hi']
          refine Evt.pos (by omega) (Evt.pos (by omega) (Evt.pos (by omega) ?_))
          by_cases c5 : z[i].length = x.length
          · refine Evt.pos (by omega) (Evt.bind (l13Numbers_ev z[i] x.length (hw _ (List.getElem_mem hi')) hx) ?_)
            cases c6 : z[i].all (inR x.length) with
            | true => rw [w64s (by omega)]; exact Evt.pos rfl (h.cast (by simp only [List.all_cons, rowOk, c6]; simp [c5]))
            | false => exact Evt.neg (by decide) (Evt.const (by simp only [List.all_cons, rowOk, c6]; simp))
          · exact Evt.neg (by omega) (Evt.const (by simp only [List.all_cons, rowOk]; simp [c5]))
    · exact Evt.neg (by omega) ((hbad _).cast (by simp [wellB, c3]))
  · exact Evt.neg (by omega) ((hbad _).cast (by simp [wellB, c2]))
theorem ltI_le (c : Int) : ltI c ≤ 2 := by unfold ltI; repeat' split <;> omega

end Go.Proofs.Ytgllnohlocfeoaa.F


namespace Go.Proofs.Ytgllnohlocfeoaa.F
set_option linter.unusedVariables false
set_option linter.unusedSimpArgs false
open Go Go.RowKit Go.Proofs.YtgllnohlocfeoaaW.PrintWords Go.Proofs.Ytgllnohlocfeoaa.Pl Go.Proofs.Ytgllnohlocfeoaa.A Go.Proofs.Ytgllnohlocfeoaa.Ext

theorem nodup_len (n : Nat) : ∀ l : List Int, l.Nodup → (∀ v ∈ l, 0 ≤ v ∧ v < n) → l.length ≤ n := by
  induction n with
  | zero =>
    intro l _ h
    cases l with
    | nil => exact Nat.le_refl _
    | cons v l => have := h v (by simp); omega
  | succ n ih =>
    intro l hd h
    by_cases hm : (n : Int) ∈ l
    · have h1 := ih (l.erase (n : Int)) (hd.erase _) (fun v hv => by
        have hv' := (hd.mem_erase_iff).1 hv
        have := h v hv'.2
        have hne := hv'.1
        omega)
      rw [List.length_erase_of_mem hm] at h1
      omega
    · have h1 := ih l hd (fun v hv => by
        have := h v hv
        have hne : v ≠ (n : Int) := fun e => hm (e ▸ hv)
        omega)
      omega
theorem l5Find_ev (l : List Int) (v : Int) (hl : l.length ≤ 1048577) : ∃ r, Evt (fun k => spec_l5Find.f k l v) r ∧ (r < 0 ↔ v ∉ l) := by
  have hh : ∀ d i : Nat, i + d = l.length → ∃ r, Evt (fun k => spec_l5Find.l0 k l v (i : Int)) r ∧ (r < 0 ↔ v ∉ l.drop i) := by
    intro d
    induction d with
    | zero =>
      intro i hi
      refine ⟨-1, Evt.step ?_, ?_⟩
      · simp only [spec_l5Find.l0]
        exact Evt.neg (by omega) (Evt.ret _)
      · rw [List.drop_of_length_le (by omega)]
        simp
    | succ d ih =>
      intro i hi
      have hi' : i < l.length := by omega
      have hrd : rd l (i : Int) = l[i] := by simp [rd, hi']
      obtain ⟨r, hr, hc⟩ := ih (i + 1) (by omega)
      rw [List.drop_eq_getElem_cons hi']
      by_cases he : l[i] = v
      · refine ⟨(i : Int), Evt.step ?_, ?_⟩
        · simp only [spec_l5Find.l0]
          rw [hrd]
          exact Evt.pos (by omega) (Evt.pos (by omega) (Evt.pos he (Evt.ret _)))
        · constructor
          · intro h; omega
          · intro h; exact absurd (he ▸ List.mem_cons_self ..) h
      · refine ⟨r, Evt.step ?_, ?_⟩
        · simp only [spec_l5Find.l0]
          rw [hrd, w64s (by omega)]
          exact Evt.pos (by omega) (Evt.pos (by omega) (Evt.neg he hr))
        · rw [hc]
          have he' : ¬ v = l[i] := fun e => he e.symm
          rw [List.mem_cons, not_or]
          exact ⟨fun h => ⟨he', h⟩, fun h => h.2⟩
  obtain ⟨r, hr, hc⟩ := hh l.length 0 (by omega)
  exact ⟨r, by simpa [spec_l5Find.f] using hr, by simpa using hc⟩
/-- What the search keeps. -/
def InvW (n : Nat) (xs : List Int) (ws : List ByteArray) : Prop := xs.Nodup ∧ (∀ v ∈ xs, 0 ≤ v ∧ v < n) ∧ xs.length = ws.length ∧ (∀ s ∈ ws, s.size ≤ xs.length) ∧ 0 < xs.length
theorem rdOf_mem (ws : List ByteArray) (i : Nat) (h : i < ws.length) : rdOf ByteArray.empty ws (i : Int) ∈ ws := by
  unfold rdOf
  rw [Int.toNat_natCast, List.getD_eq_getElem?_getD, List.getElem?_eq_getElem h]
  exact List.getElem_mem h
theorem letB_size (j : Nat) (h : j < 3) : (letB (j : Int)).size = 1 := by
  have : j = 0 ∨ j = 1 ∨ j = 2 := by omega
  rcases this with rfl | rfl | rfl <;> rfl
theorem word_sim (x : List (List Int)) (y : List Int) (z : List (List Int)) (a : Int) (n : Nat) (hn : n ≤ 1048576) (hy : y.length = 3) (hz : z.length = n)
    (hN : ∀ u j : Int, 0 ≤ u → u < n → 0 ≤ j → j < 3 → 0 ≤ rd y j ∧ rd y j < (z.getD u.toNat []).length ∧ 0 ≤ nextW y z u j ∧ nextW y z u j < n) (k : Nat) :
    (∀ (xs : List Int) (ws : List ByteArray) (i : Nat), InvW n xs ws → i ≤ xs.length → 5 * (n - i) + 1 ≤ k → ∃ r, fwI (fun i => i == a) (nextW y z) k xs ws (i : Int) = some r ∧ Evt (fun q => spec_WordOfMap.l0 q a xs ws (i : Int) x y z) r) ∧
    (∀ (xs : List Int) (ws : List ByteArray) (i j : Nat), InvW n xs ws → i < xs.length → j ≤ 3 → 5 * (n - i - 1) + (3 - j) + 2 ≤ k → ∃ r, fwJ (fun i => i == a) (nextW y z) k xs ws (i : Int) (j : Int) = some r ∧ Evt (fun q => spec_WordOfMap.l1 q a xs ws (i : Int) (j : Int) x y z) r) := by
  induction k with
  | zero => exact ⟨fun xs ws i _ _ h => by omega, fun xs ws i j _ _ _ h => by omega⟩
  | succ k ih =>
    obtain ⟨ihI, ihJ⟩ := ih
    constructor
    · intro xs ws i hI hi hk
      have hlen := nodup_len n xs hI.1 hI.2.1
      obtain ⟨_, hr, he, hs, h0⟩ := hI
      simp only [fwI]
      by_cases hl : (i : Int) < (xs.length : Int)
      · rw [if_pos hl]
        by_cases hg : rd xs (i : Int) = a
        · rw [if_pos (beq_iff_eq.2 hg)]
          refine ⟨_, rfl, Evt.step ?_⟩
          simp only [spec_WordOfMap.l0]
          exact Evt.pos hl (Evt.pos (by omega) (Evt.pos hg (Evt.pos (by omega) (Evt.ret _))))
        · obtain ⟨r, e1, e2⟩ := ihJ xs ws i 0 ⟨by assumption, hr, he, hs, h0⟩ (by omega) (by omega) (by omega)
          rw [if_neg (fun h => hg (beq_iff_eq.1 h))]
          refine ⟨r, e1, Evt.step ?_⟩
          simp only [spec_WordOfMap.l0]
          exact Evt.pos hl (Evt.pos (by omega) (Evt.neg hg e2))
      · rw [if_neg hl]
        refine ⟨_, rfl, Evt.step ?_⟩
        simp only [spec_WordOfMap.l0]
        exact Evt.neg hl (Evt.ret _)
    · intro xs ws i j hI hi hj hk
      have hlen := nodup_len n xs hI.1 hI.2.1
      obtain ⟨hd, hr, he, hs, h0⟩ := hI
      simp only [fwJ]
      by_cases hj3 : (j : Int) < 3
      · rw [if_pos hj3]
        have hu := hr _ (rd_mem (xs := xs) (i := (i : Int)) (by omega) (by omega))
        obtain ⟨m0, m1, m2, m3⟩ := hN (rd xs (i : Int)) (j : Int) hu.1 hu.2 (by omega) hj3
        have hv : rd (rd_L5 z (rd xs (i : Int))) (rd y (j : Int)) = nextW y z (rd xs (i : Int)) (j : Int) := rfl
        obtain ⟨f, f1, f2⟩ := l5Find_ev xs (nextW y z (rd xs (i : Int)) (j : Int)) (by omega)
        have m1' : rd y (j : Int) < ((rd_L5 z (rd xs (i : Int))).length : Int) := m1
        cases hm : decide (nextW y z (rd xs (i : Int)) (j : Int) ∈ xs) with
        | true =>
          obtain ⟨r, e1, e2⟩ := ihJ xs ws i (j + 1) ⟨hd, hr, he, hs, h0⟩ hi (by omega) (by omega)
          rw [if_pos rfl]
          refine ⟨r, e1, Evt.step ?_⟩
          simp only [spec_WordOfMap.l1]
          rw [hv, w64s (by omega)]
          exact Evt.pos hj3 (Evt.pos (by omega) (Evt.pos (by omega) (Evt.pos hu.1 (Evt.pos (by omega) (Evt.pos (by omega) (Evt.pos (by omega) (Evt.pos m0 (Evt.pos m1' (Evt.bind f1 (Evt.neg (fun h => f2.1 h (of_decide_eq_true hm)) e2))))))))))
        | false =>
          have hnm := of_decide_eq_false hm
          have hw := hs _ (rdOf_mem ws i (by omega))
          have hl1 := letB_size j (by omega)
          have hlen2 := nodup_len n (xs ++ [nextW y z (rd xs (i : Int)) (j : Int)]) (by
            rw [List.nodup_append]
            refine ⟨hd, by simp, fun p hp q hq => ?_⟩
            rw [List.mem_singleton.1 hq]
            exact fun e => hnm (e ▸ hp)) (fun v hv => by
            rcases List.mem_append.1 hv with hv | hv
            · exact hr v hv
            · rw [List.mem_singleton.1 hv]; exact ⟨m2, m3⟩)
          obtain ⟨r, e1, e2⟩ := ihJ (xs ++ [nextW y z (rd xs (i : Int)) (j : Int)]) (ws ++ [rdOf ByteArray.empty ws (i : Int) ++ letB (j : Int)]) i (j + 1) (by
            refine ⟨?_, ?_, by simp [he], ?_, by simp⟩
            · rw [List.nodup_append]
              refine ⟨hd, by simp, fun p hp q hq => ?_⟩
              rw [List.mem_singleton.1 hq]
              exact fun e => hnm (e ▸ hp)
            · intro v hv
              rcases List.mem_append.1 hv with hv | hv
              · exact hr v hv
              · rw [List.mem_singleton.1 hv]; exact ⟨m2, m3⟩
            · intro s hs'
              rw [List.length_append, List.length_singleton]
              rcases List.mem_append.1 hs' with hs' | hs'
              · have := hs s hs'; omega
              · rw [List.mem_singleton.1 hs', ByteArray.size_append, hl1]; omega) (by simp; omega) (by omega) (by omega)
          rw [if_neg (by decide), if_pos ⟨by omega, by omega⟩]
          refine ⟨r, e1, Evt.step ?_⟩
          simp only [spec_WordOfMap.l1]
          rw [hv, w64s (by omega)]
          have hl2 : (⟨#[97, 98, 99]⟩ : ByteArray).extract ((j : Nat) : Int).toNat ((j + 1 : Nat) : Int).toNat = letB (j : Int) := rfl
          rw [hl2]
          exact Evt.pos hj3 (Evt.pos (by omega) (Evt.pos (by omega) (Evt.pos hu.1 (Evt.pos (by omega) (Evt.pos (by omega) (Evt.pos (by omega) (Evt.pos m0 (Evt.pos m1' (Evt.bind f1 (Evt.pos (f2.2 hnm) (Evt.pos (by omega) (Evt.pos (by omega) (Evt.pos (by omega) (Evt.pos (by omega) (Evt.pos (by rw [hl1]; omega) (Evt.pos (by omega) e2))))))))))))))))
      · rw [if_neg hj3]
        obtain ⟨r, e1, e2⟩ := ihI xs ws (i + 1) ⟨hd, hr, he, hs, h0⟩ (by omega) (by omega)
        refine ⟨r, e1, Evt.step ?_⟩
        simp only [spec_WordOfMap.l1]
        rw [w64s (i := i) (by omega)]
        exact Evt.neg hj3 e2
theorem WordOfMap_ev (x : List (List Int)) (y : List Int) (z : List (List Int)) (a : Int) (hx : x.length ≤ 1048576) (hy : y.length ≤ 9223372036854775807) (hz : ∀ r ∈ z, r.length ≤ 9223372036854775807) :
    ∃ r, Evt (fun k => spec_WordOfMap.f k x y z a) r ∧ impl_WordOfMap.f x y z a = some r := by
  simp only [spec_WordOfMap.f]
  unfold impl_WordOfMap.f
  have hg := l13Good_ev x y z (by omega) hy hz
  cases hw : wellB x.length y z with
  | false =>
    rw [hw] at hg
    exact ⟨_, Evt.bind hg (Evt.neg (by decide) (Evt.ret _)), by rw [if_neg (by decide)]⟩
  | true =>
    rw [hw] at hg
    obtain ⟨n0, n1, n2, n3⟩ := well_next hw
    obtain ⟨r, e1, e2⟩ := (word_sim x y z a x.length hx n2 n1 n3 (5 * x.length + 10)).1 [0] [(⟨#[]⟩ : ByteArray)] 0 ⟨by simp, by intro v hv; rw [List.mem_singleton.1 hv]; omega, rfl, by intro s hs; rw [List.mem_singleton.1 hs]; exact Nat.zero_le _, by simp⟩ (by simp) (by omega)
    exact ⟨r, Evt.bind hg (Evt.pos rfl e2), by rw [if_pos rfl, if_pos (by omega)]; exact e1⟩

end Go.Proofs.Ytgllnohlocfeoaa.F


namespace Go.Proofs.Ytgllnohlocfeoaa.Pure
set_option linter.unusedVariables false
set_option linter.unusedSimpArgs false
open Go Go.RowKit Go.Proofs.YtgllnohlocfeoaaW.PrintWords Go.Proofs.Ytgllnohlocfeoaa.Pl Go.Proofs.Ytgllnohlocfeoaa.F Go.Proofs.Ytgllnohlocfeoaa.A Go.Proofs.Ytgllnohlocfeoaa.Ext

theorem FnExactWordOfMap : FnExactWordOfMap.Pure := by
  intro x y z a hx hy hz ha
  have X : RowsWf x := ⟨hx.1, fun a h => (hx.2 a h).1⟩
  have Z : RowsWf z := ⟨hz.1, fun a h => (hz.2 a h).1⟩
  refine Evt.get (g := fun k => laws_FnExactWordOfMap.f k x y z a) ?_
  simp only [laws_FnExactWordOfMap.f]
  obtain ⟨t, ht, hs'⟩ := szMonoid_ev x y z 1048576 (by omega) (by omega) X hy.1 Z
  rcases hs' with rfl | ⟨h0, h1, h2, h3, h4⟩
  · exact Evt.bind ht (Evt.pos (by decide) (Evt.ret _))
  obtain ⟨r, e1, e2⟩ := WordOfMap_ev x y z a h2.1 hy.1 Z.2
  have q1 := toMonoid_ev x y z h2 h3 h4
  refine Evt.bind ht (Evt.neg (by omega) (Evt.bind q1 (Evt.bind e1 (Evt.bind q1 (Evt.bindc e2 (Evt.pos rfl ?_))))))
  have e : (r.2 != r.2) = false := by simp
  simp only [e]
  refine Evt.step ?_
  simp only [laws_FnExactWordOfMap.j0]
  exact Evt.neg (by decide) (Evt.bind q1 (Evt.bind (eqMonoid_ev x y z X hy.1 Z) (Evt.pos rfl (Evt.ret _))))

end Go.Proofs.Ytgllnohlocfeoaa.Pure


namespace Go.Proofs.Ytgllnohlocfeoaa.fnExactWordOfMap
open Go.ChangeShapes Go.WideShapes Go.ChangeAt Go.RowKit Go.Proofs.Ytgllnohlocfeoaa.Br Go.Proofs.YtgllnohlocfeoaaW.PrintWords Go.Proofs.Ytgllnohlocfeoaa.A
open Go.ChangeMaps (open_string shut_string)
set_option linter.unusedVariables false
theorem own : ownKnob Try.prog.godebug = none := by kernel_rfl
theorem laidOut : laidOutB Try.prog = true := by kernel_rfl
set_option maxHeartbeats 2000000 in
set_option maxRecDepth 100000 in
theorem lifted (os : Os) (started : os.Started) (H : Type) (enc : TypeId × Value → H) :
    ReturnsInHanded {} Try.checked os 5 .any (Rows.fnExactWordOfMapSpec.pre6 enc Try.prog Try.f5 Rows.fnExactWordOfMapRow.domain false) (Rows.fnExactWordOfMapSpec.post enc Try.prog Try.f5 false true false false) := by
  refine returnsInHanded_of_change_sized (C := Try.checked) own started (by kernel_rfl) Try.func5
    (ChangeSpec.witness6 (enc := enc) (C := Try.checked) false ⟨#[], #[.agg #[.slice none 0 0, .slice none 0 0, .slice none 0 0], .int .i64 0], []⟩ 8 (by kernel_rfl) (by kernel_rfl) (by kernel_rfl) (by kernel_rfl)) ?_
  intro W base args ds gs before hval0 hW hcnd hsz0 _
  have hval : ∀ (j : Nat) t v, Try.f5.params[j]? = some t → args[j]? = some v → Value.okWide Try.prog W .any base t v := hval0
  have hW' := hW
  obtain ⟨p, q, hA0, hV, rfl, hfz, hnd⟩ := hW
  have hA : DataW.TrodAll enc Try.prog W 0 (fun _ => true) true Try.f5.params.toList args.toList ds p := hA0
  rw [Try.params5] at hA hval
  obtain ⟨v0, vs0, d0, ds0, p0, q0, hargs, rfl, rfl, h0, r0⟩ := trodAll_cons hA
  obtain ⟨v1, vs1, d1, ds1, p1, q1, rfl, rfl, rfl, h1, r1⟩ := trodAll_cons r0
  obtain ⟨rfl, rfl, rfl⟩ := trodAll_nil r1
  obtain rfl : args = #[v0, v1] := by cases args; simp_all
  obtain ⟨rfl, rfl⟩ := trodVars_none hV
  have k0 := h0
  have lt0 : ∀ x ∈ p0, x.block < W.heap.size := by obtain ⟨m, hm⟩ := k0; exact DataW.trod_lt m _ _ _ hm
  obtain ⟨arr0, rfl, _, _⟩ : ∃ cs, v0 = .agg cs ∧ cs.size = Try.prog.cellsOf 42 ∧ Row.okWide Try.prog W .any base 42 cs := by have z := (hval 0 42 v0 rfl rfl); unfold Value.okWide at z; rw [Try.underlying42] at z; exact z
  obtain ⟨fuel0, hf0⟩ := h0
  obtain ⟨x0, hK0, hw0⟩ := (show ∀ n, BrN Try.prog n 42 _ _ from fun n => (br_struct' Try.underlying42 (show Try.prog.cellsOf 42 = 3 by kernel_rfl) (fun n => (bf_cons rfl (show Try.prog.cellsOf 39 = 1 by kernel_rfl) (br_slice' Try.underlying39 (show Try.prog.cellsOf 40 = 1 by kernel_rfl) (fun n => (br_slice' Try.underlying40 (show Try.prog.cellsOf 3 = 1 by kernel_rfl) (fun n => (br_int Try.underlying3 n)) n)) n) (bf_cons rfl (show Try.prog.cellsOf 40 = 1 by kernel_rfl) (br_slice' Try.underlying40 (show Try.prog.cellsOf 3 = 1 by kernel_rfl) (fun n => (br_int Try.underlying3 n)) n) (bf_one rfl (show Try.prog.cellsOf 39 = 1 by kernel_rfl) (br_slice' Try.underlying39 (show Try.prog.cellsOf 40 = 1 by kernel_rfl) (fun n => (br_slice' Try.underlying40 (show Try.prog.cellsOf 3 = 1 by kernel_rfl) (fun n => (br_int Try.underlying3 n)) n)) n)) (of_decide_eq_true (by kernel_rfl))) (of_decide_eq_true (by kernel_rfl)))) n)) fuel0 H enc W 0 (fun _ => true) true fuel0 _ _ (Nat.le_refl _) hf0
  obtain ⟨l0_0, ⟨l0_1, l0_2⟩⟩ := x0
  replace hw0 := hw0
  obtain ⟨w0_0, ⟨w0_1, w0_2⟩⟩ := hw0
  obtain ⟨cs0, hcs0, hK0⟩ : ∃ cs, (Value.agg arr0).cells.toList = cs ∧ _ := ⟨_, rfl, hK0⟩
  obtain ⟨_, _, rfl, ⟨A0_0, c0_0, rfl, hc0_0, hr0_0⟩, ⟨_, _, rfl, ⟨A0_1, c0_1, rfl, hc0_1, hr0_1⟩, ⟨A0_2, c0_2, rfl, hc0_2, hr0_2⟩⟩⟩ := hK0
  obtain rfl : arr0 = #[.slice A0_0 l0_0.length c0_0, .slice A0_1 l0_1.length c0_1, .slice A0_2 l0_2.length c0_2] := arr_of hcs0
  have k1 := h1
  have lt1 : ∀ x ∈ p1, x.block < W.heap.size := by obtain ⟨m, hm⟩ := k1; exact DataW.trod_lt m _ _ _ hm
  obtain ⟨a1, rfl, rfl, rfl, w1⟩ := open_int Try.underlying3 (hval 1 3 v1 rfl rfl) h1
  clear hA0 hval0 hsz0
  obtain ⟨k, hp⟩ := Pure.FnExactWordOfMap l0_0 l0_1 l0_2 a1 w0_0 w0_1 w0_2 w1
  refine (laws_FnExactWordOfMap.calls k _ _ l0_0 _ _ l0_1 _ _ l0_2 a1 true W hr0_0 hc0_0 hr0_1 hc0_1 hr0_2 hc0_2 hp).mono fun e W' ⟨he, bel0⟩ => ?_
  subst he
  have bel : Below W.heap.size W W' := bel0
  exact ⟨_, rfl, _, _, _, [], _, [], hW', trodAll_mk1 (shut_bool Try.underlying4 _), (trodAll_cons_mk (Below.trod laidOut (by kernel_rfl) (of_decide_eq_true (by kernel_rfl)) k0 bel lt0) (trodAll_cons_mk (Below.trod laidOut (by kernel_rfl) (of_decide_eq_true (by kernel_rfl)) k1 bel lt1) trodAll_mk0)), rfl, bel.frame _, fun h => by cases h⟩
theorem fact0 : (Rows.fnExactWordOfMapRow.inPlace == Try.pinned.checked.prog.inPlace 5) = true := by kernel_rfl
theorem fact1 : (Rows.fnExactWordOfMapRow.unfollowed == Try.pinned.checked.prog.unfollowed 5) = true := by kernel_rfl
theorem fact2 : (Rows.fnExactWordOfMapRow.recurses == Try.pinned.checked.prog.recurses 5) = true := by kernel_rfl
theorem fact3 : (Rows.fnExactWordOfMapRow.named == Try.pinned.checked.prog.varsNamed 5) = true := by kernel_rfl
theorem facts : joinedFacts Try.pinned.checked.prog 5 Try.f5 Rows.fnExactWordOfMapSpec Rows.fnExactWordOfMapRow = true := by
  unfold joinedFacts
  rw [fact0, fact1, fact2, fact3]
  kernel_rfl
theorem known : Try.pinned.checked.prog.funcNamed Rows.fnExactWordOfMapRow.func = some 5 := by kernel_rfl
theorem inst : Try.f5.isInstance Try.pinned.checked.prog Rows.fnExactWordOfMapRow.origin Rows.fnExactWordOfMapRow.targs := of_decide_eq_true (by kernel_rfl)
theorem wrap : Try.f5.isWrapper Try.pinned.checked.prog Rows.fnExactWordOfMapRow.wrapper Rows.fnExactWordOfMapRow.mainSum := by unfold Func.isWrapper; first | (rw [if_pos (by decide +kernel)]; kernel_rfl) | (rw [if_neg (by decide +kernel)]; exact ⟨rfl, rfl⟩)
theorem over : Rows.fnExactWordOfMapRow.holds Try.pinned (OpenSpec.ofChange Rows.fnExactWordOfMapSpec) :=
  OpenClaim.holds_of_wide 5 Try.f5 rfl rfl rfl rfl rfl rfl rfl ⟨rfl, rfl, rfl, rfl, rfl⟩ rfl rfl rfl rfl rfl known Try.func5 facts inst wrap
    (fun os started H enc _ => lifted os started H enc)
theorem proved : Rows.FnExactWordOfMapSaid := over
#print axioms proved
end Go.Proofs.Ytgllnohlocfeoaa.fnExactWordOfMap
namespace Go.Proofs.Ytgllnohlocfeoaa
/-- The row, under a short name, for the claim. -/
theorem fnExactWordOfMap_holds : Rows.FnExactWordOfMapSaid := fnExactWordOfMap.proved
end Go.Proofs.Ytgllnohlocfeoaa
