/- FnExactIsModel: what its proof needs, put together by this session's program wip/merge.py out of the texts that wip/xp.py printed and of this session's own. -/
import Derived.Test.YtffjfdoghofkdaaQFnExactIsModel0
import Derived.Test.YtffjfdoghofkdaaProg
import Derived.Lib.Bytealg
import Derived.Lib.Walk
import Derived.Below
import Derived.Deep.Draws
import Derived.Deep.AppendLies
import Derived.Maps.AppendAt
import Derived.OwnWalk
import Derived.Laws.BytesArg
import Derived.Laws.MakeOwn
import Derived.Laws.OwnMore
import Derived.Deep.OwnRows
import Derived.Tactics
import Derived.Lib.ConvBytes
import Derived.Laws.Slices
import Derived.WalkKit
import Derived.KernelRfl
import Derived.RowKit3
import Derived.Deep.LoopGhost
import Derived.Deep.QuietTactic
import Derived.BigQuiet
import Derived.WideLaws
import Derived.Deep.DeepCutAuto
import Derived.Deep.CutBlock
import Derived.Deep.RegionHeld3
import Derived.Laws.Rows
import Derived.Lib.AppendStr
import Derived.ArgAppend
import Derived.Laws.IdiomCopy
import Derived.OrdersHeld
import Derived.Laws.BitsLemmas
import Derived.RowKit
set_option linter.unusedVariables false
set_option linter.unusedSimpArgs false
set_option linter.unusedSectionVars false
set_option maxHeartbeats 8000000
set_option maxRecDepth 100000
namespace Go.Proofs.Ytffjfdoghofkdaa
theorem za0 {P Q : Prop} (h : Q) (f : Q → P := by intro h_; (with_reducible repeat (first | refine blk_drewN ?_ _ | refine blk_drew ?_ | refine blk_alloc ?_ _)); exact h_) : P := f h
theorem za1 {P Q : Prop} (h : Q) (f : Q → P := by intro h_; (with_reducible repeat (first | apply Kd.R_alloc | apply Kd.R_drewN | apply Kd.R_drew)); exact h_) : P := f h
theorem za2 {P : Prop} (h : P := by repeat (first | (with_reducible first | exact HB.out | apply below_alloc | apply pw_below_drewN | apply below_drew1 | refine below_set ?_ (Aside0.out (by assumption))) | exact HB.out)) : P := h
theorem za3 {P : Prop} (h : P := by (try simp only [List.map_toArray, List.map_cons, List.map_nil]); first | done | rfl | (simp only [List.length_drop, List.length_take]; rfl)) : P := h
theorem za4 {P : Prop} (h : P := by (try simp only [decide_eq_true_eq, decide_eq_false_iff_not, eq_iff_iff, iff_true, iff_false] at *); (try simp only [ByteArray.size_extract, ByteArray.size_append, show (⟨#[97, 98, 99]⟩ : ByteArray).size = 3 from rfl, show (⟨#[88, 89, 90]⟩ : ByteArray).size = 3 from rfl, show (⟨#[61]⟩ : ByteArray).size = 1 from rfl] at *); omega) : P := h
theorem za5 {P : Prop} (h : P := by first | rfl | (simp [errW_none, errW_some] <;> rfl) | (simp [*, errW_none, errW_some] <;> rfl)) : P := h
theorem za6 {P : Prop} (h : P := by first | rfl | (simp; done) | (simp [*]; done)) : P := h
theorem za7 {P : Prop} (h : P := by first | (with_reducible assumption) | assumption) : P := h
theorem za8 {P : Prop} (h : P := by repeat (first | exact Drawn0.refl _ | apply Drawn0.step)) : P := h
theorem za9 {P : Prop} (h : P := by first | exact HBc.out | exact below_drew HBc.out | exact pw_below_drewN HBc.out _) : P := h
theorem za10 {P : Prop} (h : P := by (with_reducible repeat (first | refine blk_drewN ?_ _ | refine blk_drew ?_ | refine blk_alloc ?_ _)); refine blk_put (cs := #[.int .i64 ((rd_T35 l0_2 x38_3).f0), .string ((rd_T35 l0_2 x38_3).f1), .slice none 0 0]) ?_ 2 _ rfl; (with_reducible repeat (first | refine blk_drewN ?_ _ | refine blk_drew ?_ | refine blk_alloc ?_ _)); refine blk_put (cs := #[.int .i64 ((rd_T35 l0_2 x38_3).f0), .string (⟨#[]⟩ : ByteArray), .slice none 0 0]) ?_ 1 _ rfl; (with_reducible repeat (first | refine blk_drewN ?_ _ | refine blk_drew ?_ | refine blk_alloc ?_ _)); refine blk_put (cs := #[.int .i64 0, .string (⟨#[]⟩ : ByteArray), .slice none 0 0]) ?_ 0 _ rfl; (with_reducible repeat (first | refine blk_drewN ?_ _ | refine blk_drew ?_ | refine blk_alloc ?_ _)); exact BK79005.out) : P := h
theorem za11 {P : Prop} (h : P := by have := HK1.out; omega) : P := h
theorem za12 {P : Prop} (h : P := by (with_reducible repeat (first | refine blk_drewN ?_ _ | refine blk_drew ?_ | refine blk_alloc ?_ _)); refine blk_far ?_ NB79001_79005.out _; (with_reducible repeat (first | refine blk_drewN ?_ _ | refine blk_drew ?_ | refine blk_alloc ?_ _)); refine blk_far ?_ NB79001_79005.out _; (with_reducible repeat (first | refine blk_drewN ?_ _ | refine blk_drew ?_ | refine blk_alloc ?_ _)); refine blk_far ?_ NB79001_79005.out _; (with_reducible repeat (first | refine blk_drewN ?_ _ | refine blk_drew ?_ | refine blk_alloc ?_ _)); exact BK79001.out) : P := h
theorem za13 {P : Prop} (h : P := by have := HN.out; omega) : P := h
theorem za14 {P : Prop} (h : P := by (with_reducible repeat (first | refine blk_drewN ?_ _ | refine blk_drew ?_ | refine blk_alloc ?_ _)); refine blk_far ?_ NB8002_8003.out _; (with_reducible repeat (first | refine blk_drewN ?_ _ | refine blk_drew ?_ | refine blk_alloc ?_ _)); refine blk_far ?_ NB8002_8003.out _; (with_reducible repeat (first | refine blk_drewN ?_ _ | refine blk_drew ?_ | refine blk_alloc ?_ _)); refine blk_far ?_ NB8002_8003.out _; (with_reducible repeat (first | refine blk_drewN ?_ _ | refine blk_drew ?_ | refine blk_alloc ?_ _)); exact BK8002.out) : P := h
theorem za15 {P : Prop} (h : P := by (with_reducible repeat (first | refine blk_drewN ?_ _ | refine blk_drew ?_ | refine blk_alloc ?_ _)); refine blk_far ?_ NB8001_8003.out _; (with_reducible repeat (first | refine blk_drewN ?_ _ | refine blk_drew ?_ | refine blk_alloc ?_ _)); refine blk_far ?_ NB8001_8003.out _; (with_reducible repeat (first | refine blk_drewN ?_ _ | refine blk_drew ?_ | refine blk_alloc ?_ _)); refine blk_far ?_ NB8001_8003.out _; (with_reducible repeat (first | refine blk_drewN ?_ _ | refine blk_drew ?_ | refine blk_alloc ?_ _)); exact BK8001.out) : P := h
theorem za16 {P : Prop} (h : P := by (with_reducible repeat (first | refine blk_drewN ?_ _ | refine blk_drew ?_ | refine blk_alloc ?_ _)); refine blk_put (cs := #[.int .i64 a0_0, .string (⟨#[]⟩ : ByteArray), .slice none 0 0]) ?_ 1 _ rfl; (with_reducible repeat (first | refine blk_drewN ?_ _ | refine blk_drew ?_ | refine blk_alloc ?_ _)); refine blk_put (cs := #[.int .i64 0, .string (⟨#[]⟩ : ByteArray), .slice none 0 0]) ?_ 0 _ rfl; (with_reducible repeat (first | refine blk_drewN ?_ _ | refine blk_drew ?_ | refine blk_alloc ?_ _)); exact BK22003.out) : P := h
theorem za17 {P : Prop} (h : P := by have := HW.out; have := N3.out; omega) : P := h
theorem za18 {P : Prop} (h : P := by first | omega | exact Nat.le_refl _) : P := h
theorem za19 {P : Prop} (h : P := by (with_reducible repeat (first | refine blk_drewN ?_ _ | refine blk_drew ?_ | refine blk_alloc ?_ _)); refine blk_far ?_ NB22002_22003.out _; (with_reducible repeat (first | refine blk_drewN ?_ _ | refine blk_drew ?_ | refine blk_alloc ?_ _)); refine blk_far ?_ NB22002_22003.out _; (with_reducible repeat (first | refine blk_drewN ?_ _ | refine blk_drew ?_ | refine blk_alloc ?_ _)); exact BK22002.out) : P := h
theorem za20 {P : Prop} (h : P := by first | rfl | (simp; done)) : P := h
end Go.Proofs.Ytffjfdoghofkdaa
namespace Go.Proofs.Ytffjfdoghofkdaa.Ext
open Go.RowKit Go.Proofs.YtffjfdoghofkdaaW.PrintWords
theorem blk1 {w : World} {g : Nat} {t : TypeId} {a0 : Value} (h : w.heap[g]? = some (.cells #[a0] t (0, 0))) : w.cell? ⟨g, 0, none⟩ = some a0 ∧ w.frozen? ⟨g, 0, none⟩ = false := ⟨(blk_cell h 0).trans rfl, blk_frozen h 0⟩
theorem blk3 {w : World} {g : Nat} {t : TypeId} {a0 a1 a2 : Value} (h : w.heap[g]? = some (.cells #[a0, a1, a2] t (0, 0))) : w.cell? ⟨g, 0, none⟩ = some a0 ∧ w.cell? ⟨g, 1, none⟩ = some a1 ∧ w.cell? ⟨g, 2, none⟩ = some a2 ∧ w.frozen? ⟨g, 0, none⟩ = false ∧ w.frozen? ⟨g, 1, none⟩ = false ∧ w.frozen? ⟨g, 2, none⟩ = false := ⟨(blk_cell h 0).trans rfl, (blk_cell h 1).trans rfl, (blk_cell h 2).trans rfl, blk_frozen h 0, blk_frozen h 1, blk_frozen h 2⟩
theorem blk4 {w : World} {g : Nat} {t : TypeId} {a0 a1 a2 a3 : Value} (h : w.heap[g]? = some (.cells #[a0, a1, a2, a3] t (0, 0))) : w.cell? ⟨g, 0, none⟩ = some a0 ∧ w.cell? ⟨g, 1, none⟩ = some a1 ∧ w.cell? ⟨g, 2, none⟩ = some a2 ∧ w.cell? ⟨g, 3, none⟩ = some a3 ∧ w.frozen? ⟨g, 0, none⟩ = false ∧ w.frozen? ⟨g, 1, none⟩ = false ∧ w.frozen? ⟨g, 2, none⟩ = false ∧ w.frozen? ⟨g, 3, none⟩ = false := ⟨(blk_cell h 0).trans rfl, (blk_cell h 1).trans rfl, (blk_cell h 2).trans rfl, (blk_cell h 3).trans rfl, blk_frozen h 0, blk_frozen h 1, blk_frozen h 2, blk_frozen h 3⟩
theorem blk8 {w : World} {g : Nat} {t : TypeId} {a0 a1 a2 a3 a4 a5 a6 a7 : Value} (h : w.heap[g]? = some (.cells #[a0, a1, a2, a3, a4, a5, a6, a7] t (0, 0))) : w.cell? ⟨g, 0, none⟩ = some a0 ∧ w.cell? ⟨g, 1, none⟩ = some a1 ∧ w.cell? ⟨g, 2, none⟩ = some a2 ∧ w.cell? ⟨g, 3, none⟩ = some a3 ∧ w.cell? ⟨g, 4, none⟩ = some a4 ∧ w.cell? ⟨g, 5, none⟩ = some a5 ∧ w.cell? ⟨g, 6, none⟩ = some a6 ∧ w.cell? ⟨g, 7, none⟩ = some a7 ∧ w.frozen? ⟨g, 0, none⟩ = false ∧ w.frozen? ⟨g, 1, none⟩ = false ∧ w.frozen? ⟨g, 2, none⟩ = false ∧ w.frozen? ⟨g, 3, none⟩ = false ∧ w.frozen? ⟨g, 4, none⟩ = false ∧ w.frozen? ⟨g, 5, none⟩ = false ∧ w.frozen? ⟨g, 6, none⟩ = false ∧ w.frozen? ⟨g, 7, none⟩ = false := ⟨(blk_cell h 0).trans rfl, (blk_cell h 1).trans rfl, (blk_cell h 2).trans rfl, (blk_cell h 3).trans rfl, (blk_cell h 4).trans rfl, (blk_cell h 5).trans rfl, (blk_cell h 6).trans rfl, (blk_cell h 7).trans rfl, blk_frozen h 0, blk_frozen h 1, blk_frozen h 2, blk_frozen h 3, blk_frozen h 4, blk_frozen h 5, blk_frozen h 6, blk_frozen h 7⟩
end Go.Proofs.Ytffjfdoghofkdaa.Ext
namespace Go.Proofs.Ytffjfdoghofkdaa.Ext
open Go.RowKit Go.Proofs.YtffjfdoghofkdaaW.PrintWords
-- EXT strings.IndexByte
def strings_IndexByte.f (s : ByteArray) (c : Int) : Option Int := some (Lib.indexByte s.data.toList c.toNat.toUInt8)
theorem stringslite_run (s : ByteArray) (c : Int) (w : World) :
  Calls Try.prog 87 #[.string s, .int .u8 c] w fun e w' => e = .returned (.int .i64 (Lib.indexByte s.data.toList c.toNat.toUInt8)) ∧ w' = w := by
 go_enter Try.func87, Try.ntmps87
 go_wp2
 rw [run_callFunc_extern Try.func95 (by kernel_rfl) (by kernel_rfl) (by kernel_rfl) (e := Extern.BytealgIndexByte.indexByte) (by kernel_rfl), Lib.run_indexByteString]
 simp only [Result.andThen]
 rw [Oper.upon_value]
 go_wp2
 go_ret
 exact ⟨rfl, rfl⟩
theorem strings_IndexByte.calls (s : ByteArray) (c : Int) (r : Int) (w : World) (h : strings_IndexByte.f s c = some r) :
  Calls Try.prog 65 #[.string s, .int .u8 c] w fun e w' => e = .returned (.int .i64 r) ∧ Drawn0 w w' := by
 obtain rfl := Option.some.inj h
 go_enter Try.func65, Try.ntmps65
 go_wp2_with (go_at_call 87; refine (stringslite_run _ _ _).mono ?_; rintro e w' ⟨rfl, rfl⟩)
 go_ret
 exact ⟨rfl, Drawn0.refl _⟩
end Go.Proofs.Ytffjfdoghofkdaa.Ext
namespace Go.Proofs.Ytffjfdoghofkdaa.A
open Go.RowKit Go.Proofs.Ytffjfdoghofkdaa.Ext Go.Proofs.YtffjfdoghofkdaaW.PrintWords Go.Proofs.YtffjfdoghofkdaaW.PrintLast Go.Proofs.YtffjfdoghofkdaaW.PrintMore
attribute [local go_sem] max2_int min2_int max_two min_two max_three min_three max_four min_four
def errW : Option Int → Value
 | none => .nilIface
 | some c => .iface 0 (.int .i64 c)
theorem errW_none : errW none = .nilIface := rfl
theorem errW_some (c : Int) : errW (some c) = .iface 0 (.int .i64 c) := rfl
theorem info3 : (Try.prog.info? 3).map (fun i => (i.zero, i.size, i.bytes)) = some (some (.int .i64 0), 1, 8) := by kernel_rfl
theorem info35 : (Try.prog.info? 35).map (fun i => (i.zero, i.size, i.bytes)) = some (some (.agg #[(.int .i64 0), (.string ⟨#[]⟩), (.slice none 0 0)]), 3, 48) := by kernel_rfl
theorem info37 : (Try.prog.info? 37).map (fun i => (i.zero, i.size, i.bytes)) = some (some (.agg #[(.int .i64 0), (.string ⟨#[]⟩), (.string ⟨#[]⟩), (.int .i64 0), (.string ⟨#[]⟩), (.slice none 0 0), (.slice none 0 0), (.int .i64 0)]), 8, 120) := by kernel_rfl
-- the values' own types
/-! #### struct type 24, nested in itself -/
structure S24 where
 f0 : Int
 f1 : ByteArray
 f2 : (List S24)
def z24 : S24 := ⟨(0 : Int), (⟨#[]⟩ : ByteArray), ([] : List S24)⟩
def F24 (d : Kd S24) : Kd S24 := Kd.iso (Kd.pair (Kd.int .i64) (Kd.pair Kd.string (Kd.slice 24 d))) (fun x : S24 => (x.f0, x.f1, x.f2))
theorem mono24 : Kd.Mono F24 := Kd.mono_iso _ (Kd.mono_pair (Kd.mono_const _) (Kd.mono_pair (Kd.mono_const _) (Kd.mono_slice 24 Kd.mono_id)))
theorem sub24 : Kd.Sub F24 [24] := Kd.sub_iso _ (Kd.sub_pair (Kd.sub_const _ (by decide)) (Kd.sub_pair (Kd.sub_const _ (by decide)) (Kd.sub_slice 24 (by decide) Kd.sub_id)))
theorem sz24 : ∀ n, (Kd.upto F24 3 [24] n).sz = 3 := Kd.upto_sz (fun _ => rfl)
def k24 : Kd S24 := Kd.fix F24 3 [24] sz24 (Kd.upto_E sub24)
theorem k24_open {w : World} {x : S24} {cs : List Value} (h : k24.K w x cs) : ∃ A2 c2, cs = [.int .i64 x.f0, .string x.f1, .slice A2 x.f2.length c2] ∧ x.f2.length ≤ c2 ∧ k24.C w A2 x.f2.length x.f2 := by
 obtain ⟨n, h⟩ := h
 cases n with
 | zero => exact h.elim
 | succ n =>
  obtain ⟨_, _, rfl, rfl, ⟨_, _, rfl, rfl, ⟨A2, c2, rfl, l2, g2⟩⟩⟩ := h
  exact ⟨A2, c2, rfl, l2, Kd.fix_C g2⟩
theorem k24_openM {w : World} {base : Nat} {ok : Nat → Prop} {x : S24} {cs : List Value} (h : k24.M w base ok x cs) : ∃ v2, cs = [.int .i64 x.f0, .string x.f1, v2] ∧ k24.R 24 w base ok v2 x.f2 := by
 obtain ⟨n, h⟩ := h
 cases n with
 | zero => exact h.elim
 | succ n =>
  obtain ⟨_, _, rfl, rfl, ⟨_, _, rfl, rfl, ⟨v2, rfl, g2⟩⟩⟩ := h
  exact ⟨v2, rfl, Kd.fix_R g2⟩
theorem k24_mk (w : World) (x : S24) {A2 : Option Addr} {c2 : Nat} (l2 : x.f2.length ≤ c2) (g2 : k24.C w A2 x.f2.length x.f2) : k24.K w x [.int .i64 x.f0, .string x.f1, .slice A2 x.f2.length c2] := by
 obtain ⟨n2, q2⟩ := Kd.fix_C_back mono24 g2
 have r2 := Kd.upto_C_le mono24 sz24 (show n2 ≤ n2 by omega) q2
 exact ⟨n2 + 1, ⟨[.int .i64 x.f0], [.string x.f1, .slice A2 x.f2.length c2], rfl, rfl, ⟨[.string x.f1], [.slice A2 x.f2.length c2], rfl, rfl, ⟨A2, c2, rfl, l2, r2⟩⟩⟩⟩
theorem k24_mkM (w : World) (base : Nat) (ok : Nat → Prop) (x : S24) {v2 : Value} (g2 : k24.R 24 w base ok v2 x.f2) : k24.M w base ok x [.int .i64 x.f0, .string x.f1, v2] := by
 obtain ⟨n2, q2⟩ := Kd.fix_R_back mono24 g2
 have r2 := Kd.upto_R_le mono24 sz24 (show n2 ≤ n2 by omega) q2
 exact ⟨n2 + 1, ⟨[.int .i64 x.f0], [.string x.f1, v2], rfl, rfl, ⟨[.string x.f1], [v2], rfl, rfl, ⟨v2, rfl, r2⟩⟩⟩⟩
def rd_T24 (xs : List S24) (i : Int) : S24 := xs.getD i.toNat z24
theorem at_T24 {w : World} {A : Option Addr} {n : Nat} {xs : List S24} (h : Kd.C k24 w A n xs) (i : Int) (h0 : 0 ≤ i) (h1 : i < n) : ∃ ad A2 c2, A = some ad ∧ w.cell? (ad.add (i.toNat * 3)) = some (.int .i64 (rd_T24 xs i).f0) ∧ w.cell? ⟨(ad.add (i.toNat * 3)).block, (ad.add (i.toNat * 3)).off + 1, none⟩ = some (.string (rd_T24 xs i).f1) ∧ w.cell? ⟨(ad.add (i.toNat * 3)).block, (ad.add (i.toNat * 3)).off + 2, none⟩ = some (.slice A2 (rd_T24 xs i).f2.length c2) ∧ (rd_T24 xs i).f2.length ≤ c2 ∧ k24.C w A2 (rd_T24 xs i).f2.length (rd_T24 xs i).f2 := by
 obtain ⟨ad, c, e, _, hK, hc0⟩ := Kd.C_get h z24 i h0 h1
 have hc : ∀ j u, c[j]? = some u → w.cell? (ad.add (i.toNat * 3 + j)) = some u := hc0
 obtain ⟨A2, c2, rfl, l2, g2⟩ := k24_open hK
 exact ⟨ad, A2, c2, e, hc 0 _ rfl, by rw [← add_field _ _ 1 (by omega)]; exact hc 1 _ rfl, by rw [← add_field _ _ 2 (by omega)]; exact hc 2 _ rfl, l2, g2⟩
/-! #### struct type 35, nested in itself -/
structure S35 where
 f0 : Int
 f1 : ByteArray
 f2 : (List S35)
def z35 : S35 := ⟨(0 : Int), (⟨#[]⟩ : ByteArray), ([] : List S35)⟩
def F35 (d : Kd S35) : Kd S35 := Kd.iso (Kd.pair (Kd.int .i64) (Kd.pair Kd.string (Kd.slice 35 d))) (fun x : S35 => (x.f0, x.f1, x.f2))
theorem mono35 : Kd.Mono F35 := Kd.mono_iso _ (Kd.mono_pair (Kd.mono_const _) (Kd.mono_pair (Kd.mono_const _) (Kd.mono_slice 35 Kd.mono_id)))
theorem sub35 : Kd.Sub F35 [35] := Kd.sub_iso _ (Kd.sub_pair (Kd.sub_const _ (by decide)) (Kd.sub_pair (Kd.sub_const _ (by decide)) (Kd.sub_slice 35 (by decide) Kd.sub_id)))
theorem sz35 : ∀ n, (Kd.upto F35 3 [35] n).sz = 3 := Kd.upto_sz (fun _ => rfl)
def k35 : Kd S35 := Kd.fix F35 3 [35] sz35 (Kd.upto_E sub35)
theorem k35_open {w : World} {x : S35} {cs : List Value} (h : k35.K w x cs) : ∃ A2 c2, cs = [.int .i64 x.f0, .string x.f1, .slice A2 x.f2.length c2] ∧ x.f2.length ≤ c2 ∧ k35.C w A2 x.f2.length x.f2 := by
 obtain ⟨n, h⟩ := h
 cases n with
 | zero => exact h.elim
 | succ n =>
  obtain ⟨_, _, rfl, rfl, ⟨_, _, rfl, rfl, ⟨A2, c2, rfl, l2, g2⟩⟩⟩ := h
  exact ⟨A2, c2, rfl, l2, Kd.fix_C g2⟩
theorem k35_openM {w : World} {base : Nat} {ok : Nat → Prop} {x : S35} {cs : List Value} (h : k35.M w base ok x cs) : ∃ v2, cs = [.int .i64 x.f0, .string x.f1, v2] ∧ k35.R 35 w base ok v2 x.f2 := by
 obtain ⟨n, h⟩ := h
 cases n with
 | zero => exact h.elim
 | succ n =>
  obtain ⟨_, _, rfl, rfl, ⟨_, _, rfl, rfl, ⟨v2, rfl, g2⟩⟩⟩ := h
  exact ⟨v2, rfl, Kd.fix_R g2⟩
theorem k35_mk (w : World) (x : S35) {A2 : Option Addr} {c2 : Nat} (l2 : x.f2.length ≤ c2) (g2 : k35.C w A2 x.f2.length x.f2) : k35.K w x [.int .i64 x.f0, .string x.f1, .slice A2 x.f2.length c2] := by
 obtain ⟨n2, q2⟩ := Kd.fix_C_back mono35 g2
 have r2 := Kd.upto_C_le mono35 sz35 (show n2 ≤ n2 by omega) q2
 exact ⟨n2 + 1, ⟨[.int .i64 x.f0], [.string x.f1, .slice A2 x.f2.length c2], rfl, rfl, ⟨[.string x.f1], [.slice A2 x.f2.length c2], rfl, rfl, ⟨A2, c2, rfl, l2, r2⟩⟩⟩⟩
theorem k35_mkM (w : World) (base : Nat) (ok : Nat → Prop) (x : S35) {v2 : Value} (g2 : k35.R 35 w base ok v2 x.f2) : k35.M w base ok x [.int .i64 x.f0, .string x.f1, v2] := by
 obtain ⟨n2, q2⟩ := Kd.fix_R_back mono35 g2
 have r2 := Kd.upto_R_le mono35 sz35 (show n2 ≤ n2 by omega) q2
 exact ⟨n2 + 1, ⟨[.int .i64 x.f0], [.string x.f1, v2], rfl, rfl, ⟨[.string x.f1], [v2], rfl, rfl, ⟨v2, rfl, r2⟩⟩⟩⟩
def rd_T35 (xs : List S35) (i : Int) : S35 := xs.getD i.toNat z35
theorem at_T35 {w : World} {A : Option Addr} {n : Nat} {xs : List S35} (h : Kd.C k35 w A n xs) (i : Int) (h0 : 0 ≤ i) (h1 : i < n) : ∃ ad A2 c2, A = some ad ∧ w.cell? (ad.add (i.toNat * 3)) = some (.int .i64 (rd_T35 xs i).f0) ∧ w.cell? ⟨(ad.add (i.toNat * 3)).block, (ad.add (i.toNat * 3)).off + 1, none⟩ = some (.string (rd_T35 xs i).f1) ∧ w.cell? ⟨(ad.add (i.toNat * 3)).block, (ad.add (i.toNat * 3)).off + 2, none⟩ = some (.slice A2 (rd_T35 xs i).f2.length c2) ∧ (rd_T35 xs i).f2.length ≤ c2 ∧ k35.C w A2 (rd_T35 xs i).f2.length (rd_T35 xs i).f2 := by
 obtain ⟨ad, c, e, _, hK, hc0⟩ := Kd.C_get h z35 i h0 h1
 have hc : ∀ j u, c[j]? = some u → w.cell? (ad.add (i.toNat * 3 + j)) = some u := hc0
 obtain ⟨A2, c2, rfl, l2, g2⟩ := k35_open hK
 exact ⟨ad, A2, c2, e, hc 0 _ rfl, by rw [← add_field _ _ 1 (by omega)]; exact hc 1 _ rfl, by rw [← add_field _ _ 2 (by omega)]; exact hc 2 _ rfl, l2, g2⟩
def rd_L4 (xs : List (List Int)) (i : Int) : (List Int) := xs.getD i.toNat ([] : List Int)
theorem at_L4 {w : World} {A : Option Addr} {n : Nat} {xs : List (List Int)} (h : Kd.C (Kd.slice 3 (Kd.int .i64)) w A n xs) (i : Int) (h0 : 0 ≤ i) (h1 : i < n) : ∃ ad A0 c0, A = some ad ∧ w.cell? (ad.add i.toNat) = some (.slice A0 (rd_L4 xs i).length c0) ∧ (rd_L4 xs i).length ≤ c0 ∧ (Kd.int .i64).C w A0 (rd_L4 xs i).length (rd_L4 xs i) := by
 obtain ⟨ad, c, e, _, hK, hc0⟩ := Kd.C_get h ([] : List Int) i h0 h1
 have hc : ∀ j u, c[j]? = some u → w.cell? (ad.add (i.toNat * 1 + j)) = some u := hc0
 obtain ⟨A0, c0, rfl, l0, g0⟩ := hK
 exact ⟨ad, A0, c0, e, by have hq := hc 0 _ rfl; rwa [Nat.mul_one, Nat.add_zero] at hq, l0, g0⟩
def rd_L5 (xs : List (List (List Int))) (i : Int) : (List (List Int)) := xs.getD i.toNat ([] : List (List Int))
theorem at_L5 {w : World} {A : Option Addr} {n : Nat} {xs : List (List (List Int))} (h : Kd.C (Kd.slice 25 (Kd.slice 3 (Kd.int .i64))) w A n xs) (i : Int) (h0 : 0 ≤ i) (h1 : i < n) : ∃ ad A0 c0, A = some ad ∧ w.cell? (ad.add i.toNat) = some (.slice A0 (rd_L5 xs i).length c0) ∧ (rd_L5 xs i).length ≤ c0 ∧ (Kd.slice 3 (Kd.int .i64)).C w A0 (rd_L5 xs i).length (rd_L5 xs i) := by
 obtain ⟨ad, c, e, _, hK, hc0⟩ := Kd.C_get h ([] : List (List Int)) i h0 h1
 have hc : ∀ j u, c[j]? = some u → w.cell? (ad.add (i.toNat * 1 + j)) = some u := hc0
 obtain ⟨A0, c0, rfl, l0, g0⟩ := hK
 exact ⟨ad, A0, c0, e, by have hq := hc 0 _ rfl; rwa [Nat.mul_one, Nat.add_zero] at hq, l0, g0⟩
/-! #### struct type 37 -/
structure S37 where
 f0 : Int
 f1 : ByteArray
 f2 : ByteArray
 f3 : S35
 f4 : (List Int)
 f5 : Int
def z37 : S37 := ⟨(0 : Int), (⟨#[]⟩ : ByteArray), (⟨#[]⟩ : ByteArray), z35, ([] : List Int), (0 : Int)⟩
def k37 : Kd S37 := Kd.iso (Kd.pair (Kd.int .i64) (Kd.pair Kd.string (Kd.pair Kd.string (Kd.pair k35 (Kd.pair (Kd.slice 3 (Kd.int .i64)) (Kd.int .i64)))))) (fun x : S37 => (x.f0, x.f1, x.f2, x.f3, x.f4, x.f5))
theorem k37_open {w : World} {x : S37} {cs : List Value} (h : k37.K w x cs) : ∃ A5 c5 A6 c6, cs = [.int .i64 x.f0, .string x.f1, .string x.f2, .int .i64 x.f3.f0, .string x.f3.f1, .slice A5 x.f3.f2.length c5, .slice A6 x.f4.length c6, .int .i64 x.f5] ∧ x.f3.f2.length ≤ c5 ∧ k35.C w A5 x.f3.f2.length x.f3.f2 ∧ x.f4.length ≤ c6 ∧ (Kd.int .i64).C w A6 x.f4.length x.f4 := by
 obtain ⟨_, _, rfl, rfl, ⟨_, _, rfl, rfl, ⟨_, _, rfl, rfl, ⟨_, _, rfl, s3, ⟨_, _, rfl, ⟨A6, c6, rfl, l6, g6⟩, rfl⟩⟩⟩⟩⟩ := h
 obtain ⟨A5, c5, rfl, l5, g5⟩ := k35_open s3
 exact ⟨A5, c5, A6, c6, rfl, l5, g5, l6, g6⟩
theorem k37_openM {w : World} {base : Nat} {ok : Nat → Prop} {x : S37} {cs : List Value} (h : k37.M w base ok x cs) : ∃ v5 v6, cs = [.int .i64 x.f0, .string x.f1, .string x.f2, .int .i64 x.f3.f0, .string x.f3.f1, v5, v6, .int .i64 x.f5] ∧ k35.R 35 w base ok v5 x.f3.f2 ∧ (Kd.int .i64).R 3 w base ok v6 x.f4 := by
 obtain ⟨_, _, rfl, rfl, ⟨_, _, rfl, rfl, ⟨_, _, rfl, rfl, ⟨_, _, rfl, s3, ⟨_, _, rfl, ⟨v6, rfl, g6⟩, rfl⟩⟩⟩⟩⟩ := h
 obtain ⟨v5, rfl, g5⟩ := k35_openM s3
 exact ⟨v5, v6, rfl, g5, g6⟩
theorem k37_mk (w : World) (x : S37) {A5 : Option Addr} {c5 : Nat} (l5 : x.f3.f2.length ≤ c5) (g5 : k35.C w A5 x.f3.f2.length x.f3.f2) {A6 : Option Addr} {c6 : Nat} (l6 : x.f4.length ≤ c6) (g6 : (Kd.int .i64).C w A6 x.f4.length x.f4) : k37.K w x [.int .i64 x.f0, .string x.f1, .string x.f2, .int .i64 x.f3.f0, .string x.f3.f1, .slice A5 x.f3.f2.length c5, .slice A6 x.f4.length c6, .int .i64 x.f5] := ⟨[.int .i64 x.f0], [.string x.f1, .string x.f2, .int .i64 x.f3.f0, .string x.f3.f1, .slice A5 x.f3.f2.length c5, .slice A6 x.f4.length c6, .int .i64 x.f5], rfl, rfl, ⟨[.string x.f1], [.string x.f2, .int .i64 x.f3.f0, .string x.f3.f1, .slice A5 x.f3.f2.length c5, .slice A6 x.f4.length c6, .int .i64 x.f5], rfl, rfl, ⟨[.string x.f2], [.int .i64 x.f3.f0, .string x.f3.f1, .slice A5 x.f3.f2.length c5, .slice A6 x.f4.length c6, .int .i64 x.f5], rfl, rfl, ⟨[.int .i64 x.f3.f0, .string x.f3.f1, .slice A5 x.f3.f2.length c5], [.slice A6 x.f4.length c6, .int .i64 x.f5], rfl, (k35_mk w x.f3 l5 g5), ⟨[.slice A6 x.f4.length c6], [.int .i64 x.f5], rfl, ⟨A6, c6, rfl, l6, g6⟩, rfl⟩⟩⟩⟩⟩
theorem k37_mkM (w : World) (base : Nat) (ok : Nat → Prop) (x : S37) {v5 : Value} (g5 : k35.R 35 w base ok v5 x.f3.f2) {v6 : Value} (g6 : (Kd.int .i64).R 3 w base ok v6 x.f4) : k37.M w base ok x [.int .i64 x.f0, .string x.f1, .string x.f2, .int .i64 x.f3.f0, .string x.f3.f1, v5, v6, .int .i64 x.f5] := ⟨[.int .i64 x.f0], [.string x.f1, .string x.f2, .int .i64 x.f3.f0, .string x.f3.f1, v5, v6, .int .i64 x.f5], rfl, rfl, ⟨[.string x.f1], [.string x.f2, .int .i64 x.f3.f0, .string x.f3.f1, v5, v6, .int .i64 x.f5], rfl, rfl, ⟨[.string x.f2], [.int .i64 x.f3.f0, .string x.f3.f1, v5, v6, .int .i64 x.f5], rfl, rfl, ⟨[.int .i64 x.f3.f0, .string x.f3.f1, v5], [v6, .int .i64 x.f5], rfl, (k35_mkM w base ok x.f3 g5), ⟨[v6], [.int .i64 x.f5], rfl, ⟨v6, rfl, g6⟩, rfl⟩⟩⟩⟩⟩
def rd_T37 (xs : List S37) (i : Int) : S37 := xs.getD i.toNat z37
theorem at_T37 {w : World} {A : Option Addr} {n : Nat} {xs : List S37} (h : Kd.C k37 w A n xs) (i : Int) (h0 : 0 ≤ i) (h1 : i < n) : ∃ ad A5 c5 A6 c6, A = some ad ∧ w.cell? (ad.add (i.toNat * 8)) = some (.int .i64 (rd_T37 xs i).f0) ∧ w.cell? ⟨(ad.add (i.toNat * 8)).block, (ad.add (i.toNat * 8)).off + 1, none⟩ = some (.string (rd_T37 xs i).f1) ∧ w.cell? ⟨(ad.add (i.toNat * 8)).block, (ad.add (i.toNat * 8)).off + 2, none⟩ = some (.string (rd_T37 xs i).f2) ∧ w.cell? ⟨(ad.add (i.toNat * 8)).block, (ad.add (i.toNat * 8)).off + 3, none⟩ = some (.int .i64 (rd_T37 xs i).f3.f0) ∧ w.cell? ⟨(ad.add (i.toNat * 8)).block, (ad.add (i.toNat * 8)).off + 4, none⟩ = some (.string (rd_T37 xs i).f3.f1) ∧ w.cell? ⟨(ad.add (i.toNat * 8)).block, (ad.add (i.toNat * 8)).off + 5, none⟩ = some (.slice A5 (rd_T37 xs i).f3.f2.length c5) ∧ w.cell? ⟨(ad.add (i.toNat * 8)).block, (ad.add (i.toNat * 8)).off + 6, none⟩ = some (.slice A6 (rd_T37 xs i).f4.length c6) ∧ w.cell? ⟨(ad.add (i.toNat * 8)).block, (ad.add (i.toNat * 8)).off + 7, none⟩ = some (.int .i64 (rd_T37 xs i).f5) ∧ (rd_T37 xs i).f3.f2.length ≤ c5 ∧ k35.C w A5 (rd_T37 xs i).f3.f2.length (rd_T37 xs i).f3.f2 ∧ (rd_T37 xs i).f4.length ≤ c6 ∧ (Kd.int .i64).C w A6 (rd_T37 xs i).f4.length (rd_T37 xs i).f4 := by
 obtain ⟨ad, c, e, _, hK, hc0⟩ := Kd.C_get h z37 i h0 h1
 have hc : ∀ j u, c[j]? = some u → w.cell? (ad.add (i.toNat * 8 + j)) = some u := hc0
 obtain ⟨A5, c5, A6, c6, rfl, l5, g5, l6, g6⟩ := k37_open hK
 exact ⟨ad, A5, c5, A6, c6, e, hc 0 _ rfl, by rw [← add_field _ _ 1 (by omega)]; exact hc 1 _ rfl, by rw [← add_field _ _ 2 (by omega)]; exact hc 2 _ rfl, by rw [← add_field _ _ 3 (by omega)]; exact hc 3 _ rfl, by rw [← add_field _ _ 4 (by omega)]; exact hc 4 _ rfl, by rw [← add_field _ _ 5 (by omega)]; exact hc 5 _ rfl, by rw [← add_field _ _ 6 (by omega)]; exact hc 6 _ rfl, by rw [← add_field _ _ 7 (by omega)]; exact hc 7 _ rfl, l5, g5, l6, g6⟩
/-! #### struct type 27 -/
structure S27 where
 f0 : Int
 f1 : ByteArray
 f2 : ByteArray
 f3 : S24
 f4 : (List Int)
 f5 : Int
def z27 : S27 := ⟨(0 : Int), (⟨#[]⟩ : ByteArray), (⟨#[]⟩ : ByteArray), z24, ([] : List Int), (0 : Int)⟩
def k27 : Kd S27 := Kd.iso (Kd.pair (Kd.int .i64) (Kd.pair Kd.string (Kd.pair Kd.string (Kd.pair k24 (Kd.pair (Kd.slice 3 (Kd.int .i64)) (Kd.int .i64)))))) (fun x : S27 => (x.f0, x.f1, x.f2, x.f3, x.f4, x.f5))
theorem k27_open {w : World} {x : S27} {cs : List Value} (h : k27.K w x cs) : ∃ A5 c5 A6 c6, cs = [.int .i64 x.f0, .string x.f1, .string x.f2, .int .i64 x.f3.f0, .string x.f3.f1, .slice A5 x.f3.f2.length c5, .slice A6 x.f4.length c6, .int .i64 x.f5] ∧ x.f3.f2.length ≤ c5 ∧ k24.C w A5 x.f3.f2.length x.f3.f2 ∧ x.f4.length ≤ c6 ∧ (Kd.int .i64).C w A6 x.f4.length x.f4 := by
 obtain ⟨_, _, rfl, rfl, ⟨_, _, rfl, rfl, ⟨_, _, rfl, rfl, ⟨_, _, rfl, s3, ⟨_, _, rfl, ⟨A6, c6, rfl, l6, g6⟩, rfl⟩⟩⟩⟩⟩ := h
 obtain ⟨A5, c5, rfl, l5, g5⟩ := k24_open s3
 exact ⟨A5, c5, A6, c6, rfl, l5, g5, l6, g6⟩
theorem k27_openM {w : World} {base : Nat} {ok : Nat → Prop} {x : S27} {cs : List Value} (h : k27.M w base ok x cs) : ∃ v5 v6, cs = [.int .i64 x.f0, .string x.f1, .string x.f2, .int .i64 x.f3.f0, .string x.f3.f1, v5, v6, .int .i64 x.f5] ∧ k24.R 24 w base ok v5 x.f3.f2 ∧ (Kd.int .i64).R 3 w base ok v6 x.f4 := by
 obtain ⟨_, _, rfl, rfl, ⟨_, _, rfl, rfl, ⟨_, _, rfl, rfl, ⟨_, _, rfl, s3, ⟨_, _, rfl, ⟨v6, rfl, g6⟩, rfl⟩⟩⟩⟩⟩ := h
 obtain ⟨v5, rfl, g5⟩ := k24_openM s3
 exact ⟨v5, v6, rfl, g5, g6⟩
theorem k27_mk (w : World) (x : S27) {A5 : Option Addr} {c5 : Nat} (l5 : x.f3.f2.length ≤ c5) (g5 : k24.C w A5 x.f3.f2.length x.f3.f2) {A6 : Option Addr} {c6 : Nat} (l6 : x.f4.length ≤ c6) (g6 : (Kd.int .i64).C w A6 x.f4.length x.f4) : k27.K w x [.int .i64 x.f0, .string x.f1, .string x.f2, .int .i64 x.f3.f0, .string x.f3.f1, .slice A5 x.f3.f2.length c5, .slice A6 x.f4.length c6, .int .i64 x.f5] := ⟨[.int .i64 x.f0], [.string x.f1, .string x.f2, .int .i64 x.f3.f0, .string x.f3.f1, .slice A5 x.f3.f2.length c5, .slice A6 x.f4.length c6, .int .i64 x.f5], rfl, rfl, ⟨[.string x.f1], [.string x.f2, .int .i64 x.f3.f0, .string x.f3.f1, .slice A5 x.f3.f2.length c5, .slice A6 x.f4.length c6, .int .i64 x.f5], rfl, rfl, ⟨[.string x.f2], [.int .i64 x.f3.f0, .string x.f3.f1, .slice A5 x.f3.f2.length c5, .slice A6 x.f4.length c6, .int .i64 x.f5], rfl, rfl, ⟨[.int .i64 x.f3.f0, .string x.f3.f1, .slice A5 x.f3.f2.length c5], [.slice A6 x.f4.length c6, .int .i64 x.f5], rfl, (k24_mk w x.f3 l5 g5), ⟨[.slice A6 x.f4.length c6], [.int .i64 x.f5], rfl, ⟨A6, c6, rfl, l6, g6⟩, rfl⟩⟩⟩⟩⟩
theorem k27_mkM (w : World) (base : Nat) (ok : Nat → Prop) (x : S27) {v5 : Value} (g5 : k24.R 24 w base ok v5 x.f3.f2) {v6 : Value} (g6 : (Kd.int .i64).R 3 w base ok v6 x.f4) : k27.M w base ok x [.int .i64 x.f0, .string x.f1, .string x.f2, .int .i64 x.f3.f0, .string x.f3.f1, v5, v6, .int .i64 x.f5] := ⟨[.int .i64 x.f0], [.string x.f1, .string x.f2, .int .i64 x.f3.f0, .string x.f3.f1, v5, v6, .int .i64 x.f5], rfl, rfl, ⟨[.string x.f1], [.string x.f2, .int .i64 x.f3.f0, .string x.f3.f1, v5, v6, .int .i64 x.f5], rfl, rfl, ⟨[.string x.f2], [.int .i64 x.f3.f0, .string x.f3.f1, v5, v6, .int .i64 x.f5], rfl, rfl, ⟨[.int .i64 x.f3.f0, .string x.f3.f1, v5], [v6, .int .i64 x.f5], rfl, (k24_mkM w base ok x.f3 g5), ⟨[v6], [.int .i64 x.f5], rfl, ⟨v6, rfl, g6⟩, rfl⟩⟩⟩⟩⟩
def rd_T27 (xs : List S27) (i : Int) : S27 := xs.getD i.toNat z27
theorem at_T27 {w : World} {A : Option Addr} {n : Nat} {xs : List S27} (h : Kd.C k27 w A n xs) (i : Int) (h0 : 0 ≤ i) (h1 : i < n) : ∃ ad A5 c5 A6 c6, A = some ad ∧ w.cell? (ad.add (i.toNat * 8)) = some (.int .i64 (rd_T27 xs i).f0) ∧ w.cell? ⟨(ad.add (i.toNat * 8)).block, (ad.add (i.toNat * 8)).off + 1, none⟩ = some (.string (rd_T27 xs i).f1) ∧ w.cell? ⟨(ad.add (i.toNat * 8)).block, (ad.add (i.toNat * 8)).off + 2, none⟩ = some (.string (rd_T27 xs i).f2) ∧ w.cell? ⟨(ad.add (i.toNat * 8)).block, (ad.add (i.toNat * 8)).off + 3, none⟩ = some (.int .i64 (rd_T27 xs i).f3.f0) ∧ w.cell? ⟨(ad.add (i.toNat * 8)).block, (ad.add (i.toNat * 8)).off + 4, none⟩ = some (.string (rd_T27 xs i).f3.f1) ∧ w.cell? ⟨(ad.add (i.toNat * 8)).block, (ad.add (i.toNat * 8)).off + 5, none⟩ = some (.slice A5 (rd_T27 xs i).f3.f2.length c5) ∧ w.cell? ⟨(ad.add (i.toNat * 8)).block, (ad.add (i.toNat * 8)).off + 6, none⟩ = some (.slice A6 (rd_T27 xs i).f4.length c6) ∧ w.cell? ⟨(ad.add (i.toNat * 8)).block, (ad.add (i.toNat * 8)).off + 7, none⟩ = some (.int .i64 (rd_T27 xs i).f5) ∧ (rd_T27 xs i).f3.f2.length ≤ c5 ∧ k24.C w A5 (rd_T27 xs i).f3.f2.length (rd_T27 xs i).f3.f2 ∧ (rd_T27 xs i).f4.length ≤ c6 ∧ (Kd.int .i64).C w A6 (rd_T27 xs i).f4.length (rd_T27 xs i).f4 := by
 obtain ⟨ad, c, e, _, hK, hc0⟩ := Kd.C_get h z27 i h0 h1
 have hc : ∀ j u, c[j]? = some u → w.cell? (ad.add (i.toNat * 8 + j)) = some u := hc0
 obtain ⟨A5, c5, A6, c6, rfl, l5, g5, l6, g6⟩ := k27_open hK
 exact ⟨ad, A5, c5, A6, c6, e, hc 0 _ rfl, by rw [← add_field _ _ 1 (by omega)]; exact hc 1 _ rfl, by rw [← add_field _ _ 2 (by omega)]; exact hc 2 _ rfl, by rw [← add_field _ _ 3 (by omega)]; exact hc 3 _ rfl, by rw [← add_field _ _ 4 (by omega)]; exact hc 4 _ rfl, by rw [← add_field _ _ 5 (by omega)]; exact hc 5 _ rfl, by rw [← add_field _ _ 6 (by omega)]; exact hc 6 _ rfl, by rw [← add_field _ _ 7 (by omega)]; exact hc 7 _ rfl, l5, g5, l6, g6⟩
end Go.Proofs.Ytffjfdoghofkdaa.A
namespace Go.Proofs.Ytffjfdoghofkdaa.A
open Go.RowKit Go.Proofs.Ytffjfdoghofkdaa.Ext Go.Proofs.YtffjfdoghofkdaaW.PrintWords Go.Proofs.YtffjfdoghofkdaaW.PrintLast Go.Proofs.YtffjfdoghofkdaaW.PrintMore
attribute [local go_sem] max2_int min2_int max_two min_two max_three min_three max_four min_four
def laws_szValues.f (a0_0 : ByteArray) (a0_1 : ByteArray) (a0_2 : ByteArray) (a1 : Int) : Option (Int) := if (wrap64 (a1 - (a0_0.size : Int))) < 0 then (some (-1)) else (if (wrap64 ((wrap64 (a1 - (a0_0.size : Int))) - (a0_1.size : Int))) < 0 then (some (-1)) else (if (wrap64 ((wrap64 ((wrap64 (a1 - (a0_0.size : Int))) - (a0_1.size : Int))) - (a0_2.size : Int))) < 0 then (some (-1)) else (some (wrap64 ((wrap64 ((wrap64 (a1 - (a0_0.size : Int))) - (a0_1.size : Int))) - (a0_2.size : Int))))))
theorem laws_szValues.calls (a0_0 : ByteArray) (a0_1 : ByteArray) (a0_2 : ByteArray) (a1 : Int) (r : Int) (w : World) (h : laws_szValues.f a0_0 a0_1 a0_2 a1 = some r) :
  Calls Try.prog 6 #[.agg #[.string a0_0, .string a0_1, .string a0_2], .int .i64 a1] w fun e w' => e = .returned (.int .i64 r) ∧ Below w.heap.size w w' := by
 have hu29 := Try.underlying29
 have HB := Aside0.mk (Below.refl w.heap.size w)
 have H : (if (wrap64 (a1 - (a0_0.size : Int))) < 0 then (some (-1)) else (if (wrap64 ((wrap64 (a1 - (a0_0.size : Int))) - (a0_1.size : Int))) < 0 then (some (-1)) else (if (wrap64 ((wrap64 ((wrap64 (a1 - (a0_0.size : Int))) - (a0_1.size : Int))) - (a0_2.size : Int))) < 0 then (some (-1)) else (some (wrap64 ((wrap64 ((wrap64 (a1 - (a0_0.size : Int))) - (a0_1.size : Int))) - (a0_2.size : Int))))))) = some r := h
 clear h
 by_cases c3 : (wrap64 (a1 - (a0_0.size : Int))) < 0
 rw [if_pos c3] at H
 have c3b0 : decide ((wrap64 (a1 - (a0_0.size : Int))) < 0) = true := decide_eq_true c3
 have c3w : decide ((IntKind.i64.wrap (a1 - (a0_0.size : Int))) < 0) = true := by simp only [i64_w]; exact c3b0
 clear c3
 rotate_left
 rw [if_neg c3] at H
 have c3b0 : decide ((wrap64 (a1 - (a0_0.size : Int))) < 0) = false := decide_eq_false c3
 have c3w : decide ((IntKind.i64.wrap (a1 - (a0_0.size : Int))) < 0) = false := by simp only [i64_w]; exact c3b0
 clear c3
 by_cases c6 : (wrap64 ((wrap64 (a1 - (a0_0.size : Int))) - (a0_1.size : Int))) < 0
 rw [if_pos c6] at H
 have c6b0 : decide ((wrap64 ((wrap64 (a1 - (a0_0.size : Int))) - (a0_1.size : Int))) < 0) = true := decide_eq_true c6
 have c6w : decide ((IntKind.i64.wrap ((IntKind.i64.wrap (a1 - (a0_0.size : Int))) - (a0_1.size : Int))) < 0) = true := by simp only [i64_w]; exact c6b0
 clear c6
 rotate_left
 rw [if_neg c6] at H
 have c6b0 : decide ((wrap64 ((wrap64 (a1 - (a0_0.size : Int))) - (a0_1.size : Int))) < 0) = false := decide_eq_false c6
 have c6w : decide ((IntKind.i64.wrap ((IntKind.i64.wrap (a1 - (a0_0.size : Int))) - (a0_1.size : Int))) < 0) = false := by simp only [i64_w]; exact c6b0
 clear c6
 by_cases c9 : (wrap64 ((wrap64 ((wrap64 (a1 - (a0_0.size : Int))) - (a0_1.size : Int))) - (a0_2.size : Int))) < 0
 rw [if_pos c9] at H
 have c9b0 : decide ((wrap64 ((wrap64 ((wrap64 (a1 - (a0_0.size : Int))) - (a0_1.size : Int))) - (a0_2.size : Int))) < 0) = true := decide_eq_true c9
 have c9w : decide ((IntKind.i64.wrap ((IntKind.i64.wrap ((IntKind.i64.wrap (a1 - (a0_0.size : Int))) - (a0_1.size : Int))) - (a0_2.size : Int))) < 0) = true := by simp only [i64_w]; exact c9b0
 clear c9
 rotate_left
 rw [if_neg c9] at H
 have c9b0 : decide ((wrap64 ((wrap64 ((wrap64 (a1 - (a0_0.size : Int))) - (a0_1.size : Int))) - (a0_2.size : Int))) < 0) = false := decide_eq_false c9
 have c9w : decide ((IntKind.i64.wrap ((IntKind.i64.wrap ((IntKind.i64.wrap (a1 - (a0_0.size : Int))) - (a0_1.size : Int))) - (a0_2.size : Int))) < 0) = false := by simp only [i64_w]; exact c9b0
 clear c9
 rotate_left
 all_goals
  obtain rfl := Option.some.inj H
  go_enter Try.func6, Try.ntmps6
  go_wp2_with (((with_reducible refine gate_dst (N := 2) rfl ?_); refine box_event ?hg (N := 2) ?hd (cs := #[.string a0_0, .string a0_1, .string a0_2]) (t := 29) ?hr ?_; (case hd => rfl); (case hg => rfl); (case hr => first | (go_simp; done) | (go_simp; rfl)); intro gb6001 hg w10 hbox hb; have n0_ := Aside0.mk (below_step za2 hb); have n1_ := Aside0.mk (hbox); have n2_ := Aside0.mk ((by rw [hg]; exact (below_size za2) : w.heap.size ≤ gb6001)); have n3_ := Aside0.mk ((by rw [hg]; exact (below_size za2) : w.heap.size ≤ gb6001)); clear HB; have HB := n0_; have BK6001 := n1_; have GW6001 := n2_; have GE6001 := n3_; clear n0_ n1_ n2_ n3_; clear hb hbox hg; obtain ⟨hcz11_0, hcz11_1, hcz11_2, hfz11_0, hfz11_1, hfz11_2⟩ := blk3 BK6001.out))
  go_ret
  exact ⟨za5, za2⟩
def laws_toValues.f (a0_0 : ByteArray) (a0_1 : ByteArray) (a0_2 : ByteArray) : Option (ByteArray × ByteArray × ByteArray) := some (a0_0, a0_1, a0_2)
theorem laws_toValues.calls (a0_0 : ByteArray) (a0_1 : ByteArray) (a0_2 : ByteArray) (r1 : ByteArray) (r2 : ByteArray) (r3 : ByteArray) (w : World) (h : laws_toValues.f a0_0 a0_1 a0_2 = some (r1, r2, r3)) :
  Calls Try.prog 9 #[.agg #[.string a0_0, .string a0_1, .string a0_2]] w fun e w' => e = .returned (.agg #[.string r1, .string r2, .string r3]) ∧ Below w.heap.size w w' := by
 have hu29 := Try.underlying29
 have hu39 := Try.underlying39
 have HB := Aside0.mk (Below.refl w.heap.size w)
 have H : (some (a0_0, a0_1, a0_2)) = some (r1, r2, r3) := h
 clear h
 simp only [Option.some.injEq, Prod.mk.injEq] at H
 obtain ⟨rfl, rfl, rfl⟩ := H
 go_enter Try.func9, Try.ntmps9
 go_wp2_with (first | ((with_reducible refine gate_dst (N := 1) rfl ?_); refine box_event ?hg (N := 1) ?hd (cs := #[.string a0_0, .string a0_1, .string a0_2]) (t := 29) ?hr ?_; (case hd => rfl); (case hg => rfl); (case hr => first | (go_simp; done) | (go_simp; rfl)); intro gb9001 hg w2 hbox hb; have n0_ := Aside0.mk (below_step za2 hb); have n1_ := Aside0.mk (hbox); have n2_ := Aside0.mk ((by rw [hg]; exact (below_size za2) : w.heap.size ≤ gb9001)); have n3_ := Aside0.mk ((by rw [hg]; exact (below_size za2) : w.heap.size ≤ gb9001)); clear HB; have HB := n0_; have BK9001 := n1_; have GW9001 := n2_; have GE9001 := n3_; clear n0_ n1_ n2_ n3_; clear hb hbox hg) | ((with_reducible refine gate_dst (N := 2) rfl ?_); refine box_event ?hg (N := 2) ?hd (cs := #[.string (⟨#[]⟩ : ByteArray), .string (⟨#[]⟩ : ByteArray), .string (⟨#[]⟩ : ByteArray)]) (t := 39) ?hr ?_; (case hd => rfl); (case hg => rfl); (case hr => first | (go_simp; done) | (go_simp; rfl)); intro gb9002 hg w3 hbox hb; have n0_ := Aside0.mk (blk_below (g := gb9001) (o := .cells #[.string a0_0, .string a0_1, .string a0_2] 29 (0, 0)) (za0 BK9001.out) hb); have n1_ := Aside0.mk (below_step za2 hb); have n2_ := Aside0.mk (hbox); have n3_ := Aside0.mk ((by rw [hg]; exact (below_size za2) : w.heap.size ≤ gb9002)); have n4_ := Aside0.mk ((by rw [hg]; exact (below_size za2) : w.heap.size ≤ gb9002)); have n5_ := Aside0.mk ((by rw [hg]; exact Nat.ne_of_lt (blk_lt (g := gb9001) (o := .cells #[.string a0_0, .string a0_1, .string a0_2] 29 (0, 0)) (za0 BK9001.out)) : gb9001 ≠ gb9002)); have n6_ := Aside0.mk ((by rw [hg]; exact Nat.ne_of_gt (blk_lt (g := gb9001) (o := .cells #[.string a0_0, .string a0_1, .string a0_2] 29 (0, 0)) (za0 BK9001.out)) : gb9002 ≠ gb9001)); clear BK9001; clear HB; have BK9001 := n0_; have HB := n1_; have BK9002 := n2_; have GW9002 := n3_; have GE9002 := n4_; have NB9001_9002 := n5_; have NB9002_9001 := n6_; clear n0_ n1_ n2_ n3_ n4_ n5_ n6_; clear hb hbox hg) | ((with_reducible refine gate_dst (N := 3) rfl ?_); refine box_event ?hg (N := 3) ?hd (cs := #[.string (⟨#[]⟩ : ByteArray), .string (⟨#[]⟩ : ByteArray), .string (⟨#[]⟩ : ByteArray)]) (t := 39) ?hr ?_; (case hd => rfl); (case hg => rfl); (case hr => first | (go_simp; done) | (go_simp; rfl)); intro gb9003 hg w4 hbox hb; have n0_ := Aside0.mk (blk_below (g := gb9001) (o := .cells #[.string a0_0, .string a0_1, .string a0_2] 29 (0, 0)) (za0 BK9001.out) hb); have n1_ := Aside0.mk (blk_below (g := gb9002) (o := .cells #[.string (⟨#[]⟩ : ByteArray), .string (⟨#[]⟩ : ByteArray), .string (⟨#[]⟩ : ByteArray)] 39 (0, 0)) (za0 BK9002.out) hb); have n2_ := Aside0.mk (below_step za2 hb); have n3_ := Aside0.mk (hbox); have n4_ := Aside0.mk ((by rw [hg]; exact (below_size za2) : w.heap.size ≤ gb9003)); have n5_ := Aside0.mk ((by rw [hg]; exact (below_size za2) : w.heap.size ≤ gb9003)); have n6_ := Aside0.mk ((by rw [hg]; exact Nat.ne_of_lt (blk_lt (g := gb9001) (o := .cells #[.string a0_0, .string a0_1, .string a0_2] 29 (0, 0)) (za0 BK9001.out)) : gb9001 ≠ gb9003)); have n7_ := Aside0.mk ((by rw [hg]; exact Nat.ne_of_gt (blk_lt (g := gb9001) (o := .cells #[.string a0_0, .string a0_1, .string a0_2] 29 (0, 0)) (za0 BK9001.out)) : gb9003 ≠ gb9001)); have n8_ := Aside0.mk ((by rw [hg]; exact Nat.ne_of_lt (blk_lt (g := gb9002) (o := .cells #[.string (⟨#[]⟩ : ByteArray), .string (⟨#[]⟩ : ByteArray), .string (⟨#[]⟩ : ByteArray)] 39 (0, 0)) (za0 BK9002.out)) : gb9002 ≠ gb9003)); have n9_ := Aside0.mk ((by rw [hg]; exact Nat.ne_of_gt (blk_lt (g := gb9002) (o := .cells #[.string (⟨#[]⟩ : ByteArray), .string (⟨#[]⟩ : ByteArray), .string (⟨#[]⟩ : ByteArray)] 39 (0, 0)) (za0 BK9002.out)) : gb9003 ≠ gb9002)); clear BK9001; clear BK9002; clear HB; have BK9001 := n0_; have BK9002 := n1_; have HB := n2_; have BK9003 := n3_; have GW9003 := n4_; have GE9003 := n5_; have NB9001_9003 := n6_; have NB9003_9001 := n7_; have NB9002_9003 := n8_; have NB9003_9002 := n9_; clear n0_ n1_ n2_ n3_ n4_ n5_ n6_ n7_ n8_ n9_; clear hb hbox hg; have hnb5 := NB9001_9002.out; have hnc5 := NB9002_9001.out; have hnb6 := NB9001_9003.out; have hnc6 := NB9003_9001.out; obtain ⟨hcz7_0, hcz7_1, hcz7_2, hfz7_0, hfz7_1, hfz7_2⟩ := blk3 BK9001.out; have hnb8 := NB9003_9002.out; have hnc8 := NB9002_9003.out; obtain ⟨hcz9_0, hcz9_1, hcz9_2, hfz9_0, hfz9_1, hfz9_2⟩ := blk3 BK9003.out; obtain ⟨hcz10_0, hcz10_1, hcz10_2, hfz10_0, hfz10_1, hfz10_2⟩ := blk3 BK9002.out))
 refine bodyPost_ret (results_cell_row rfl _ _ gb9002 39 #[.string a0_0, .string a0_1, .string a0_2] (0, 0) _ rfl (by (with_reducible repeat (first | refine blk_drewN ?_ _ | refine blk_drew ?_ | refine blk_alloc ?_ _)); refine blk_put (cs := #[.string a0_0, .string a0_1, .string (⟨#[]⟩ : ByteArray)]) ?_ 2 _ rfl; (with_reducible repeat (first | refine blk_drewN ?_ _ | refine blk_drew ?_ | refine blk_alloc ?_ _)); refine blk_put (cs := #[.string a0_0, .string (⟨#[]⟩ : ByteArray), .string (⟨#[]⟩ : ByteArray)]) ?_ 1 _ rfl; (with_reducible repeat (first | refine blk_drewN ?_ _ | refine blk_drew ?_ | refine blk_alloc ?_ _)); refine blk_put (cs := #[.string (⟨#[]⟩ : ByteArray), .string (⟨#[]⟩ : ByteArray), .string (⟨#[]⟩ : ByteArray)]) ?_ 0 _ rfl; (with_reducible repeat (first | refine blk_drewN ?_ _ | refine blk_drew ?_ | refine blk_alloc ?_ _)); refine blk_far ?_ NB9002_9003.out _; (with_reducible repeat (first | refine blk_drewN ?_ _ | refine blk_drew ?_ | refine blk_alloc ?_ _)); refine blk_far ?_ NB9002_9003.out _; (with_reducible repeat (first | refine blk_drewN ?_ _ | refine blk_drew ?_ | refine blk_alloc ?_ _)); refine blk_far ?_ NB9002_9003.out _; (with_reducible repeat (first | refine blk_drewN ?_ _ | refine blk_drew ?_ | refine blk_alloc ?_ _)); exact BK9002.out) Try.underlying39 rfl (by kernel_rfl)) rfl ?_
 exact ⟨za5, za2⟩
end Go.Proofs.Ytffjfdoghofkdaa.A
namespace Go.Proofs.Ytffjfdoghofkdaa.A
open Go.RowKit Go.Proofs.Ytffjfdoghofkdaa.Ext Go.Proofs.YtffjfdoghofkdaaW.PrintWords Go.Proofs.YtffjfdoghofkdaaW.PrintLast Go.Proofs.YtffjfdoghofkdaaW.PrintMore
attribute [local go_sem] max2_int min2_int max_two min_two max_three min_three max_four min_four
def laws_szRegexSG.l0 (gF : Nat → Int → ByteArray → List (S24) → Int → Option (Int)) : Nat → List (S24) → Int → Int → Option (Int)
 | 0, _, _, _ => none
 | k + 1, x0, x1, x5 => if x5 < (x0.length : Int) then (if 0 ≤ x5 then ((gF k ((rd_T24 x0 x5).f0) ((rd_T24 x0 x5).f1) ((rd_T24 x0 x5).f2) x1).bind fun t41002 => (if t41002 < 0 then (some (-1)) else (laws_szRegexSG.l0 gF k x0 t41002 (wrap64 (x5 + 1))))) else (none)) else (some x1)
def laws_szRegexSG.f (gF : Nat → Int → ByteArray → List (S24) → Int → Option (Int)) (k : Nat) (l0 : List (S24)) (a1 : Int) : Option (Int) := if (wrap64 (a1 - (l0.length : Int))) < 0 then (some (-1)) else (laws_szRegexSG.l0 gF k l0 (wrap64 (a1 - (l0.length : Int))) 0)
theorem laws_szRegexSG.mono_l (gF : Nat → Int → ByteArray → List (S24) → Int → Option (Int)) (gM : ∀ a0 a1 a2 a3 k, LeO (gF k a0 a1 a2 a3) (gF (k + 1) a0 a1 a2 a3)) : ∀ k, (∀ y0 y1 y2, LeO (laws_szRegexSG.l0 gF k y0 y1 y2) (laws_szRegexSG.l0 gF (k + 1) y0 y1 y2))
 | 0 => fun _ _ _ r h => by simp [laws_szRegexSG.l0] at h
 | k + 1 => by
  have ih0 := laws_szRegexSG.mono_l gF gM k
  ·intro y0 y1 y2
   unfold laws_szRegexSG.l0
   repeat' first
   | with_reducible first | exact ih0 _ _ _ | exact gM _ _ _ _ _ | exact LeO.refl _ | exact LeO.none _ | refine LeO.ite ?_ ?_ | refine LeO.bind ?_ (fun _ => ?_)
theorem laws_szRegexSG.mono (gF : Nat → Int → ByteArray → List (S24) → Int → Option (Int)) (gM : ∀ a0 a1 a2 a3 k, LeO (gF k a0 a1 a2 a3) (gF (k + 1) a0 a1 a2 a3)) : ∀ a0 a1 k, LeO (laws_szRegexSG.f gF k a0 a1) (laws_szRegexSG.f gF (k + 1) a0 a1) := by
 intro a0 a1 k
 have ih0 := laws_szRegexSG.mono_l gF gM k
 unfold laws_szRegexSG.f
 repeat' first
   | with_reducible first | exact ih0 _ _ _ | exact gM _ _ _ _ _ | exact LeO.refl _ | exact LeO.none _ | refine LeO.ite ?_ ?_ | refine LeO.bind ?_ (fun _ => ?_)
theorem laws_szRegexSG.calls (gF : Nat → Int → ByteArray → List (S24) → Int → Option (Int)) (gC : ∀ (k : Nat) (a0_0 : Int) (a0_1 : ByteArray) (A0_2 : Option Addr) (c0_2 : Nat) (l0_2 : List (S24)) (a1 : Int) (r : Int) (w : World) (hr0_2 : Kd.C k24 w A0_2 l0_2.length l0_2) (hc0_2 : l0_2.length ≤ c0_2) (h : gF k a0_0 a0_1 l0_2 a1 = some r), Calls Try.prog 17 #[.agg #[.int .i64 a0_0, .string a0_1, .slice A0_2 l0_2.length c0_2], .int .i64 a1] w fun e w' => e = .returned (.int .i64 r) ∧ Below w.heap.size w w') (k : Nat) (A0 : Option Addr) (c0 : Nat) (l0 : List (S24)) (a1 : Int) (r : Int) (w : World) (hr0 : Kd.C k24 w A0 l0.length l0) (hc0 : l0.length ≤ c0) (h : laws_szRegexSG.f gF k l0 a1 = some r) :
  Calls Try.prog 41 #[.slice A0 l0.length c0, .int .i64 a1] w fun e w' => e = .returned (.int .i64 r) ∧ Below w.heap.size w w' := by
 have hu24 := Try.underlying24
 have HR0 := Aside0.mk hr0
 have HC0 := Aside0.mk hc0
 clear hr0 hc0
 have HB := Aside0.mk (Below.refl w.heap.size w)
 have H : (if (wrap64 (a1 - (l0.length : Int))) < 0 then (some (-1)) else (laws_szRegexSG.l0 gF k l0 (wrap64 (a1 - (l0.length : Int))) 0)) = some r := h
 clear h
 by_cases c3 : (wrap64 (a1 - (l0.length : Int))) < 0
 ·rw [if_pos c3] at H
  have c3b0 : decide ((wrap64 (a1 - (l0.length : Int))) < 0) = true := decide_eq_true c3
  have c3w : decide ((IntKind.i64.wrap (a1 - (l0.length : Int))) < 0) = true := by simp only [i64_w]; exact c3b0
  clear c3
  obtain rfl := Option.some.inj H
  go_enter Try.func41, Try.ntmps41
  go_wp2
  go_ret
  exact ⟨za5, za2⟩
 ·rw [if_neg c3] at H
  have c3b0 : decide ((wrap64 (a1 - (l0.length : Int))) < 0) = false := decide_eq_false c3
  have c3w : decide ((IntKind.i64.wrap (a1 - (l0.length : Int))) < 0) = false := by simp only [i64_w]; exact c3b0
  clear c3
  have H' := Aside0.mk H
  clear H
  go_enter Try.func41, Try.ntmps41
  go_wp2
  first | go_loopg [1, 5] k (fun kq v1 v5 w' => ∃ (x1_1 : Int) (x5_1 : Int), v1 = .int .i64 x1_1 ∧ v5 = .int .i64 x5_1 ∧ Aside0 (laws_szRegexSG.l0 gF kq l0 x1_1 x5_1 = some r) ∧ Aside0 (kq ≤ k) ∧ Aside0 (Below w.heap.size w w')) | (simp only [Act.put, List.setIfInBounds_toArray, List.set_cons_succ, List.set_cons_zero]; go_loopg [1, 5] k (fun kq v1 v5 w' => ∃ (x1_1 : Int) (x5_1 : Int), v1 = .int .i64 x1_1 ∧ v5 = .int .i64 x5_1 ∧ Aside0 (laws_szRegexSG.l0 gF kq l0 x1_1 x5_1 = some r) ∧ Aside0 (kq ≤ k) ∧ Aside0 (Below w.heap.size w w')))
  case atStart => exact ⟨(wrap64 (a1 - (l0.length : Int))), (0), za6, za6, H', ⟨Nat.le_refl _⟩, ⟨za2⟩⟩
  case round =>
   clear H'
   try clear c3
   try clear c3b0
   obtain ⟨x1_1, x5_1, rfl, rfl, HA, HK1, HB⟩ := hrel
   cases gk with
   | zero => exact absurd HA.out (by simp [laws_szRegexSG.l0])
   | succ k1 =>
   have H := HA.out
   clear HA
   simp only [laws_szRegexSG.l0] at H
   by_cases c4 : x5_1 < (l0.length : Int)
   rw [if_pos c4] at H
   have c4b0 : decide (x5_1 < (l0.length : Int)) = true := decide_eq_true c4
   clear c4
   by_cases c5 : 0 ≤ x5_1
   rw [if_pos c5] at H
   have c5b0 : decide (0 ≤ x5_1) = true := decide_eq_true c5
   clear c5
   replace H := Option.bind_eq_some_iff.mp H
   obtain ⟨t41002, A60, H⟩ := H
   replace H : (if t41002 < 0 then (some (-1)) else (laws_szRegexSG.l0 gF k1 l0 t41002 (wrap64 (x5_1 + 1)))) = some r := H
   have A6 := Aside0.mk A60
   clear A60
   by_cases c7 : t41002 < 0
   rw [if_pos c7] at H
   have c7b0 : decide (t41002 < 0) = true := decide_eq_true c7
   clear c7
   obtain rfl := Option.some.inj H
   have fin0_ := Aside0.mk trivial
   rotate_left
   rw [if_neg c7] at H
   have c7b0 : decide (t41002 < 0) = false := decide_eq_false c7
   clear c7
   have H' := Aside0.mk H
   clear H
   have fin1_ := Aside0.mk trivial
   rotate_left
   ·rw [if_neg c5] at H
    exact absurd H (by simp)
   ·rw [if_neg c4] at H
    have c4b0 : decide (x5_1 < (l0.length : Int)) = false := decide_eq_false c4
    clear c4
    obtain rfl := Option.some.inj H
    go_wp2
    go_ret
    exact ⟨za5, za2⟩
   all_goals
    have p41001 : 0 ≤ (x5_1 : Int) := of_decide_eq_true za7
    have q41001 : x5_1 < (l0.length : Int) := of_decide_eq_true za7
    obtain ⟨ad41001, A41001_2, c41001_2, e41001, hx41001_0, hx41001_1, hx41001_2, hl41001_2, hi41001_2⟩ := at_T24 HR0.out x5_1 p41001 q41001
    cases e41001
    replace hx41001_0 := (HB.out.cell (World.block_lt_of_cell? w _ hx41001_0)).trans hx41001_0
    replace hx41001_1 := (HB.out.cell (World.block_lt_of_cell? w _ hx41001_1)).trans hx41001_1
    replace hx41001_2 := (HB.out.cell (World.block_lt_of_cell? w _ hx41001_2)).trans hx41001_2
    have HR41001_2 := Aside0.mk hi41001_2
    have HC41001_2 := Aside0.mk hl41001_2
    clear hi41001_2 hl41001_2
    replace p41001 := eq_true p41001
    replace q41001 := eq_true q41001
    go_wp2_with (((with_reducible refine gate_callee (f := 17) rfl ?_); refine goesL_ (some 23) rfl rfl Try.func17 (by kernel_rfl) rfl #[.agg #[.int .i64 ((rd_T24 l0 x5_1).f0), .string ((rd_T24 l0 x5_1).f1), .slice A41001_2 ((rd_T24 l0 x5_1).f2).length c41001_2], .int .i64 x1_1] rfl za3 ?_; (with_reducible refine (gC k1 ((rd_T24 l0 x5_1).f0) ((rd_T24 l0 x5_1).f1) _ _ ((rd_T24 l0 x5_1).f2) x1_1 t41002 _ ?side1 ?side2 A6.out).mono ?_); (case side1 => repeat (first | exact (Kd.C_below HR41001_2.out HB.out) | (with_reducible refine Kd.C_alloc ?_ _) | (with_reducible refine Kd.C_drewN ?_ _) | (with_reducible refine Kd.C_drew ?_))); (case side2 => exact HC41001_2.out); rintro e w8 ⟨rfl, hb⟩; refine ⟨_, rfl, ?_⟩; have n0_ := Aside0.mk (below_step za2 hb); clear HB; have HB := n0_; clear n0_; (try clear hb); (try clear hb2); (try clear hk); (try clear hi)))
    first
    | (
     clear fin0_
     go_ret
     exact ⟨za5, za2⟩)
    | (
     clear fin1_
     go_roundg k1
     case measure => have := HK1.out; omega
     case rel => exact ⟨(t41002), (wrap64 (x5_1 + 1)), za6, za6, H', ⟨za11⟩, ⟨za2⟩⟩)
theorem laws_szRegexSG.mono_lg (gF gF2 : Nat → Int → ByteArray → List (S24) → Int → Option (Int)) (hg : ∀ b0 b1 b2 b3 k, LeO (gF k b0 b1 b2 b3) (gF2 k b0 b1 b2 b3)) : ∀ k, (∀ y0 y1 y2, LeO (laws_szRegexSG.l0 gF k y0 y1 y2) (laws_szRegexSG.l0 gF2 k y0 y1 y2))
 | 0 => fun _ _ _ r h => by simp [laws_szRegexSG.l0] at h
 | k + 1 => by
  have ih0 := laws_szRegexSG.mono_lg gF gF2 hg k
  ·intro y0 y1 y2
   unfold laws_szRegexSG.l0
   repeat' first
   | (with_reducible exact ih0 _ _ _)
   | (with_reducible exact hg _ _ _ _ _)
   | (with_reducible exact LeO.refl _)
   | (with_reducible exact LeO.none _)
   | (with_reducible refine LeO.ite ?_ ?_)
   | (with_reducible refine LeO.bind ?_ (fun _ => ?_))
   | exact hg _ _ _ _ _
theorem laws_szRegexSG.monog (gF gF2 : Nat → Int → ByteArray → List (S24) → Int → Option (Int)) (hg : ∀ b0 b1 b2 b3 k, LeO (gF k b0 b1 b2 b3) (gF2 k b0 b1 b2 b3)) : ∀ a0 a1 k, LeO (laws_szRegexSG.f gF k a0 a1) (laws_szRegexSG.f gF2 k a0 a1) := by
 intro a0 a1 k
 have ih0 := laws_szRegexSG.mono_lg gF gF2 hg k
 unfold laws_szRegexSG.f
 repeat' first
   | (with_reducible exact ih0 _ _ _)
   | (with_reducible exact hg _ _ _ _ _)
   | (with_reducible exact LeO.refl _)
   | (with_reducible exact LeO.none _)
   | (with_reducible refine LeO.ite ?_ ?_)
   | (with_reducible refine LeO.bind ?_ (fun _ => ?_))
   | exact hg _ _ _ _ _
def laws_szRegexG.f (gF : Nat → Int → ByteArray → List (S24) → Int → Option (Int)) (k : Nat) (a0_0 : Int) (a0_1 : ByteArray) (l0_2 : List (S24)) (a1 : Int) : Option (Int) := if (wrap64 (a1 - (a0_1.size : Int))) < 0 then (some (-1)) else ((laws_szRegexSG.f gF k l0_2 (wrap64 (a1 - (a0_1.size : Int)))).bind fun t17002 => (if t17002 < 0 then (some (-1)) else (some t17002)))
theorem laws_szRegexG.mono (gF : Nat → Int → ByteArray → List (S24) → Int → Option (Int)) (gM : ∀ a0 a1 a2 a3 k, LeO (gF k a0 a1 a2 a3) (gF (k + 1) a0 a1 a2 a3)) : ∀ a0 a1 a2 a3 k, LeO (laws_szRegexG.f gF k a0 a1 a2 a3) (laws_szRegexG.f gF (k + 1) a0 a1 a2 a3) := by
 intro a0 a1 a2 a3 k
 unfold laws_szRegexG.f
 repeat' first
   | with_reducible first | exact laws_szRegexSG.mono gF gM _ _ _ | exact LeO.refl _ | exact LeO.none _ | refine LeO.ite ?_ ?_ | refine LeO.bind ?_ (fun _ => ?_)
theorem laws_szRegexG.calls (gF : Nat → Int → ByteArray → List (S24) → Int → Option (Int)) (gC : ∀ (k : Nat) (a0_0 : Int) (a0_1 : ByteArray) (A0_2 : Option Addr) (c0_2 : Nat) (l0_2 : List (S24)) (a1 : Int) (r : Int) (w : World) (hr0_2 : Kd.C k24 w A0_2 l0_2.length l0_2) (hc0_2 : l0_2.length ≤ c0_2) (h : gF k a0_0 a0_1 l0_2 a1 = some r), Calls Try.prog 17 #[.agg #[.int .i64 a0_0, .string a0_1, .slice A0_2 l0_2.length c0_2], .int .i64 a1] w fun e w' => e = .returned (.int .i64 r) ∧ Below w.heap.size w w') (k : Nat) (a0_0 : Int) (a0_1 : ByteArray) (A0_2 : Option Addr) (c0_2 : Nat) (l0_2 : List (S24)) (a1 : Int) (r : Int) (w : World) (hr0_2 : Kd.C k24 w A0_2 l0_2.length l0_2) (hc0_2 : l0_2.length ≤ c0_2) (h : laws_szRegexG.f gF k a0_0 a0_1 l0_2 a1 = some r) :
  Calls Try.prog 17 #[.agg #[.int .i64 a0_0, .string a0_1, .slice A0_2 l0_2.length c0_2], .int .i64 a1] w fun e w' => e = .returned (.int .i64 r) ∧ Below w.heap.size w w' := by
 have hu24 := Try.underlying24
 have HR0_2 := Aside0.mk hr0_2
 have HC0_2 := Aside0.mk hc0_2
 clear hr0_2 hc0_2
 have HB := Aside0.mk (Below.refl w.heap.size w)
 have H : (if (wrap64 (a1 - (a0_1.size : Int))) < 0 then (some (-1)) else ((laws_szRegexSG.f gF k l0_2 (wrap64 (a1 - (a0_1.size : Int)))).bind fun t17002 => (if t17002 < 0 then (some (-1)) else (some t17002)))) = some r := h
 clear h
 by_cases c3 : (wrap64 (a1 - (a0_1.size : Int))) < 0
 rw [if_pos c3] at H
 have c3b0 : decide ((wrap64 (a1 - (a0_1.size : Int))) < 0) = true := decide_eq_true c3
 have c3w : decide ((IntKind.i64.wrap (a1 - (a0_1.size : Int))) < 0) = true := by simp only [i64_w]; exact c3b0
 clear c3
 rotate_left
 rw [if_neg c3] at H
 have c3b0 : decide ((wrap64 (a1 - (a0_1.size : Int))) < 0) = false := decide_eq_false c3
 have c3w : decide ((IntKind.i64.wrap (a1 - (a0_1.size : Int))) < 0) = false := by simp only [i64_w]; exact c3b0
 clear c3
 replace H := Option.bind_eq_some_iff.mp H
 obtain ⟨t17002, A60, H⟩ := H
 replace H : (if t17002 < 0 then (some (-1)) else (some t17002)) = some r := H
 have A6 := Aside0.mk A60
 clear A60
 by_cases c7 : t17002 < 0
 rw [if_pos c7] at H
 have c7b0 : decide (t17002 < 0) = true := decide_eq_true c7
 clear c7
 rotate_left
 rw [if_neg c7] at H
 have c7b0 : decide (t17002 < 0) = false := decide_eq_false c7
 clear c7
 rotate_left
 all_goals
  obtain rfl := Option.some.inj H
  go_enter Try.func17, Try.ntmps17
  go_wp2_with (first | ((with_reducible refine gate_dst (N := 2) rfl ?_); refine box_event ?hg (N := 2) ?hd (cs := #[.int .i64 a0_0, .string a0_1, .slice A0_2 l0_2.length c0_2]) (t := 24) ?hr ?_; (case hd => rfl); (case hg => rfl); (case hr => first | (go_simp; done) | (go_simp; rfl)); intro gb17001 hg w11 hbox hb; have n0_ := Aside0.mk (below_step za2 hb); have n1_ := Aside0.mk (hbox); have n2_ := Aside0.mk ((by rw [hg]; exact (below_size za2) : w.heap.size ≤ gb17001)); have n3_ := Aside0.mk ((by rw [hg]; exact (below_size za2) : w.heap.size ≤ gb17001)); clear HB; have HB := n0_; have BK17001 := n1_; have GW17001 := n2_; have GE17001 := n3_; clear n0_ n1_ n2_ n3_; clear hb hbox hg; obtain ⟨hcz12_0, hcz12_1, hcz12_2, hfz12_0, hfz12_1, hfz12_2⟩ := blk3 BK17001.out) | ((with_reducible refine gate_callee (f := 41) rfl ?_); refine goesL_ (some 15) rfl rfl Try.func41 (by kernel_rfl) rfl #[.slice A0_2 l0_2.length c0_2, .int .i64 (wrap64 (a1 - (a0_1.size : Int)))] rfl za3 ?_; (with_reducible refine (laws_szRegexSG.calls gF gC k _ _ l0_2 (wrap64 (a1 - (a0_1.size : Int))) t17002 _ ?side1 ?side2 A6.out).mono ?_); (case side1 => repeat (first | exact (Kd.C_below HR0_2.out HB.out) | (with_reducible refine Kd.C_alloc ?_ _) | (with_reducible refine Kd.C_drewN ?_ _) | (with_reducible refine Kd.C_drew ?_))); (case side2 => exact HC0_2.out); rintro e w13 ⟨rfl, hb⟩; refine ⟨_, rfl, ?_⟩; have n0_ := Aside0.mk (blk_below (g := gb17001) (o := .cells #[.int .i64 a0_0, .string a0_1, .slice A0_2 l0_2.length c0_2] 24 (0, 0)) (za0 BK17001.out) hb); have n1_ := Aside0.mk (below_step za2 hb); clear BK17001; clear HB; have BK17001 := n0_; have HB := n1_; clear n0_ n1_; (try clear hb); (try clear hb2); (try clear hk); (try clear hi)))
  go_ret
  exact ⟨za5, za2⟩
theorem laws_szRegexG.monog (gF gF2 : Nat → Int → ByteArray → List (S24) → Int → Option (Int)) (hg : ∀ b0 b1 b2 b3 k, LeO (gF k b0 b1 b2 b3) (gF2 k b0 b1 b2 b3)) : ∀ a0 a1 a2 a3 k, LeO (laws_szRegexG.f gF k a0 a1 a2 a3) (laws_szRegexG.f gF2 k a0 a1 a2 a3) := by
 intro a0 a1 a2 a3 k
 unfold laws_szRegexG.f
 repeat' first
   | (with_reducible exact laws_szRegexSG.monog gF gF2 hg _ _ _)
   | (with_reducible exact LeO.refl _)
   | (with_reducible exact LeO.none _)
   | (with_reducible refine LeO.ite ?_ ?_)
   | (with_reducible refine LeO.bind ?_ (fun _ => ?_))
   | exact laws_szRegexSG.monog gF gF2 hg _ _ _
def laws_szRegex.f : Nat → Int → ByteArray → List (S24) → Int → Option (Int)
 | 0, _, _, _, _ => none
 | K + 1, a0_, a1_, a2_, a3_ => laws_szRegexG.f (fun _ => laws_szRegex.f K) K a0_ a1_ a2_ a3_
theorem laws_szRegex.mono : ∀ a0 a1 a2 a3 k, LeO (laws_szRegex.f k a0 a1 a2 a3) (laws_szRegex.f (k + 1) a0 a1 a2 a3) := by
 intro a0_ a1_ a2_ a3_ k
 induction k generalizing a0_ a1_ a2_ a3_ with
 | zero => exact LeO.none _
 | succ K ih =>
  intro r h
  have h1 := laws_szRegexG.monog (fun _ => laws_szRegex.f K) (fun _ => laws_szRegex.f (K + 1)) (fun a0_ a1_ a2_ a3_ k => ih a0_ a1_ a2_ a3_) a0_ a1_ a2_ a3_ K r h
  exact laws_szRegexG.mono (fun _ => laws_szRegex.f (K + 1)) (fun a0_ a1_ a2_ a3_ k => LeO.refl _) a0_ a1_ a2_ a3_ K r h1
theorem laws_szRegex.calls (k : Nat) (a0_0 : Int) (a0_1 : ByteArray) (A0_2 : Option Addr) (c0_2 : Nat) (l0_2 : List (S24)) (a1 : Int) (r : Int) (w : World) (hr0_2 : Kd.C k24 w A0_2 l0_2.length l0_2) (hc0_2 : l0_2.length ≤ c0_2) (h : laws_szRegex.f k a0_0 a0_1 l0_2 a1 = some r) :
  Calls Try.prog 17 #[.agg #[.int .i64 a0_0, .string a0_1, .slice A0_2 l0_2.length c0_2], .int .i64 a1] w fun e w' => e = .returned (.int .i64 r) ∧ Below w.heap.size w w' := by
 induction k generalizing a0_0 a0_1 A0_2 c0_2 l0_2 a1 r w hr0_2 hc0_2 with
 | zero => exact absurd h (by simp [laws_szRegex.f])
 | succ K ih => exact laws_szRegexG.calls (fun _ => laws_szRegex.f K) (fun k a0_0 a0_1 A0_2 c0_2 l0_2 a1 r w hr0_2 hc0_2 h => ih a0_0 a0_1 A0_2 c0_2 l0_2 a1 r w hr0_2 hc0_2 h) K a0_0 a0_1 A0_2 c0_2 l0_2 a1 r w hr0_2 hc0_2 h
def laws_szRegexS.f (k : Nat) (l0 : List (S24)) (a1 : Int) : Option (Int) := laws_szRegexSG.f laws_szRegex.f k l0 a1
theorem laws_szRegexS.mono : ∀ a0 a1 k, LeO (laws_szRegexS.f k a0 a1) (laws_szRegexS.f (k + 1) a0 a1) := laws_szRegexSG.mono laws_szRegex.f laws_szRegex.mono
theorem laws_szRegexS.calls (k : Nat) (A0 : Option Addr) (c0 : Nat) (l0 : List (S24)) (a1 : Int) (r : Int) (w : World) (hr0 : Kd.C k24 w A0 l0.length l0) (hc0 : l0.length ≤ c0) (h : laws_szRegexS.f k l0 a1 = some r) :
  Calls Try.prog 41 #[.slice A0 l0.length c0, .int .i64 a1] w fun e w' => e = .returned (.int .i64 r) ∧ Below w.heap.size w w' := laws_szRegexSG.calls laws_szRegex.f laws_szRegex.calls k A0 c0 l0 a1 r w hr0 hc0 h
def laws_toRegexSG.l0 (gF : Nat → Int → ByteArray → List (S24) → Option (Int × ByteArray × (List (S35)))) : Nat → List (S24) → List (S35) → Int → Option ((List (S35)))
 | 0, _, _, _ => none
 | k + 1, x0, x3, x4 => if x4 < (x0.length : Int) then (if 0 ≤ x4 then ((gF k ((rd_T24 x0 x4).f0) ((rd_T24 x0 x4).f1) ((rd_T24 x0 x4).f2)).bind fun bt51005 => (if x4 < (x3.length : Int) then (laws_toRegexSG.l0 gF k x0 (x3.set (x4 : Int).toNat (⟨bt51005.1, bt51005.2.1, bt51005.2.2⟩ : S35)) (wrap64 (x4 + 1))) else (none))) else (none)) else (some x3)
def laws_toRegexSG.f (gF : Nat → Int → ByteArray → List (S24) → Option (Int × ByteArray × (List (S35)))) (k : Nat) (l0 : List (S24)) : Option ((List (S35))) := if 0 ≤ (l0.length : Int) then (if ((l0.length : Int) : Int).toNat ≤ 5864062014805 then (laws_toRegexSG.l0 gF k l0 (List.replicate ((l0.length : Int) : Int).toNat z35) 0) else (none)) else (none)
theorem laws_toRegexSG.mono_l (gF : Nat → Int → ByteArray → List (S24) → Option (Int × ByteArray × (List (S35)))) (gM : ∀ a0 a1 a2 k, LeO (gF k a0 a1 a2) (gF (k + 1) a0 a1 a2)) : ∀ k, (∀ y0 y1 y2, LeO (laws_toRegexSG.l0 gF k y0 y1 y2) (laws_toRegexSG.l0 gF (k + 1) y0 y1 y2))
 | 0 => fun _ _ _ r h => by simp [laws_toRegexSG.l0] at h
 | k + 1 => by
  have ih0 := laws_toRegexSG.mono_l gF gM k
  ·intro y0 y1 y2
   unfold laws_toRegexSG.l0
   repeat' first
   | with_reducible first | exact ih0 _ _ _ | exact gM _ _ _ _ | exact LeO.refl _ | exact LeO.none _ | refine LeO.ite ?_ ?_ | refine LeO.bind ?_ (fun _ => ?_)
theorem laws_toRegexSG.mono (gF : Nat → Int → ByteArray → List (S24) → Option (Int × ByteArray × (List (S35)))) (gM : ∀ a0 a1 a2 k, LeO (gF k a0 a1 a2) (gF (k + 1) a0 a1 a2)) : ∀ a0 k, LeO (laws_toRegexSG.f gF k a0) (laws_toRegexSG.f gF (k + 1) a0) := by
 intro a0 k
 have ih0 := laws_toRegexSG.mono_l gF gM k
 unfold laws_toRegexSG.f
 repeat' first
   | with_reducible first | exact ih0 _ _ _ | exact gM _ _ _ _ | exact LeO.refl _ | exact LeO.none _ | refine LeO.ite ?_ ?_ | refine LeO.bind ?_ (fun _ => ?_)
theorem laws_toRegexSG.calls (gF : Nat → Int → ByteArray → List (S24) → Option (Int × ByteArray × (List (S35)))) (gC : ∀ (k : Nat) (a0_0 : Int) (a0_1 : ByteArray) (A0_2 : Option Addr) (c0_2 : Nat) (l0_2 : List (S24)) (r1 : Int) (r2 : ByteArray) (r3 : List (S35)) (w : World) (hr0_2 : Kd.C k24 w A0_2 l0_2.length l0_2) (hc0_2 : l0_2.length ≤ c0_2) (h : gF k a0_0 a0_1 l0_2 = some (r1, r2, r3)), Calls Try.prog 22 #[.agg #[.int .i64 a0_0, .string a0_1, .slice A0_2 l0_2.length c0_2]] w fun e w' => ∃ v2_ : Value, e = .returned (.agg #[.int .i64 r1, .string r2, v2_]) ∧ Kd.R k35 35 w' w.heap.size (fun _ => True) v2_ r3 ∧ Below w.heap.size w w') (k : Nat) (A0 : Option Addr) (c0 : Nat) (l0 : List (S24)) (r : List (S35)) (w : World) (hr0 : Kd.C k24 w A0 l0.length l0) (hc0 : l0.length ≤ c0) (h : laws_toRegexSG.f gF k l0 = some r) :
  Calls Try.prog 51 #[.slice A0 l0.length c0] w fun e w' => ∃ v0_ : Value, e = .returned (v0_) ∧ Kd.R k35 35 w' w.heap.size (fun _ => True) v0_ r ∧ Below w.heap.size w w' := by
 have hu24 := Try.underlying24
 have hu35 := Try.underlying35
 have HR0 := Aside0.mk hr0
 have HC0 := Aside0.mk hc0
 clear hr0 hc0
 have HB := Aside0.mk (Below.refl w.heap.size w)
 have H : (if 0 ≤ (l0.length : Int) then (if ((l0.length : Int) : Int).toNat ≤ 5864062014805 then (laws_toRegexSG.l0 gF k l0 (List.replicate ((l0.length : Int) : Int).toNat z35) 0) else (none)) else (none)) = some r := h
 clear h
 by_cases c2 : 0 ≤ (l0.length : Int)
 rw [if_pos c2] at H
 have c2b0 := eq_true c2
 have c2b1 : decide (0 ≤ (l0.length : Int)) = true := decide_eq_true c2
 clear c2
 by_cases c3 : ((l0.length : Int) : Int).toNat ≤ 5864062014805
 ·rw [if_pos c3] at H
  have c3b0 := eq_true c3
  have c3b1 : decide (((l0.length : Int) : Int).toNat ≤ 5864062014805) = true := decide_eq_true c3
  clear c3
  obtain ⟨y51001, hy51001⟩ : ∃ y_ : List (S35), y_ = (List.replicate ((l0.length : Int) : Int).toNat z35) := ⟨_, rfl⟩
  replace H : (laws_toRegexSG.l0 gF k l0 y51001 0) = some r := by first | (rw [hy51001]; with_reducible exact H) | (have H2_ := (Option.bind_some _ _).symm.trans H; rw [hy51001]; with_reducible exact H2_) | (have H2_ := (Option.bind_some _ _).symm.trans H; with_reducible exact H2_) | with_reducible exact H | (rw [hy51001]; exact H) | exact H
  have Ny51001 := Aside0.mk hy51001
  clear hy51001
  have H' := Aside0.mk H
  clear H
  go_enter Try.func51, Try.ntmps51
  go_wp2_with (first | ((with_reducible refine gate_dst (N := 7) rfl ?_); refine Kd.R_make k35 _ 35 rfl (N := 7) rfl 33 _ _ rfl (l0.length : Int) rfl rfl Try.underlying33 (.agg #[(.int .i64 0), (.string ⟨#[]⟩), (.slice none 0 0)]) 48 info35 rfl (by decide) (by omega) z35 (ok := fun _ => True) (okp := fun _ => True) (k35_mkM _ _ _ z35 (Kd.R_nil _ _ _ _ _)) (fun _ hk => hk) trivial (of_decide_eq_true za7) (Nat.le_trans (Nat.mul_le_mul_right _ (of_decide_eq_true za7 : (l0.length : Int).toNat ≤ 5864062014805)) (by omega)) (Below.refl _ _) (Nat.le_refl _) ?_; intro v51002 w4 ho5 hb hg_ hnew_; clear hg_ hnew_; (first | rw [← Ny51001.out] at ho5 | (simp only [Int.reduceToNat] at ho5; rw [← Ny51001.out] at ho5)); have n0_ := Aside0.mk (Kd.R_lower ho5 (below_size za2)); have n1_ := Aside0.mk (below_step za2 hb); clear HB; have HO51003 := n0_; have HB := n1_; clear n0_ n1_; clear hb ho5))
  first | go_loopg [4] k (fun kq v4 w' => ∃ (x3_1 : List (S35)) (x4_1 : Int), v4 = .int .i64 x4_1 ∧ Aside0 (laws_toRegexSG.l0 gF kq l0 x3_1 x4_1 = some r) ∧ Aside0 (kq ≤ k) ∧ Aside0 (Kd.R k35 35 w' w.heap.size (fun _ => True) v51002 x3_1) ∧ Aside0 (Below w.heap.size w w')) | (simp only [Act.put, List.setIfInBounds_toArray, List.set_cons_succ, List.set_cons_zero]; go_loopg [4] k (fun kq v4 w' => ∃ (x3_1 : List (S35)) (x4_1 : Int), v4 = .int .i64 x4_1 ∧ Aside0 (laws_toRegexSG.l0 gF kq l0 x3_1 x4_1 = some r) ∧ Aside0 (kq ≤ k) ∧ Aside0 (Kd.R k35 35 w' w.heap.size (fun _ => True) v51002 x3_1) ∧ Aside0 (Below w.heap.size w w')))
  case atStart => exact ⟨(y51001), (0), za6, H', ⟨Nat.le_refl _⟩, ⟨za1 HO51003.out⟩, ⟨za2⟩⟩
  case round =>
   clear H'
   try clear c3
   try clear c3b0
   try clear c3b1
   obtain ⟨x3_1, x4_1, rfl, HA, HK1, HO_3, HB⟩ := hrel
   cases gk with
   | zero => exact absurd HA.out (by simp [laws_toRegexSG.l0])
   | succ k1 =>
   have H := HA.out
   clear HA
   simp only [laws_toRegexSG.l0] at H
   by_cases c6 : x4_1 < (l0.length : Int)
   rw [if_pos c6] at H
   have c6b0 : decide (x4_1 < (l0.length : Int)) = true := decide_eq_true c6
   clear c6
   by_cases c7 : 0 ≤ x4_1
   rw [if_pos c7] at H
   have c7b0 : decide (0 ≤ x4_1) = true := decide_eq_true c7
   clear c7
   replace H := Option.bind_eq_some_iff.mp H
   obtain ⟨⟨t51005, t51006, t51007⟩, A80, H⟩ := H
   replace H : (if x4_1 < (x3_1.length : Int) then (laws_toRegexSG.l0 gF k1 l0 (x3_1.set (x4_1 : Int).toNat (⟨t51005, t51006, t51007⟩ : S35)) (wrap64 (x4_1 + 1))) else (none)) = some r := H
   have A8 := Aside0.mk A80
   clear A80
   by_cases c9 : x4_1 < (x3_1.length : Int)
   ·rw [if_pos c9] at H
    have c9b0 : decide (x4_1 < (x3_1.length : Int)) = true := decide_eq_true c9
    clear c9
    obtain ⟨y51010, hy51010⟩ : ∃ y_ : List (S35), y_ = (x3_1.set (x4_1 : Int).toNat (⟨t51005, t51006, t51007⟩ : S35)) := ⟨_, rfl⟩
    replace H : (laws_toRegexSG.l0 gF k1 l0 y51010 (wrap64 (x4_1 + 1))) = some r := by first | (rw [hy51010]; with_reducible exact H) | (have H2_ := (Option.bind_some _ _).symm.trans H; rw [hy51010]; with_reducible exact H2_) | (have H2_ := (Option.bind_some _ _).symm.trans H; with_reducible exact H2_) | with_reducible exact H | (rw [hy51010]; exact H) | exact H
    have Ny51010 := Aside0.mk hy51010
    clear hy51010
    have H' := Aside0.mk H
    clear H
    have p51004 : 0 ≤ (x4_1 : Int) := of_decide_eq_true za7
    have q51004 : x4_1 < (l0.length : Int) := of_decide_eq_true za7
    obtain ⟨ad51004, A51004_2, c51004_2, e51004, hx51004_0, hx51004_1, hx51004_2, hl51004_2, hi51004_2⟩ := at_T24 HR0.out x4_1 p51004 q51004
    cases e51004
    replace hx51004_0 := (HB.out.cell (World.block_lt_of_cell? w _ hx51004_0)).trans hx51004_0
    replace hx51004_1 := (HB.out.cell (World.block_lt_of_cell? w _ hx51004_1)).trans hx51004_1
    replace hx51004_2 := (HB.out.cell (World.block_lt_of_cell? w _ hx51004_2)).trans hx51004_2
    have HR51004_2 := Aside0.mk hi51004_2
    have HC51004_2 := Aside0.mk hl51004_2
    clear hi51004_2 hl51004_2
    replace p51004 := eq_true p51004
    replace q51004 := eq_true q51004
    go_wp2_with (first | ((with_reducible refine gate_callee (f := 22) rfl ?_); refine goesL_ (some 20) rfl rfl Try.func22 (by kernel_rfl) rfl #[.agg #[.int .i64 ((rd_T24 l0 x4_1).f0), .string ((rd_T24 l0 x4_1).f1), .slice A51004_2 ((rd_T24 l0 x4_1).f2).length c51004_2]] rfl za3 ?_; (with_reducible refine (gC k1 ((rd_T24 l0 x4_1).f0) ((rd_T24 l0 x4_1).f1) _ _ ((rd_T24 l0 x4_1).f2) t51005 t51006 t51007 _ ?side1 ?side2 A8.out).mono ?_); (case side1 => repeat (first | exact (Kd.C_below HR51004_2.out HB.out) | (with_reducible refine Kd.C_alloc ?_ _) | (with_reducible refine Kd.C_drewN ?_ _) | (with_reducible refine Kd.C_drew ?_))); (case side2 => exact HC51004_2.out); rintro e w11 ⟨v51008, rfl, ho0, hb⟩; refine ⟨_, rfl, ?_⟩; have n0_ := Aside0.mk (Kd.R_elder' (za1 HO_3.out) (Kd.R_base ho0) hb); have n1_ := Aside0.mk (Kd.R_lower (Kd.R_new' ho0 (Kd.R_lt (za1 HO_3.out))) (below_size za2)); have n2_ := Aside0.mk (below_step za2 hb); clear HO_3; clear HB; have HO_3 := n0_; have HO51009 := n1_; have HB := n2_; clear n0_ n1_ n2_; (try clear hb); (try clear hb2); (try clear hk); (try clear hi); (try clear ho0); have p10 : 0 ≤ (x4_1 : Int) := of_decide_eq_true za7; have q10 : (x4_1 : Int) < ((x3_1.length : Int) : Int) := of_decide_eq_true za7; obtain ⟨go10, co10, eo10, gb10, gl10, cl10, HG10⟩ := Kd.R_form HO_3.out (by omega); (first | cases eo10 | (injection eo10 with ea_ en_ ec_; (first | subst ea_ | (injection ea_ with ea_; subst ea_)); subst ec_; clear en_)); have GB10 := Aside0.mk gb10; have GG10 := Aside0.mk HG10; clear gb10 gl10 HG10; obtain ⟨ce10, hcl10, hM10, hcc10, hfr10⟩ := Kd.R_elem HO_3.out z35 (x4_1 : Int) p10 q10; obtain ⟨ve10_2, rfl, ge10_2⟩ := k35_openM hM10; have hx10_0 : w11.cell? ⟨go10, (x4_1 : Int).toNat * 3, none⟩ = some (.int .i64 ((rd_T35 x3_1 x4_1).f0)) := hcc10 0 _ rfl; have hx10_1 : w11.cell? ⟨go10, (x4_1 : Int).toNat * 3 + 1, none⟩ = some (.string ((rd_T35 x3_1 x4_1).f1)) := hcc10 1 _ rfl; have hx10_2 : w11.cell? ⟨go10, (x4_1 : Int).toNat * 3 + 2, none⟩ = some (ve10_2) := hcc10 2 _ rfl; have hf10_0 : w11.frozen? ⟨go10, (x4_1 : Int).toNat * 3, none⟩ = false := hfr10 0; have hf10_1 : w11.frozen? ⟨go10, (x4_1 : Int).toNat * 3 + 1, none⟩ = false := hfr10 1; have hf10_2 : w11.frozen? ⟨go10, (x4_1 : Int).toNat * 3 + 2, none⟩ = false := hfr10 2; clear hcl10 hcc10 hfr10; (try clear hM10); replace p10 := eq_true p10; replace q10 := eq_true q10; have n_ := Aside0.mk (Kd.R_mono (ok' := (fun k_ => some k_ ≠ (v51008 : Value).ownBlock)) HO_3.out (fun k_ hk => hk.2)); clear HO_3; have HO_3 := n_; clear n_; have HX12 := Aside0.mk (show Kd.R k35 35 w11 w.heap.size (fun _ => True) (.slice (some ⟨go10, 0, none⟩) x3_1.length co10) x3_1 from (by (with_reducible repeat (first | apply Kd.R_alloc | apply Kd.R_drewN | apply Kd.R_drew)); exact Kd.R_mono HO_3.out (fun _ hk => trivial))); obtain ⟨ce12, hcl12, hM12, hcc12, hfr12⟩ := Kd.R_elem HX12.out z35 (x4_1 : Int) (of_decide_eq_true za7) (by have h_ : (x4_1 : Int) < ((x3_1.length : Int) : Int) := of_decide_eq_true za7; first | exact h_ | (have e_ := (Kd.R_reads' HO_3.out).1; omega) | simpa using h_); obtain ⟨ve12_2, rfl, ge12_2⟩ := k35_openM hM12; have HP12 := Kd.R_seg HX12.out (x4_1 : Int) (of_decide_eq_true za7) (by have h_ : (x4_1 : Int) < ((x3_1.length : Int) : Int) := of_decide_eq_true za7; first | exact h_ | (have e_ := (Kd.R_reads' HO_3.out).1; omega) | simpa using h_) (seg := [.int .i64 t51005, .string t51006, v51008]) (j := 0) hcl12 hcc12 (show 3 ≤ 3 from by decide) (x' := (⟨t51005, t51006, t51007⟩ : S35)) (k35_mkM _ _ _ (⟨t51005, t51006, t51007⟩ : S35) (Kd.R_mono (HO51009.out) (fun k_ hk => ⟨trivial, fun e_ => (hk.2) (by rw [e_]; rfl)⟩))) (fun _ hk => hk); have hx12_0 := hcc12 0 _ rfl; (try simp only [show (k35).sz = 3 from rfl, Nat.mul_one, Nat.add_zero] at hx12_0); have hf12_0 := hfr12 0; (try simp only [show (k35).sz = 3 from rfl, Nat.mul_one, Nat.add_zero] at hf12_0); have hx12_1 := hcc12 1 _ rfl; (try simp only [show (k35).sz = 3 from rfl, Nat.mul_one, Nat.add_zero] at hx12_1); have hf12_1 := hfr12 1; (try simp only [show (k35).sz = 3 from rfl, Nat.mul_one, Nat.add_zero] at hf12_1); have hx12_2 := hcc12 2 _ rfl; (try simp only [show (k35).sz = 3 from rfl, Nat.mul_one, Nat.add_zero] at hx12_2); have hf12_2 := hfr12 2; (try simp only [show (k35).sz = 3 from rfl, Nat.mul_one, Nat.add_zero] at hf12_2); clear hcl12 hcc12 hfr12; (try clear hM12)) | ((with_reducible refine gate_store (t := 35) (p := 21) rfl ?_); refine store_event (t := 35) (p := 21) (v := ?vo_w13) (w1 := (((w11.setCell ⟨go10, (x4_1 : Int).toNat * 3, none⟩ (.int .i64 t51005)).setCell ⟨go10, (x4_1 : Int).toNat * 3 + 1, none⟩ (.string t51006)).setCell ⟨go10, (x4_1 : Int).toNat * 3 + 2, none⟩ (v51008))) ?hg ?ho ?hn ?hr ?_; (case ho => rfl); (case hg => rfl); (case hn => rfl); (case hr => first | (go_simp; done) | (go_simp; rfl) | (obtain ⟨sA_, sc_, se_⟩ := Kd.R_slice HO51009.out; subst se_; first | (go_simp; done) | (go_simp; rfl))); intro w13 hw; have hg : w11.grownBy w13 (some go10) := (by rw [hw]; exact HP12.2); have hp_ : Kd.R k35 35 w13 w.heap.size (fun _ => True) (.slice (some ⟨go10, 0, none⟩) x3_1.length co10) y51010 := (by rw [hw, Ny51010.out]; exact HP12.1); clear HP12; have n0_ := Aside0.mk (hp_); have n1_ := Aside0.mk ((by rw [hw]; exact below_set (below_set (below_set (HB.out) GB10.out) GB10.out) GB10.out : Below w.heap.size w w13)); clear HO_3; clear HB; clear HO51009; have HO_3 := n0_; have HB := n1_; clear n0_ n1_; clear hg hw hp_))
    go_roundg k1
    case measure => have := HK1.out; omega
    case rel => exact ⟨(y51010), (wrap64 (x4_1 + 1)), za6, H', ⟨za11⟩, ⟨za1 HO_3.out⟩, ⟨za2⟩⟩
   ·rw [if_neg c9] at H
    exact absurd H (by simp)
   ·rw [if_neg c7] at H
    exact absurd H (by simp)
   ·rw [if_neg c6] at H
    have c6b0 : decide (x4_1 < (l0.length : Int)) = false := decide_eq_false c6
    clear c6
    obtain rfl := Option.some.inj H
    go_wp2
    go_ret
    exact ⟨_, za5, za1 HO_3.out, za2⟩
 ·rw [if_neg c3] at H
  exact absurd H (by simp)
 ·rw [if_neg c2] at H
  exact absurd H (by simp)
theorem laws_toRegexSG.mono_lg (gF gF2 : Nat → Int → ByteArray → List (S24) → Option (Int × ByteArray × (List (S35)))) (hg : ∀ b0 b1 b2 k, LeO (gF k b0 b1 b2) (gF2 k b0 b1 b2)) : ∀ k, (∀ y0 y1 y2, LeO (laws_toRegexSG.l0 gF k y0 y1 y2) (laws_toRegexSG.l0 gF2 k y0 y1 y2))
 | 0 => fun _ _ _ r h => by simp [laws_toRegexSG.l0] at h
 | k + 1 => by
  have ih0 := laws_toRegexSG.mono_lg gF gF2 hg k
  ·intro y0 y1 y2
   unfold laws_toRegexSG.l0
   repeat' first
   | (with_reducible exact ih0 _ _ _)
   | (with_reducible exact hg _ _ _ _)
   | (with_reducible exact LeO.refl _)
   | (with_reducible exact LeO.none _)
   | (with_reducible refine LeO.ite ?_ ?_)
   | (with_reducible refine LeO.bind ?_ (fun _ => ?_))
   | exact hg _ _ _ _
theorem laws_toRegexSG.monog (gF gF2 : Nat → Int → ByteArray → List (S24) → Option (Int × ByteArray × (List (S35)))) (hg : ∀ b0 b1 b2 k, LeO (gF k b0 b1 b2) (gF2 k b0 b1 b2)) : ∀ a0 k, LeO (laws_toRegexSG.f gF k a0) (laws_toRegexSG.f gF2 k a0) := by
 intro a0 k
 have ih0 := laws_toRegexSG.mono_lg gF gF2 hg k
 unfold laws_toRegexSG.f
 repeat' first
   | (with_reducible exact ih0 _ _ _)
   | (with_reducible exact hg _ _ _ _)
   | (with_reducible exact LeO.refl _)
   | (with_reducible exact LeO.none _)
   | (with_reducible refine LeO.ite ?_ ?_)
   | (with_reducible refine LeO.bind ?_ (fun _ => ?_))
   | exact hg _ _ _ _
def laws_toRegexG.f (gF : Nat → Int → ByteArray → List (S24) → Option (Int × ByteArray × (List (S35)))) (k : Nat) (a0_0 : Int) (a0_1 : ByteArray) (l0_2 : List (S24)) : Option (Int × ByteArray × (List (S35))) := (laws_toRegexSG.f gF k l0_2).bind fun t22004 => (some (a0_0, a0_1, t22004))
theorem laws_toRegexG.mono (gF : Nat → Int → ByteArray → List (S24) → Option (Int × ByteArray × (List (S35)))) (gM : ∀ a0 a1 a2 k, LeO (gF k a0 a1 a2) (gF (k + 1) a0 a1 a2)) : ∀ a0 a1 a2 k, LeO (laws_toRegexG.f gF k a0 a1 a2) (laws_toRegexG.f gF (k + 1) a0 a1 a2) := by
 intro a0 a1 a2 k
 unfold laws_toRegexG.f
 repeat' first
   | with_reducible first | exact laws_toRegexSG.mono gF gM _ _ | exact LeO.refl _ | exact LeO.none _ | refine LeO.ite ?_ ?_ | refine LeO.bind ?_ (fun _ => ?_)
theorem laws_toRegexG.calls (gF : Nat → Int → ByteArray → List (S24) → Option (Int × ByteArray × (List (S35)))) (gC : ∀ (k : Nat) (a0_0 : Int) (a0_1 : ByteArray) (A0_2 : Option Addr) (c0_2 : Nat) (l0_2 : List (S24)) (r1 : Int) (r2 : ByteArray) (r3 : List (S35)) (w : World) (hr0_2 : Kd.C k24 w A0_2 l0_2.length l0_2) (hc0_2 : l0_2.length ≤ c0_2) (h : gF k a0_0 a0_1 l0_2 = some (r1, r2, r3)), Calls Try.prog 22 #[.agg #[.int .i64 a0_0, .string a0_1, .slice A0_2 l0_2.length c0_2]] w fun e w' => ∃ v2_ : Value, e = .returned (.agg #[.int .i64 r1, .string r2, v2_]) ∧ Kd.R k35 35 w' w.heap.size (fun _ => True) v2_ r3 ∧ Below w.heap.size w w') (k : Nat) (a0_0 : Int) (a0_1 : ByteArray) (A0_2 : Option Addr) (c0_2 : Nat) (l0_2 : List (S24)) (r1 : Int) (r2 : ByteArray) (r3 : List (S35)) (w : World) (hr0_2 : Kd.C k24 w A0_2 l0_2.length l0_2) (hc0_2 : l0_2.length ≤ c0_2) (h : laws_toRegexG.f gF k a0_0 a0_1 l0_2 = some (r1, r2, r3)) :
  Calls Try.prog 22 #[.agg #[.int .i64 a0_0, .string a0_1, .slice A0_2 l0_2.length c0_2]] w fun e w' => ∃ v2_ : Value, e = .returned (.agg #[.int .i64 r1, .string r2, v2_]) ∧ Kd.R k35 35 w' w.heap.size (fun _ => True) v2_ r3 ∧ Below w.heap.size w w' := by
 have hu24 := Try.underlying24
 have hu35 := Try.underlying35
 have HR0_2 := Aside0.mk hr0_2
 have HC0_2 := Aside0.mk hc0_2
 clear hr0_2 hc0_2
 have HB := Aside0.mk (Below.refl w.heap.size w)
 have H : ((laws_toRegexSG.f gF k l0_2).bind fun t22004 => (some (a0_0, a0_1, t22004))) = some (r1, r2, r3) := h
 clear h
 replace H := Option.bind_eq_some_iff.mp H
 obtain ⟨t22004, A20, H⟩ := H
 replace H : (some (a0_0, a0_1, t22004)) = some (r1, r2, r3) := H
 have A2 := Aside0.mk A20
 clear A20
 simp only [Option.some.injEq, Prod.mk.injEq] at H
 obtain ⟨rfl, rfl, rfl⟩ := H
 go_enter Try.func22, Try.ntmps22
 go_wp2_with (first | ((with_reducible refine gate_dst (N := 1) rfl ?_); refine box_event ?hg (N := 1) ?hd (cs := #[.int .i64 a0_0, .string a0_1, .slice A0_2 l0_2.length c0_2]) (t := 24) ?hr ?_; (case hd => rfl); (case hg => rfl); (case hr => first | (go_simp; done) | (go_simp; rfl)); intro gb22001 hg w3 hbox hb; have n0_ := Aside0.mk (below_step za2 hb); have n1_ := Aside0.mk (hbox); have n2_ := Aside0.mk ((by rw [hg]; exact (below_size za2) : w.heap.size ≤ gb22001)); have n3_ := Aside0.mk ((by rw [hg]; exact (below_size za2) : w.heap.size ≤ gb22001)); clear HB; have HB := n0_; have BK22001 := n1_; have GW22001 := n2_; have GE22001 := n3_; clear n0_ n1_ n2_ n3_; clear hb hbox hg) | ((with_reducible refine gate_dst (N := 2) rfl ?_); refine box_event ?hg (N := 2) ?hd (cs := #[.int .i64 0, .string (⟨#[]⟩ : ByteArray), .slice none 0 0]) (t := 35) ?hr ?_; (case hd => rfl); (case hg => rfl); (case hr => first | (go_simp; done) | (go_simp; rfl)); intro gb22002 hg w4 hbox hb; have n0_ := Aside0.mk (blk_below (g := gb22001) (o := .cells #[.int .i64 a0_0, .string a0_1, .slice A0_2 l0_2.length c0_2] 24 (0, 0)) (za0 BK22001.out) hb); have n1_ := Aside0.mk (below_step za2 hb); have n2_ := Aside0.mk (hbox); have n3_ := Aside0.mk ((by rw [hg]; exact (below_size za2) : w.heap.size ≤ gb22002)); have n4_ := Aside0.mk ((by rw [hg]; exact (below_size za2) : w.heap.size ≤ gb22002)); have n5_ := Aside0.mk ((by rw [hg]; exact Nat.ne_of_lt (blk_lt (g := gb22001) (o := .cells #[.int .i64 a0_0, .string a0_1, .slice A0_2 l0_2.length c0_2] 24 (0, 0)) (za0 BK22001.out)) : gb22001 ≠ gb22002)); have n6_ := Aside0.mk ((by rw [hg]; exact Nat.ne_of_gt (blk_lt (g := gb22001) (o := .cells #[.int .i64 a0_0, .string a0_1, .slice A0_2 l0_2.length c0_2] 24 (0, 0)) (za0 BK22001.out)) : gb22002 ≠ gb22001)); clear BK22001; clear HB; have BK22001 := n0_; have HB := n1_; have BK22002 := n2_; have GW22002 := n3_; have GE22002 := n4_; have NB22001_22002 := n5_; have NB22002_22001 := n6_; clear n0_ n1_ n2_ n3_ n4_ n5_ n6_; clear hb hbox hg) | ((with_reducible refine gate_dst (N := 3) rfl ?_); refine box_event ?hg (N := 3) ?hd (cs := #[.int .i64 0, .string (⟨#[]⟩ : ByteArray), .slice none 0 0]) (t := 35) ?hr ?_; (case hd => rfl); (case hg => rfl); (case hr => first | (go_simp; done) | (go_simp; rfl)); intro gb22003 hg w5 hbox hb; have n0_ := Aside0.mk (blk_below (g := gb22001) (o := .cells #[.int .i64 a0_0, .string a0_1, .slice A0_2 l0_2.length c0_2] 24 (0, 0)) (za0 BK22001.out) hb); have n1_ := Aside0.mk (blk_below (g := gb22002) (o := .cells #[.int .i64 0, .string (⟨#[]⟩ : ByteArray), .slice none 0 0] 35 (0, 0)) (za0 BK22002.out) hb); have n2_ := Aside0.mk (below_step za2 hb); have n3_ := Aside0.mk (hbox); have n4_ := Aside0.mk ((by rw [hg]; exact (below_size za2) : w.heap.size ≤ gb22003)); have n5_ := Aside0.mk ((by rw [hg]; exact (below_size za2) : w.heap.size ≤ gb22003)); have n6_ := Aside0.mk ((by rw [hg]; exact Nat.ne_of_lt (blk_lt (g := gb22001) (o := .cells #[.int .i64 a0_0, .string a0_1, .slice A0_2 l0_2.length c0_2] 24 (0, 0)) (za0 BK22001.out)) : gb22001 ≠ gb22003)); have n7_ := Aside0.mk ((by rw [hg]; exact Nat.ne_of_gt (blk_lt (g := gb22001) (o := .cells #[.int .i64 a0_0, .string a0_1, .slice A0_2 l0_2.length c0_2] 24 (0, 0)) (za0 BK22001.out)) : gb22003 ≠ gb22001)); have n8_ := Aside0.mk ((by rw [hg]; exact Nat.ne_of_lt (blk_lt (g := gb22002) (o := .cells #[.int .i64 0, .string (⟨#[]⟩ : ByteArray), .slice none 0 0] 35 (0, 0)) (za0 BK22002.out)) : gb22002 ≠ gb22003)); have n9_ := Aside0.mk ((by rw [hg]; exact Nat.ne_of_gt (blk_lt (g := gb22002) (o := .cells #[.int .i64 0, .string (⟨#[]⟩ : ByteArray), .slice none 0 0] 35 (0, 0)) (za0 BK22002.out)) : gb22003 ≠ gb22002)); clear BK22001; clear BK22002; clear HB; have BK22001 := n0_; have BK22002 := n1_; have HB := n2_; have BK22003 := n3_; have GW22003 := n4_; have GE22003 := n5_; have NB22001_22003 := n6_; have NB22003_22001 := n7_; have NB22002_22003 := n8_; have NB22003_22002 := n9_; clear n0_ n1_ n2_ n3_ n4_ n5_ n6_ n7_ n8_ n9_; clear hb hbox hg; have hnb6 := NB22001_22002.out; have hnc6 := NB22002_22001.out; have hnb7 := NB22001_22003.out; have hnc7 := NB22003_22001.out; obtain ⟨hcz8_0, hcz8_1, hcz8_2, hfz8_0, hfz8_1, hfz8_2⟩ := blk3 BK22001.out; have hnb9 := NB22003_22002.out; have hnc9 := NB22002_22003.out; obtain ⟨hcz10_0, hcz10_1, hcz10_2, hfz10_0, hfz10_1, hfz10_2⟩ := blk3 BK22003.out) | ((with_reducible refine gate_callee (f := 51) rfl ?_); refine goesL_ (some 12) rfl rfl Try.func51 (by kernel_rfl) rfl #[.slice A0_2 l0_2.length c0_2] rfl za3 ?_; (with_reducible refine (laws_toRegexSG.calls gF gC k _ _ l0_2 t22004 _ ?side1 ?side2 A2.out).mono ?_); (case side1 => exact Kd.C_below HR0_2.out za2); (case side2 => exact HC0_2.out); rintro e w11 ⟨v22005, rfl, ho0, hb⟩; refine ⟨_, rfl, ?_⟩; have n0_ := Aside0.mk (Kd.R_lower (Kd.R_newB (Kd.R_newB ho0 (g := gb22002) (o := .cells #[.int .i64 0, .string (⟨#[]⟩ : ByteArray), .slice none 0 0] 35 (0, 0)) za19) (g := gb22003) (o := .cells #[.int .i64 a0_0, .string a0_1, .slice none 0 0] 35 (0, 0)) za16) (below_size za2)); have n1_ := Aside0.mk (blk_below (g := gb22001) (o := .cells #[.int .i64 a0_0, .string a0_1, .slice A0_2 l0_2.length c0_2] 24 (0, 0)) (by (with_reducible repeat (first | refine blk_drewN ?_ _ | refine blk_drew ?_ | refine blk_alloc ?_ _)); refine blk_far ?_ NB22001_22003.out _; (with_reducible repeat (first | refine blk_drewN ?_ _ | refine blk_drew ?_ | refine blk_alloc ?_ _)); refine blk_far ?_ NB22001_22003.out _; (with_reducible repeat (first | refine blk_drewN ?_ _ | refine blk_drew ?_ | refine blk_alloc ?_ _)); exact BK22001.out) hb); have n2_ := Aside0.mk (blk_below (g := gb22002) (o := .cells #[.int .i64 0, .string (⟨#[]⟩ : ByteArray), .slice none 0 0] 35 (0, 0)) za19 hb); have n3_ := Aside0.mk (blk_below (g := gb22003) (o := .cells #[.int .i64 a0_0, .string a0_1, .slice none 0 0] 35 (0, 0)) za16 hb); have n4_ := Aside0.mk (below_step za2 hb); clear BK22001; clear BK22002; clear BK22003; clear HB; have HO22006 := n0_; have BK22001 := n1_; have BK22002 := n2_; have BK22003 := n3_; have HB := n4_; clear n0_ n1_ n2_ n3_ n4_; (try clear hb); (try clear hb2); (try clear hk); (try clear hi); (try clear ho0); obtain ⟨Ao12, co12, eo12⟩ := Kd.R_slice HO22006.out; subst eo12; obtain ⟨hcz13_0, hcz13_1, hcz13_2, hfz13_0, hfz13_1, hfz13_2⟩ := blk3 BK22003.out; obtain ⟨hcz14_0, hcz14_1, hcz14_2, hfz14_0, hfz14_1, hfz14_2⟩ := blk3 BK22002.out))
 refine bodyPost_ret (results_cell_row rfl _ _ gb22002 35 #[.int .i64 a0_0, .string a0_1, .slice Ao12 t22004.length co12] (0, 0) _ rfl (by (with_reducible repeat (first | refine blk_drewN ?_ _ | refine blk_drew ?_ | refine blk_alloc ?_ _)); refine blk_put (cs := #[.int .i64 a0_0, .string a0_1, .slice none 0 0]) ?_ 2 _ rfl; (with_reducible repeat (first | refine blk_drewN ?_ _ | refine blk_drew ?_ | refine blk_alloc ?_ _)); refine blk_put (cs := #[.int .i64 a0_0, .string (⟨#[]⟩ : ByteArray), .slice none 0 0]) ?_ 1 _ rfl; (with_reducible repeat (first | refine blk_drewN ?_ _ | refine blk_drew ?_ | refine blk_alloc ?_ _)); refine blk_put (cs := #[.int .i64 0, .string (⟨#[]⟩ : ByteArray), .slice none 0 0]) ?_ 0 _ rfl; (with_reducible repeat (first | refine blk_drewN ?_ _ | refine blk_drew ?_ | refine blk_alloc ?_ _)); refine blk_far ?_ NB22002_22003.out _; (with_reducible repeat (first | refine blk_drewN ?_ _ | refine blk_drew ?_ | refine blk_alloc ?_ _)); exact BK22002.out) Try.underlying35 rfl (by kernel_rfl)) rfl ?_
 exact ⟨_, za5, by (with_reducible repeat (first | apply Kd.R_alloc | apply Kd.R_drewN | apply Kd.R_drew)); exact Kd.R_mono (Kd.R_far (p := ⟨gb22002, 2, none⟩) (Kd.R_far (p := ⟨gb22002, 1, none⟩) (Kd.R_far (p := ⟨gb22002, 0, none⟩) (Kd.R_far (p := ⟨gb22003, 2, none⟩) (Kd.R_mono (Kd.R_mono HO22006.out (fun k_ hk => (⟨hk, hk.2⟩ : _ ∧ k_ ≠ gb22003))) (fun k_ hk => (⟨hk, hk.1.1.2⟩ : _ ∧ k_ ≠ gb22002))) (fun _ hk => hk.1.2) (.slice Ao12 t22004.length co12)) (fun _ hk => hk.2) (.int .i64 a0_0)) (fun _ hk => hk.2) (.string a0_1)) (fun _ hk => hk.2) (.slice Ao12 t22004.length co12)) (fun _ hk => trivial), za2⟩
theorem laws_toRegexG.monog (gF gF2 : Nat → Int → ByteArray → List (S24) → Option (Int × ByteArray × (List (S35)))) (hg : ∀ b0 b1 b2 k, LeO (gF k b0 b1 b2) (gF2 k b0 b1 b2)) : ∀ a0 a1 a2 k, LeO (laws_toRegexG.f gF k a0 a1 a2) (laws_toRegexG.f gF2 k a0 a1 a2) := by
 intro a0 a1 a2 k
 unfold laws_toRegexG.f
 repeat' first
   | (with_reducible exact laws_toRegexSG.monog gF gF2 hg _ _)
   | (with_reducible exact LeO.refl _)
   | (with_reducible exact LeO.none _)
   | (with_reducible refine LeO.ite ?_ ?_)
   | (with_reducible refine LeO.bind ?_ (fun _ => ?_))
   | exact laws_toRegexSG.monog gF gF2 hg _ _
def laws_toRegex.f : Nat → Int → ByteArray → List (S24) → Option (Int × ByteArray × (List (S35)))
 | 0, _, _, _ => none
 | K + 1, a0_, a1_, a2_ => laws_toRegexG.f (fun _ => laws_toRegex.f K) K a0_ a1_ a2_
theorem laws_toRegex.mono : ∀ a0 a1 a2 k, LeO (laws_toRegex.f k a0 a1 a2) (laws_toRegex.f (k + 1) a0 a1 a2) := by
 intro a0_ a1_ a2_ k
 induction k generalizing a0_ a1_ a2_ with
 | zero => exact LeO.none _
 | succ K ih =>
  intro r h
  have h1 := laws_toRegexG.monog (fun _ => laws_toRegex.f K) (fun _ => laws_toRegex.f (K + 1)) (fun a0_ a1_ a2_ k => ih a0_ a1_ a2_) a0_ a1_ a2_ K r h
  exact laws_toRegexG.mono (fun _ => laws_toRegex.f (K + 1)) (fun a0_ a1_ a2_ k => LeO.refl _) a0_ a1_ a2_ K r h1
theorem laws_toRegex.calls (k : Nat) (a0_0 : Int) (a0_1 : ByteArray) (A0_2 : Option Addr) (c0_2 : Nat) (l0_2 : List (S24)) (r1 : Int) (r2 : ByteArray) (r3 : List (S35)) (w : World) (hr0_2 : Kd.C k24 w A0_2 l0_2.length l0_2) (hc0_2 : l0_2.length ≤ c0_2) (h : laws_toRegex.f k a0_0 a0_1 l0_2 = some (r1, r2, r3)) :
  Calls Try.prog 22 #[.agg #[.int .i64 a0_0, .string a0_1, .slice A0_2 l0_2.length c0_2]] w fun e w' => ∃ v2_ : Value, e = .returned (.agg #[.int .i64 r1, .string r2, v2_]) ∧ Kd.R k35 35 w' w.heap.size (fun _ => True) v2_ r3 ∧ Below w.heap.size w w' := by
 induction k generalizing a0_0 a0_1 A0_2 c0_2 l0_2 r1 r2 r3 w hr0_2 hc0_2 with
 | zero => exact absurd h (by simp [laws_toRegex.f])
 | succ K ih => exact laws_toRegexG.calls (fun _ => laws_toRegex.f K) (fun k a0_0 a0_1 A0_2 c0_2 l0_2 r1 r2 r3 w hr0_2 hc0_2 h => ih a0_0 a0_1 A0_2 c0_2 l0_2 r1 r2 r3 w hr0_2 hc0_2 h) K a0_0 a0_1 A0_2 c0_2 l0_2 r1 r2 r3 w hr0_2 hc0_2 h
def laws_toRegexS.f (k : Nat) (l0 : List (S24)) : Option ((List (S35))) := laws_toRegexSG.f laws_toRegex.f k l0
theorem laws_toRegexS.mono : ∀ a0 k, LeO (laws_toRegexS.f k a0) (laws_toRegexS.f (k + 1) a0) := laws_toRegexSG.mono laws_toRegex.f laws_toRegex.mono
theorem laws_toRegexS.calls (k : Nat) (A0 : Option Addr) (c0 : Nat) (l0 : List (S24)) (r : List (S35)) (w : World) (hr0 : Kd.C k24 w A0 l0.length l0) (hc0 : l0.length ≤ c0) (h : laws_toRegexS.f k l0 = some r) :
  Calls Try.prog 51 #[.slice A0 l0.length c0] w fun e w' => ∃ v0_ : Value, e = .returned (v0_) ∧ Kd.R k35 35 w' w.heap.size (fun _ => True) v0_ r ∧ Below w.heap.size w w' := laws_toRegexSG.calls laws_toRegex.f laws_toRegex.calls k A0 c0 l0 r w hr0 hc0 h
def laws_eqRegexSG.l0 (gF : Nat → Int → ByteArray → List (S35) → Int → ByteArray → List (S35) → Option (Bool)) : Nat → List (S35) → List (S35) → Int → Option (Bool)
 | 0, _, _, _ => none
 | k + 1, x0, x1, x5 => if x5 < (x0.length : Int) then (if 0 ≤ x5 then (if x5 < (x1.length : Int) then ((gF k ((rd_T35 x0 x5).f0) ((rd_T35 x0 x5).f1) ((rd_T35 x0 x5).f2) ((rd_T35 x1 x5).f0) ((rd_T35 x1 x5).f1) ((rd_T35 x1 x5).f2)).bind fun t61003 => (if t61003 = true then (laws_eqRegexSG.l0 gF k x0 x1 (wrap64 (x5 + 1))) else (some false))) else (none)) else (none)) else (some true)
def laws_eqRegexSG.f (gF : Nat → Int → ByteArray → List (S35) → Int → ByteArray → List (S35) → Option (Bool)) (k : Nat) (l0 : List (S35)) (l1 : List (S35)) : Option (Bool) := if (l0.length : Int) = (l1.length : Int) then (laws_eqRegexSG.l0 gF k l0 l1 0) else (some false)
theorem laws_eqRegexSG.mono_l (gF : Nat → Int → ByteArray → List (S35) → Int → ByteArray → List (S35) → Option (Bool)) (gM : ∀ a0 a1 a2 a3 a4 a5 k, LeO (gF k a0 a1 a2 a3 a4 a5) (gF (k + 1) a0 a1 a2 a3 a4 a5)) : ∀ k, (∀ y0 y1 y2, LeO (laws_eqRegexSG.l0 gF k y0 y1 y2) (laws_eqRegexSG.l0 gF (k + 1) y0 y1 y2))
 | 0 => fun _ _ _ r h => by simp [laws_eqRegexSG.l0] at h
 | k + 1 => by
  have ih0 := laws_eqRegexSG.mono_l gF gM k
  ·intro y0 y1 y2
   unfold laws_eqRegexSG.l0
   repeat' first
   | with_reducible first | exact ih0 _ _ _ | exact gM _ _ _ _ _ _ _ | exact LeO.refl _ | exact LeO.none _ | refine LeO.ite ?_ ?_ | refine LeO.bind ?_ (fun _ => ?_)
theorem laws_eqRegexSG.mono (gF : Nat → Int → ByteArray → List (S35) → Int → ByteArray → List (S35) → Option (Bool)) (gM : ∀ a0 a1 a2 a3 a4 a5 k, LeO (gF k a0 a1 a2 a3 a4 a5) (gF (k + 1) a0 a1 a2 a3 a4 a5)) : ∀ a0 a1 k, LeO (laws_eqRegexSG.f gF k a0 a1) (laws_eqRegexSG.f gF (k + 1) a0 a1) := by
 intro a0 a1 k
 have ih0 := laws_eqRegexSG.mono_l gF gM k
 unfold laws_eqRegexSG.f
 repeat' first
   | with_reducible first | exact ih0 _ _ _ | exact gM _ _ _ _ _ _ _ | exact LeO.refl _ | exact LeO.none _ | refine LeO.ite ?_ ?_ | refine LeO.bind ?_ (fun _ => ?_)
def laws_eqRegexSG.T6 : Bool × List (List Nat × List Nat) := (true, [([], []), ([], []), ([0, 1], [0, 1]), ([2], [2]), ([], []), ([], []), ([4, 5], [4, 5]), ([6], [6]), ([3, 7], [3, 7]), ([8], [8])])
def laws_eqRegexSG.B6 : List Nat := [0, 0, 3, 7, 0, 0, 48, 112, 255, 511]
theorem laws_eqRegexSG.tab6 : rtab .any (opsOf Try.f61 6) = laws_eqRegexSG.T6 := by kernel_rfl
theorem laws_eqRegexSG.bits6 : waitsOk laws_eqRegexSG.T6.2 laws_eqRegexSG.B6 = true := by kernel_rfl
theorem laws_eqRegexSG.calls (gF : Nat → Int → ByteArray → List (S35) → Int → ByteArray → List (S35) → Option (Bool)) (gC : ∀ (k : Nat) (a0_0 : Int) (a0_1 : ByteArray) (A0_2 : Option Addr) (c0_2 : Nat) (l0_2 : List (S35)) (a1_0 : Int) (a1_1 : ByteArray) (A1_2 : Option Addr) (c1_2 : Nat) (l1_2 : List (S35)) (r : Bool) (w : World) (hr0_2 : Kd.C k35 w A0_2 l0_2.length l0_2) (hc0_2 : l0_2.length ≤ c0_2) (hr1_2 : Kd.C k35 w A1_2 l1_2.length l1_2) (hc1_2 : l1_2.length ≤ c1_2) (h : gF k a0_0 a0_1 l0_2 a1_0 a1_1 l1_2 = some r), Calls Try.prog 27 #[.agg #[.int .i64 a0_0, .string a0_1, .slice A0_2 l0_2.length c0_2], .agg #[.int .i64 a1_0, .string a1_1, .slice A1_2 l1_2.length c1_2]] w fun e w' => e = .returned (.bool r) ∧ Below w.heap.size w w') (k : Nat) (A0 : Option Addr) (c0 : Nat) (l0 : List (S35)) (A1 : Option Addr) (c1 : Nat) (l1 : List (S35)) (r : Bool) (w : World) (hr0 : Kd.C k35 w A0 l0.length l0) (hc0 : l0.length ≤ c0) (hr1 : Kd.C k35 w A1 l1.length l1) (hc1 : l1.length ≤ c1) (h : laws_eqRegexSG.f gF k l0 l1 = some r) :
  Calls Try.prog 61 #[.slice A0 l0.length c0, .slice A1 l1.length c1] w fun e w' => e = .returned (.bool r) ∧ Below w.heap.size w w' := by
 have hu35 := Try.underlying35
 have HR0 := Aside0.mk hr0
 have HC0 := Aside0.mk hc0
 clear hr0 hc0
 have HR1 := Aside0.mk hr1
 have HC1 := Aside0.mk hc1
 clear hr1 hc1
 have HB := Aside0.mk (Below.refl w.heap.size w)
 have H : (if (l0.length : Int) = (l1.length : Int) then (laws_eqRegexSG.l0 gF k l0 l1 0) else (some false)) = some r := h
 clear h
 by_cases c3 : (l0.length : Int) = (l1.length : Int)
 ·rw [if_pos c3] at H
  have c3b0 : ((l0.length : Int) == (l1.length : Int)) = true := beq_iff_eq.mpr c3
  have c3b1 : ((l0.length : Int) != (l1.length : Int)) = false := bne_eq_false_iff_eq.mpr c3
  have c3b2 : (l0.length == l1.length) = true := by first | simpa using c3 | (simp at c3 ⊢; omega)
  clear c3
  have H' := Aside0.mk H
  clear H
  go_enter Try.func61, Try.ntmps61
  go_wp2
  first | go_loopg [5] k (fun kq v5 w' => ∃ (x5_1 : Int), v5 = .int .i64 x5_1 ∧ Aside0 (laws_eqRegexSG.l0 gF kq l0 l1 x5_1 = some r) ∧ Aside0 (kq ≤ k) ∧ Aside0 (Below w.heap.size w w')) | (simp only [Act.put, List.setIfInBounds_toArray, List.set_cons_succ, List.set_cons_zero]; go_loopg [5] k (fun kq v5 w' => ∃ (x5_1 : Int), v5 = .int .i64 x5_1 ∧ Aside0 (laws_eqRegexSG.l0 gF kq l0 l1 x5_1 = some r) ∧ Aside0 (kq ≤ k) ∧ Aside0 (Below w.heap.size w w')))
  case atStart => exact ⟨(0), za6, H', ⟨Nat.le_refl _⟩, ⟨za2⟩⟩
  case round =>
   clear H'
   try clear c3
   try clear c3b0
   try clear c3b1
   try clear c3b2
   obtain ⟨x5_1, rfl, HA, HK1, HB⟩ := hrel
   cases gk with
   | zero => exact absurd HA.out (by simp [laws_eqRegexSG.l0])
   | succ k1 =>
   have H := HA.out
   clear HA
   simp only [laws_eqRegexSG.l0] at H
   by_cases c4 : x5_1 < (l0.length : Int)
   rw [if_pos c4] at H
   have c4b0 : decide (x5_1 < (l0.length : Int)) = true := decide_eq_true c4
   clear c4
   by_cases c5 : 0 ≤ x5_1
   rw [if_pos c5] at H
   have c5b0 : decide (0 ≤ x5_1) = true := decide_eq_true c5
   clear c5
   by_cases c6 : x5_1 < (l1.length : Int)
   rw [if_pos c6] at H
   have c6b0 : decide (x5_1 < (l1.length : Int)) = true := decide_eq_true c6
   clear c6
   replace H := Option.bind_eq_some_iff.mp H
   obtain ⟨t61003, A70, H⟩ := H
   replace H : (if t61003 = true then (laws_eqRegexSG.l0 gF k1 l0 l1 (wrap64 (x5_1 + 1))) else (some false)) = some r := H
   have A7 := Aside0.mk A70
   clear A70
   by_cases c8 : t61003 = true
   ·subst c8
    have H1 : (laws_eqRegexSG.l0 gF k1 l0 l1 (wrap64 (x5_1 + 1))) = some r := by rw [if_pos rfl] at H; exact H
    clear H
    have H := H1
    clear H1
    have H' := Aside0.mk H
    clear H
    try go_wp2
    have n0_ := Aside0.mk (below_drew1 HB.out)
    clear HB
    have HB := n0_
    clear n0_
    have p61001 : 0 ≤ (x5_1 : Int) := of_decide_eq_true za7
    have q61001 : x5_1 < (l0.length : Int) := of_decide_eq_true za7
    obtain ⟨ad61001, A61001_2, c61001_2, e61001, hx61001_0, hx61001_1, hx61001_2, hl61001_2, hi61001_2⟩ := at_T35 HR0.out x5_1 p61001 q61001
    have hw61001_2 := hx61001_2
    have hw61001_1 := hx61001_1
    have hw61001_0 := hx61001_0
    cases e61001
    replace hx61001_0 := (HB.out.cell (World.block_lt_of_cell? w _ hx61001_0)).trans hx61001_0
    replace hx61001_1 := (HB.out.cell (World.block_lt_of_cell? w _ hx61001_1)).trans hx61001_1
    replace hx61001_2 := (HB.out.cell (World.block_lt_of_cell? w _ hx61001_2)).trans hx61001_2
    have HR61001_2 := Aside0.mk hi61001_2
    have HC61001_2 := Aside0.mk hl61001_2
    clear hi61001_2 hl61001_2
    replace p61001 := eq_true p61001
    replace q61001 := eq_true q61001
    have p61002 : 0 ≤ (x5_1 : Int) := of_decide_eq_true za7
    have q61002 : x5_1 < (l1.length : Int) := of_decide_eq_true za7
    obtain ⟨ad61002, A61002_2, c61002_2, e61002, hx61002_0, hx61002_1, hx61002_2, hl61002_2, hi61002_2⟩ := at_T35 HR1.out x5_1 p61002 q61002
    have hw61002_2 := hx61002_2
    have hw61002_1 := hx61002_1
    have hw61002_0 := hx61002_0
    cases e61002
    replace hx61002_0 := (HB.out.cell (World.block_lt_of_cell? w _ hx61002_0)).trans hx61002_0
    replace hx61002_1 := (HB.out.cell (World.block_lt_of_cell? w _ hx61002_1)).trans hx61002_1
    replace hx61002_2 := (HB.out.cell (World.block_lt_of_cell? w _ hx61002_2)).trans hx61002_2
    have HR61002_2 := Aside0.mk hi61002_2
    have HC61002_2 := Aside0.mk hl61002_2
    clear hi61002_2 hl61002_2
    replace p61002 := eq_true p61002
    replace q61002 := eq_true q61002
    refine start_ (n := 10) (S := fun w' => w'.cell? (ad61001.add ((x5_1).toNat * 3)) = some (.int .i64 ((rd_T35 l0 x5_1).f0)) ∧ w'.cell? ⟨(ad61001.add ((x5_1).toNat * 3)).block, (ad61001.add ((x5_1).toNat * 3)).off + 1, none⟩ = some (.string ((rd_T35 l0 x5_1).f1)) ∧ w'.cell? ⟨(ad61001.add ((x5_1).toNat * 3)).block, (ad61001.add ((x5_1).toNat * 3)).off + 2, none⟩ = some (.slice A61001_2 ((rd_T35 l0 x5_1).f2).length c61001_2) ∧ w'.cell? (ad61002.add ((x5_1).toNat * 3)) = some (.int .i64 ((rd_T35 l1 x5_1).f0)) ∧ w'.cell? ⟨(ad61002.add ((x5_1).toNat * 3)).block, (ad61002.add ((x5_1).toNat * 3)).off + 1, none⟩ = some (.string ((rd_T35 l1 x5_1).f1)) ∧ w'.cell? ⟨(ad61002.add ((x5_1).toNat * 3)).block, (ad61002.add ((x5_1).toNat * 3)).off + 2, none⟩ = some (.slice A61002_2 ((rd_T35 l1 x5_1).f2).length c61002_2)) (ds := []) #[false, false, false, false, false, false, false, false, false, false] (by kernel_rfl) rfl rfl ⟨((HB.out.cell (World.block_lt_of_cell? w _ hw61001_0)).trans hw61001_0), ((HB.out.cell (World.block_lt_of_cell? w _ hw61001_1)).trans hw61001_1), ((HB.out.cell (World.block_lt_of_cell? w _ hw61001_2)).trans hw61001_2), ((HB.out.cell (World.block_lt_of_cell? w _ hw61002_0)).trans hw61002_0), ((HB.out.cell (World.block_lt_of_cell? w _ hw61002_1)).trans hw61002_1), ((HB.out.cell (World.block_lt_of_cell? w _ hw61002_2)).trans hw61002_2)⟩ (fun hHeld => ?_); refine with_tabW laws_eqRegexSG.tab6 laws_eqRegexSG.bits6 (fun HT_ HW_ => ?_)
    generalize wr.drew = w9 at HB HR61001_2 HR61002_2 hx61001_0 hx61001_1 hx61001_2 hx61002_0 hx61002_1 hx61002_2 hHeld ⊢
    refine pure_ (i := 0) (N := some 17) (v := ?_) (a' := ?_) #[true, false, false, false, false, false, false, false, false, false] rfl rfl (any_of HT_.out (by kernel_rfl)) (fun _ _ _ h => h) (Or.inl ⟨by rfl, ?_⟩) ?_ ?_
    rotate_left
    ·intro w'
     go_simp
     first | with_reducible rfl | (rw [if_neg (by omega)]; done)
    rotate_left
    ·simp only [Act.put, List.setIfInBounds_toArray, List.set_cons_zero, List.set_cons_succ, i64_w, i32_w]
     rfl
    refine pure_ (i := 1) (N := some 18) (v := ?_) (a' := ?_) #[true, true, false, false, false, false, false, false, false, false] rfl rfl (any_of HT_.out (by kernel_rfl)) (fun _ _ _ h => h) (Or.inl ⟨by rfl, ?_⟩) ?_ ?_
    rotate_left
    ·intro w'
     go_simp
     first | with_reducible rfl | (rw [if_neg (by omega)]; done)
    rotate_left
    ·simp only [Act.put, List.setIfInBounds_toArray, List.set_cons_zero, List.set_cons_succ, i64_w, i32_w]
     rfl
    refine pure_ (i := 2) (N := some 19) (v := ?_) (a' := ?_) #[true, true, true, false, false, false, false, false, false, false] rfl rfl (any_of HT_.out (by kernel_rfl)) (fun _ _ _ h => h) (Or.inl ⟨by rfl, ?_⟩) ?_ ?_
    rotate_left
    ·intro w'
     go_simp
     first | with_reducible rfl | (rw [if_neg (by omega)]; done)
    rotate_left
    ·simp only [Act.put, List.setIfInBounds_toArray, List.set_cons_zero, List.set_cons_succ, i64_w, i32_w]
     rfl
    refine pure_ (i := 4) (N := some 21) (v := ?_) (a' := ?_) #[true, true, true, false, true, false, false, false, false, false] rfl rfl (any_of HT_.out (by kernel_rfl)) (fun _ _ _ h => h) (Or.inl ⟨by rfl, ?_⟩) ?_ ?_
    rotate_left
    ·intro w'
     go_simp
     first | with_reducible rfl | (rw [if_neg (by omega)]; done)
    rotate_left
    ·simp only [Act.put, List.setIfInBounds_toArray, List.set_cons_zero, List.set_cons_succ, i64_w, i32_w]
     rfl
    refine pure_ (i := 5) (N := some 22) (v := ?_) (a' := ?_) #[true, true, true, false, true, true, false, false, false, false] rfl rfl (any_of HT_.out (by kernel_rfl)) (fun _ _ _ h => h) (Or.inl ⟨by rfl, ?_⟩) ?_ ?_
    rotate_left
    ·intro w'
     go_simp
     first | with_reducible rfl | (rw [if_neg (by omega)]; done)
    rotate_left
    ·simp only [Act.put, List.setIfInBounds_toArray, List.set_cons_zero, List.set_cons_succ, i64_w, i32_w]
     rfl
    refine pure_ (i := 6) (N := some 23) (v := ?_) (a' := ?_) #[true, true, true, false, true, true, true, false, false, false] rfl rfl (any_of HT_.out (by kernel_rfl)) (fun _ _ _ h => h) (Or.inl ⟨by rfl, ?_⟩) ?_ ?_
    rotate_left
    ·intro w'
     go_simp
     first | with_reducible rfl | (rw [if_neg (by omega)]; done)
    rotate_left
    ·simp only [Act.put, List.setIfInBounds_toArray, List.set_cons_zero, List.set_cons_succ, i64_w, i32_w]
     rfl
    refine take_ (i := 3) (N := some 20) (v := ?_) (a' := ?_) #[true, true, true, true, true, true, true, false, false, false] rfl rfl (take_ofW HT_.out HW_.out (by kernel_rfl)) (fun _ _ _ h => h) (Or.inl ⟨by rfl, ?_⟩) hHeld ?_ ?_
    rotate_left
    ·rintro w' ⟨s0, s1, s2, s3, s4, s5⟩
     go_simp
     first | with_reducible rfl | (rw [if_neg (by omega)]; done)
    rotate_left
    ·simp only [Act.put, List.setIfInBounds_toArray, List.set_cons_zero, List.set_cons_succ, i64_w, i32_w]
     rfl
    refine take_ (i := 7) (N := some 24) (v := ?_) (a' := ?_) #[true, true, true, true, true, true, true, true, false, false] rfl rfl (take_ofW HT_.out HW_.out (by kernel_rfl)) (fun _ _ _ h => h) (Or.inl ⟨by rfl, ?_⟩) hHeld ?_ ?_
    rotate_left
    ·rintro w' ⟨s0, s1, s2, s3, s4, s5⟩
     go_simp
     first | with_reducible rfl | (rw [if_neg (by omega)]; done)
    rotate_left
    ·simp only [Act.put, List.setIfInBounds_toArray, List.set_cons_zero, List.set_cons_succ, i64_w, i32_w]
     rfl
    refine one_ (i := 8) (N := some 25) #[true, true, true, true, true, true, true, true, true, false] rfl rfl (one_of HT_.out (by kernel_rfl)) (by decide) (fun K hK => ?_)
    refine goes_ Try.func27 (by kernel_rfl) rfl #[.agg #[.int .i64 ((rd_T35 l0 x5_1).f0), .string ((rd_T35 l0 x5_1).f1), .slice A61001_2 ((rd_T35 l0 x5_1).f2).length c61001_2], .agg #[.int .i64 ((rd_T35 l1 x5_1).f0), .string ((rd_T35 l1 x5_1).f1), .slice A61002_2 ((rd_T35 l1 x5_1).f2).length c61002_2]] (by rfl) rfl rfl za3 ?_
    with_reducible refine (gC k1 ((rd_T35 l0 x5_1).f0) ((rd_T35 l0 x5_1).f1) _ _ ((rd_T35 l0 x5_1).f2) ((rd_T35 l1 x5_1).f0) ((rd_T35 l1 x5_1).f1) _ _ ((rd_T35 l1 x5_1).f2) true _ ?side1 ?side2 ?side3 ?side4 A7.out).mono ?_
    (case side1 => repeat (first | exact (Kd.C_below HR61001_2.out HB.out) | (with_reducible refine Kd.C_alloc ?_ _) | (with_reducible refine Kd.C_drewN ?_ _) | (with_reducible refine Kd.C_drew ?_)))
    (case side2 => exact HC61001_2.out)
    (case side3 => repeat (first | exact (Kd.C_below HR61002_2.out HB.out) | (with_reducible refine Kd.C_alloc ?_ _) | (with_reducible refine Kd.C_drewN ?_ _) | (with_reducible refine Kd.C_drew ?_)))
    (case side4 => exact HC61002_2.out)
    rintro e w10 ⟨rfl, hb⟩
    refine ⟨_, rfl, ?_⟩
    have n0_ := Aside0.mk (below_step za2 hb)
    clear HB
    have HB := n0_
    clear n0_
    (try clear hb)
    (try clear hb2)
    (try clear hk)
    (try clear hi)
    refine hK.out _ _ ⟨((HB.out.cell (World.block_lt_of_cell? w _ hw61001_0)).trans hw61001_0), ((HB.out.cell (World.block_lt_of_cell? w _ hw61001_1)).trans hw61001_1), ((HB.out.cell (World.block_lt_of_cell? w _ hw61001_2)).trans hw61001_2), ((HB.out.cell (World.block_lt_of_cell? w _ hw61002_0)).trans hw61002_0), ((HB.out.cell (World.block_lt_of_cell? w _ hw61002_1)).trans hw61002_1), ((HB.out.cell (World.block_lt_of_cell? w _ hw61002_2)).trans hw61002_2)⟩ (fun hHeld => ?_)
    clear hK K
    refine norm_ (a' := ?_) ?_ ?_
    rotate_left
    ·show Act.put _ (some 25) _ = _
     simp only [Act.put, List.setIfInBounds_toArray, List.set_cons_zero, List.set_cons_succ, i64_w, i32_w]
     rfl
    refine pure_ (i := 9) (N := some 26) (v := ?_) (a' := ?_) #[true, true, true, true, true, true, true, true, true, true] rfl rfl (any_of HT_.out (by kernel_rfl)) (fun _ _ _ h => h) (Or.inl ⟨by rfl, ?_⟩) ?_ ?_
    rotate_left
    ·intro w'
     go_simp
     first | with_reducible rfl | (rw [if_neg (by omega)]; done)
    rotate_left
    ·simp only [Act.put, List.setIfInBounds_toArray, List.set_cons_zero, List.set_cons_succ, i64_w, i32_w]
     rfl
    refine done_ (done_of HT_.out (by kernel_rfl)) ?_
    try go_wp2
    go_roundg k1
    case measure => have := HK1.out; omega
    case rel => exact ⟨(wrap64 (x5_1 + 1)), za6, H', ⟨za11⟩, ⟨za2⟩⟩
   ·replace c8 := Bool.eq_false_iff.mpr c8
    subst c8
    have H1 : (some false) = some r := by rw [if_neg (show ¬ (false = true) by decide)] at H; exact H
    clear H
    have H := H1
    clear H1
    obtain rfl := Option.some.inj H
    try go_wp2
    have n0_ := Aside0.mk (below_drew1 HB.out)
    clear HB
    have HB := n0_
    clear n0_
    have p61001 : 0 ≤ (x5_1 : Int) := of_decide_eq_true za7
    have q61001 : x5_1 < (l0.length : Int) := of_decide_eq_true za7
    obtain ⟨ad61001, A61001_2, c61001_2, e61001, hx61001_0, hx61001_1, hx61001_2, hl61001_2, hi61001_2⟩ := at_T35 HR0.out x5_1 p61001 q61001
    have hw61001_2 := hx61001_2
    have hw61001_1 := hx61001_1
    have hw61001_0 := hx61001_0
    cases e61001
    replace hx61001_0 := (HB.out.cell (World.block_lt_of_cell? w _ hx61001_0)).trans hx61001_0
    replace hx61001_1 := (HB.out.cell (World.block_lt_of_cell? w _ hx61001_1)).trans hx61001_1
    replace hx61001_2 := (HB.out.cell (World.block_lt_of_cell? w _ hx61001_2)).trans hx61001_2
    have HR61001_2 := Aside0.mk hi61001_2
    have HC61001_2 := Aside0.mk hl61001_2
    clear hi61001_2 hl61001_2
    replace p61001 := eq_true p61001
    replace q61001 := eq_true q61001
    have p61002 : 0 ≤ (x5_1 : Int) := of_decide_eq_true za7
    have q61002 : x5_1 < (l1.length : Int) := of_decide_eq_true za7
    obtain ⟨ad61002, A61002_2, c61002_2, e61002, hx61002_0, hx61002_1, hx61002_2, hl61002_2, hi61002_2⟩ := at_T35 HR1.out x5_1 p61002 q61002
    have hw61002_2 := hx61002_2
    have hw61002_1 := hx61002_1
    have hw61002_0 := hx61002_0
    cases e61002
    replace hx61002_0 := (HB.out.cell (World.block_lt_of_cell? w _ hx61002_0)).trans hx61002_0
    replace hx61002_1 := (HB.out.cell (World.block_lt_of_cell? w _ hx61002_1)).trans hx61002_1
    replace hx61002_2 := (HB.out.cell (World.block_lt_of_cell? w _ hx61002_2)).trans hx61002_2
    have HR61002_2 := Aside0.mk hi61002_2
    have HC61002_2 := Aside0.mk hl61002_2
    clear hi61002_2 hl61002_2
    replace p61002 := eq_true p61002
    replace q61002 := eq_true q61002
    refine start_ (n := 10) (S := fun w' => w'.cell? (ad61001.add ((x5_1).toNat * 3)) = some (.int .i64 ((rd_T35 l0 x5_1).f0)) ∧ w'.cell? ⟨(ad61001.add ((x5_1).toNat * 3)).block, (ad61001.add ((x5_1).toNat * 3)).off + 1, none⟩ = some (.string ((rd_T35 l0 x5_1).f1)) ∧ w'.cell? ⟨(ad61001.add ((x5_1).toNat * 3)).block, (ad61001.add ((x5_1).toNat * 3)).off + 2, none⟩ = some (.slice A61001_2 ((rd_T35 l0 x5_1).f2).length c61001_2) ∧ w'.cell? (ad61002.add ((x5_1).toNat * 3)) = some (.int .i64 ((rd_T35 l1 x5_1).f0)) ∧ w'.cell? ⟨(ad61002.add ((x5_1).toNat * 3)).block, (ad61002.add ((x5_1).toNat * 3)).off + 1, none⟩ = some (.string ((rd_T35 l1 x5_1).f1)) ∧ w'.cell? ⟨(ad61002.add ((x5_1).toNat * 3)).block, (ad61002.add ((x5_1).toNat * 3)).off + 2, none⟩ = some (.slice A61002_2 ((rd_T35 l1 x5_1).f2).length c61002_2)) (ds := []) #[false, false, false, false, false, false, false, false, false, false] (by kernel_rfl) rfl rfl ⟨((HB.out.cell (World.block_lt_of_cell? w _ hw61001_0)).trans hw61001_0), ((HB.out.cell (World.block_lt_of_cell? w _ hw61001_1)).trans hw61001_1), ((HB.out.cell (World.block_lt_of_cell? w _ hw61001_2)).trans hw61001_2), ((HB.out.cell (World.block_lt_of_cell? w _ hw61002_0)).trans hw61002_0), ((HB.out.cell (World.block_lt_of_cell? w _ hw61002_1)).trans hw61002_1), ((HB.out.cell (World.block_lt_of_cell? w _ hw61002_2)).trans hw61002_2)⟩ (fun hHeld => ?_); refine with_tabW laws_eqRegexSG.tab6 laws_eqRegexSG.bits6 (fun HT_ HW_ => ?_)
    generalize wr.drew = w11 at HB HR61001_2 HR61002_2 hx61001_0 hx61001_1 hx61001_2 hx61002_0 hx61002_1 hx61002_2 hHeld ⊢
    refine pure_ (i := 0) (N := some 17) (v := ?_) (a' := ?_) #[true, false, false, false, false, false, false, false, false, false] rfl rfl (any_of HT_.out (by kernel_rfl)) (fun _ _ _ h => h) (Or.inl ⟨by rfl, ?_⟩) ?_ ?_
    rotate_left
    ·intro w'
     go_simp
     first | with_reducible rfl | (rw [if_neg (by omega)]; done)
    rotate_left
    ·simp only [Act.put, List.setIfInBounds_toArray, List.set_cons_zero, List.set_cons_succ, i64_w, i32_w]
     rfl
    refine pure_ (i := 1) (N := some 18) (v := ?_) (a' := ?_) #[true, true, false, false, false, false, false, false, false, false] rfl rfl (any_of HT_.out (by kernel_rfl)) (fun _ _ _ h => h) (Or.inl ⟨by rfl, ?_⟩) ?_ ?_
    rotate_left
    ·intro w'
     go_simp
     first | with_reducible rfl | (rw [if_neg (by omega)]; done)
    rotate_left
    ·simp only [Act.put, List.setIfInBounds_toArray, List.set_cons_zero, List.set_cons_succ, i64_w, i32_w]
     rfl
    refine pure_ (i := 2) (N := some 19) (v := ?_) (a' := ?_) #[true, true, true, false, false, false, false, false, false, false] rfl rfl (any_of HT_.out (by kernel_rfl)) (fun _ _ _ h => h) (Or.inl ⟨by rfl, ?_⟩) ?_ ?_
    rotate_left
    ·intro w'
     go_simp
     first | with_reducible rfl | (rw [if_neg (by omega)]; done)
    rotate_left
    ·simp only [Act.put, List.setIfInBounds_toArray, List.set_cons_zero, List.set_cons_succ, i64_w, i32_w]
     rfl
    refine pure_ (i := 4) (N := some 21) (v := ?_) (a' := ?_) #[true, true, true, false, true, false, false, false, false, false] rfl rfl (any_of HT_.out (by kernel_rfl)) (fun _ _ _ h => h) (Or.inl ⟨by rfl, ?_⟩) ?_ ?_
    rotate_left
    ·intro w'
     go_simp
     first | with_reducible rfl | (rw [if_neg (by omega)]; done)
    rotate_left
    ·simp only [Act.put, List.setIfInBounds_toArray, List.set_cons_zero, List.set_cons_succ, i64_w, i32_w]
     rfl
    refine pure_ (i := 5) (N := some 22) (v := ?_) (a' := ?_) #[true, true, true, false, true, true, false, false, false, false] rfl rfl (any_of HT_.out (by kernel_rfl)) (fun _ _ _ h => h) (Or.inl ⟨by rfl, ?_⟩) ?_ ?_
    rotate_left
    ·intro w'
     go_simp
     first | with_reducible rfl | (rw [if_neg (by omega)]; done)
    rotate_left
    ·simp only [Act.put, List.setIfInBounds_toArray, List.set_cons_zero, List.set_cons_succ, i64_w, i32_w]
     rfl
    refine pure_ (i := 6) (N := some 23) (v := ?_) (a' := ?_) #[true, true, true, false, true, true, true, false, false, false] rfl rfl (any_of HT_.out (by kernel_rfl)) (fun _ _ _ h => h) (Or.inl ⟨by rfl, ?_⟩) ?_ ?_
    rotate_left
    ·intro w'
     go_simp
     first | with_reducible rfl | (rw [if_neg (by omega)]; done)
    rotate_left
    ·simp only [Act.put, List.setIfInBounds_toArray, List.set_cons_zero, List.set_cons_succ, i64_w, i32_w]
     rfl
    refine take_ (i := 3) (N := some 20) (v := ?_) (a' := ?_) #[true, true, true, true, true, true, true, false, false, false] rfl rfl (take_ofW HT_.out HW_.out (by kernel_rfl)) (fun _ _ _ h => h) (Or.inl ⟨by rfl, ?_⟩) hHeld ?_ ?_
    rotate_left
    ·rintro w' ⟨s0, s1, s2, s3, s4, s5⟩
     go_simp
     first | with_reducible rfl | (rw [if_neg (by omega)]; done)
    rotate_left
    ·simp only [Act.put, List.setIfInBounds_toArray, List.set_cons_zero, List.set_cons_succ, i64_w, i32_w]
     rfl
    refine take_ (i := 7) (N := some 24) (v := ?_) (a' := ?_) #[true, true, true, true, true, true, true, true, false, false] rfl rfl (take_ofW HT_.out HW_.out (by kernel_rfl)) (fun _ _ _ h => h) (Or.inl ⟨by rfl, ?_⟩) hHeld ?_ ?_
    rotate_left
    ·rintro w' ⟨s0, s1, s2, s3, s4, s5⟩
     go_simp
     first | with_reducible rfl | (rw [if_neg (by omega)]; done)
    rotate_left
    ·simp only [Act.put, List.setIfInBounds_toArray, List.set_cons_zero, List.set_cons_succ, i64_w, i32_w]
     rfl
    refine one_ (i := 8) (N := some 25) #[true, true, true, true, true, true, true, true, true, false] rfl rfl (one_of HT_.out (by kernel_rfl)) (by decide) (fun K hK => ?_)
    refine goes_ Try.func27 (by kernel_rfl) rfl #[.agg #[.int .i64 ((rd_T35 l0 x5_1).f0), .string ((rd_T35 l0 x5_1).f1), .slice A61001_2 ((rd_T35 l0 x5_1).f2).length c61001_2], .agg #[.int .i64 ((rd_T35 l1 x5_1).f0), .string ((rd_T35 l1 x5_1).f1), .slice A61002_2 ((rd_T35 l1 x5_1).f2).length c61002_2]] (by rfl) rfl rfl za3 ?_
    with_reducible refine (gC k1 ((rd_T35 l0 x5_1).f0) ((rd_T35 l0 x5_1).f1) _ _ ((rd_T35 l0 x5_1).f2) ((rd_T35 l1 x5_1).f0) ((rd_T35 l1 x5_1).f1) _ _ ((rd_T35 l1 x5_1).f2) false _ ?side1 ?side2 ?side3 ?side4 A7.out).mono ?_
    (case side1 => repeat (first | exact (Kd.C_below HR61001_2.out HB.out) | (with_reducible refine Kd.C_alloc ?_ _) | (with_reducible refine Kd.C_drewN ?_ _) | (with_reducible refine Kd.C_drew ?_)))
    (case side2 => exact HC61001_2.out)
    (case side3 => repeat (first | exact (Kd.C_below HR61002_2.out HB.out) | (with_reducible refine Kd.C_alloc ?_ _) | (with_reducible refine Kd.C_drewN ?_ _) | (with_reducible refine Kd.C_drew ?_)))
    (case side4 => exact HC61002_2.out)
    rintro e w12 ⟨rfl, hb⟩
    refine ⟨_, rfl, ?_⟩
    have n0_ := Aside0.mk (below_step za2 hb)
    clear HB
    have HB := n0_
    clear n0_
    (try clear hb)
    (try clear hb2)
    (try clear hk)
    (try clear hi)
    refine hK.out _ _ ⟨((HB.out.cell (World.block_lt_of_cell? w _ hw61001_0)).trans hw61001_0), ((HB.out.cell (World.block_lt_of_cell? w _ hw61001_1)).trans hw61001_1), ((HB.out.cell (World.block_lt_of_cell? w _ hw61001_2)).trans hw61001_2), ((HB.out.cell (World.block_lt_of_cell? w _ hw61002_0)).trans hw61002_0), ((HB.out.cell (World.block_lt_of_cell? w _ hw61002_1)).trans hw61002_1), ((HB.out.cell (World.block_lt_of_cell? w _ hw61002_2)).trans hw61002_2)⟩ (fun hHeld => ?_)
    clear hK K
    refine norm_ (a' := ?_) ?_ ?_
    rotate_left
    ·show Act.put _ (some 25) _ = _
     simp only [Act.put, List.setIfInBounds_toArray, List.set_cons_zero, List.set_cons_succ, i64_w, i32_w]
     rfl
    refine pure_ (i := 9) (N := some 26) (v := ?_) (a' := ?_) #[true, true, true, true, true, true, true, true, true, true] rfl rfl (any_of HT_.out (by kernel_rfl)) (fun _ _ _ h => h) (Or.inl ⟨by rfl, ?_⟩) ?_ ?_
    rotate_left
    ·intro w'
     go_simp
     first | with_reducible rfl | (rw [if_neg (by omega)]; done)
    rotate_left
    ·simp only [Act.put, List.setIfInBounds_toArray, List.set_cons_zero, List.set_cons_succ, i64_w, i32_w]
     rfl
    refine done_ (done_of HT_.out (by kernel_rfl)) ?_
    try go_wp2
    go_ret
    exact ⟨za5, za2⟩
   ·rw [if_neg c6] at H
    exact absurd H (by simp)
   ·rw [if_neg c5] at H
    exact absurd H (by simp)
   ·rw [if_neg c4] at H
    have c4b0 : decide (x5_1 < (l0.length : Int)) = false := decide_eq_false c4
    clear c4
    obtain rfl := Option.some.inj H
    go_wp2
    go_ret
    exact ⟨za5, za2⟩
 ·rw [if_neg c3] at H
  have c3b0 : ((l0.length : Int) == (l1.length : Int)) = false := beq_eq_false_iff_ne.mpr c3
  have c3b1 : ((l0.length : Int) != (l1.length : Int)) = true := bne_iff_ne.mpr c3
  have c3b2 : (l0.length == l1.length) = false := by first | simpa using c3 | (simp at c3 ⊢; omega)
  obtain rfl := Option.some.inj H
  go_enter Try.func61, Try.ntmps61
  go_wp2
  go_ret
  exact ⟨za5, za2⟩
theorem laws_eqRegexSG.mono_lg (gF gF2 : Nat → Int → ByteArray → List (S35) → Int → ByteArray → List (S35) → Option (Bool)) (hg : ∀ b0 b1 b2 b3 b4 b5 k, LeO (gF k b0 b1 b2 b3 b4 b5) (gF2 k b0 b1 b2 b3 b4 b5)) : ∀ k, (∀ y0 y1 y2, LeO (laws_eqRegexSG.l0 gF k y0 y1 y2) (laws_eqRegexSG.l0 gF2 k y0 y1 y2))
 | 0 => fun _ _ _ r h => by simp [laws_eqRegexSG.l0] at h
 | k + 1 => by
  have ih0 := laws_eqRegexSG.mono_lg gF gF2 hg k
  ·intro y0 y1 y2
   unfold laws_eqRegexSG.l0
   repeat' first
   | (with_reducible exact ih0 _ _ _)
   | (with_reducible exact hg _ _ _ _ _ _ _)
   | (with_reducible exact LeO.refl _)
   | (with_reducible exact LeO.none _)
   | (with_reducible refine LeO.ite ?_ ?_)
   | (with_reducible refine LeO.bind ?_ (fun _ => ?_))
   | exact hg _ _ _ _ _ _ _
theorem laws_eqRegexSG.monog (gF gF2 : Nat → Int → ByteArray → List (S35) → Int → ByteArray → List (S35) → Option (Bool)) (hg : ∀ b0 b1 b2 b3 b4 b5 k, LeO (gF k b0 b1 b2 b3 b4 b5) (gF2 k b0 b1 b2 b3 b4 b5)) : ∀ a0 a1 k, LeO (laws_eqRegexSG.f gF k a0 a1) (laws_eqRegexSG.f gF2 k a0 a1) := by
 intro a0 a1 k
 have ih0 := laws_eqRegexSG.mono_lg gF gF2 hg k
 unfold laws_eqRegexSG.f
 repeat' first
   | (with_reducible exact ih0 _ _ _)
   | (with_reducible exact hg _ _ _ _ _ _ _)
   | (with_reducible exact LeO.refl _)
   | (with_reducible exact LeO.none _)
   | (with_reducible refine LeO.ite ?_ ?_)
   | (with_reducible refine LeO.bind ?_ (fun _ => ?_))
   | exact hg _ _ _ _ _ _ _
end Go.Proofs.Ytffjfdoghofkdaa.A
namespace Go.Proofs.Ytffjfdoghofkdaa.A
open Go.RowKit Go.Proofs.Ytffjfdoghofkdaa.Ext Go.Proofs.YtffjfdoghofkdaaW.PrintWords Go.Proofs.YtffjfdoghofkdaaW.PrintLast Go.Proofs.YtffjfdoghofkdaaW.PrintMore
attribute [local go_sem] max2_int min2_int max_two min_two max_three min_three max_four min_four
def laws_eqRegexG.f (gF : Nat → Int → ByteArray → List (S35) → Int → ByteArray → List (S35) → Option (Bool)) (k : Nat) (a0_0 : Int) (a0_1 : ByteArray) (l0_2 : List (S35)) (a1_0 : Int) (a1_1 : ByteArray) (l1_2 : List (S35)) : Option (Bool) := if a0_0 = a1_0 then (if a0_1.toList = a1_1.toList then ((laws_eqRegexSG.f gF k l0_2 l1_2).bind fun t27003 => (if t27003 = true then (some true) else (some false))) else (some false)) else (some false)
theorem laws_eqRegexG.mono (gF : Nat → Int → ByteArray → List (S35) → Int → ByteArray → List (S35) → Option (Bool)) (gM : ∀ a0 a1 a2 a3 a4 a5 k, LeO (gF k a0 a1 a2 a3 a4 a5) (gF (k + 1) a0 a1 a2 a3 a4 a5)) : ∀ a0 a1 a2 a3 a4 a5 k, LeO (laws_eqRegexG.f gF k a0 a1 a2 a3 a4 a5) (laws_eqRegexG.f gF (k + 1) a0 a1 a2 a3 a4 a5) := by
 intro a0 a1 a2 a3 a4 a5 k
 unfold laws_eqRegexG.f
 repeat' first
   | with_reducible first | exact laws_eqRegexSG.mono gF gM _ _ _ | exact LeO.refl _ | exact LeO.none _ | refine LeO.ite ?_ ?_ | refine LeO.bind ?_ (fun _ => ?_)
theorem laws_eqRegexG.calls (gF : Nat → Int → ByteArray → List (S35) → Int → ByteArray → List (S35) → Option (Bool)) (gC : ∀ (k : Nat) (a0_0 : Int) (a0_1 : ByteArray) (A0_2 : Option Addr) (c0_2 : Nat) (l0_2 : List (S35)) (a1_0 : Int) (a1_1 : ByteArray) (A1_2 : Option Addr) (c1_2 : Nat) (l1_2 : List (S35)) (r : Bool) (w : World) (hr0_2 : Kd.C k35 w A0_2 l0_2.length l0_2) (hc0_2 : l0_2.length ≤ c0_2) (hr1_2 : Kd.C k35 w A1_2 l1_2.length l1_2) (hc1_2 : l1_2.length ≤ c1_2) (h : gF k a0_0 a0_1 l0_2 a1_0 a1_1 l1_2 = some r), Calls Try.prog 27 #[.agg #[.int .i64 a0_0, .string a0_1, .slice A0_2 l0_2.length c0_2], .agg #[.int .i64 a1_0, .string a1_1, .slice A1_2 l1_2.length c1_2]] w fun e w' => e = .returned (.bool r) ∧ Below w.heap.size w w') (k : Nat) (a0_0 : Int) (a0_1 : ByteArray) (A0_2 : Option Addr) (c0_2 : Nat) (l0_2 : List (S35)) (a1_0 : Int) (a1_1 : ByteArray) (A1_2 : Option Addr) (c1_2 : Nat) (l1_2 : List (S35)) (r : Bool) (w : World) (hr0_2 : Kd.C k35 w A0_2 l0_2.length l0_2) (hc0_2 : l0_2.length ≤ c0_2) (hr1_2 : Kd.C k35 w A1_2 l1_2.length l1_2) (hc1_2 : l1_2.length ≤ c1_2) (h : laws_eqRegexG.f gF k a0_0 a0_1 l0_2 a1_0 a1_1 l1_2 = some r) :
  Calls Try.prog 27 #[.agg #[.int .i64 a0_0, .string a0_1, .slice A0_2 l0_2.length c0_2], .agg #[.int .i64 a1_0, .string a1_1, .slice A1_2 l1_2.length c1_2]] w fun e w' => e = .returned (.bool r) ∧ Below w.heap.size w w' := by
 have hu35 := Try.underlying35
 have HR0_2 := Aside0.mk hr0_2
 have HC0_2 := Aside0.mk hc0_2
 clear hr0_2 hc0_2
 have HR1_2 := Aside0.mk hr1_2
 have HC1_2 := Aside0.mk hc1_2
 clear hr1_2 hc1_2
 have HB := Aside0.mk (Below.refl w.heap.size w)
 have H : (if a0_0 = a1_0 then (if a0_1.toList = a1_1.toList then ((laws_eqRegexSG.f gF k l0_2 l1_2).bind fun t27003 => (if t27003 = true then (some true) else (some false))) else (some false)) else (some false)) = some r := h
 clear h
 by_cases c3 : a0_0 = a1_0
 rw [if_pos c3] at H
 have c3b0 : (a0_0 == a1_0) = true := beq_iff_eq.mpr c3
 have c3b1 : (a0_0 != a1_0) = false := bne_eq_false_iff_eq.mpr c3
 clear c3
 by_cases c4 : a0_1.toList = a1_1.toList
 rw [if_pos c4] at H
 have c4b0 : (a0_1.toList == a1_1.toList) = true := beq_iff_eq.mpr c4
 have c4b1 : (a0_1.toList != a1_1.toList) = false := bne_eq_false_iff_eq.mpr c4
 clear c4
 replace H := Option.bind_eq_some_iff.mp H
 obtain ⟨t27003, A50, H⟩ := H
 replace H : (if t27003 = true then (some true) else (some false)) = some r := H
 have A5 := Aside0.mk A50
 clear A50
 by_cases c6 : t27003 = true
 subst c6
 have H1 : (some true) = some r := by rw [if_pos rfl] at H; exact H
 clear H
 have H := H1
 clear H1
 rotate_left
 replace c6 := Bool.eq_false_iff.mpr c6
 subst c6
 have H1 : (some false) = some r := by rw [if_neg (show ¬ (false = true) by decide)] at H; exact H
 clear H
 have H := H1
 clear H1
 rotate_left
 rw [if_neg c4] at H
 have c4b0 : (a0_1.toList == a1_1.toList) = false := beq_eq_false_iff_ne.mpr c4
 have c4b1 : (a0_1.toList != a1_1.toList) = true := bne_iff_ne.mpr c4
 rotate_left
 rw [if_neg c3] at H
 have c3b0 : (a0_0 == a1_0) = false := beq_eq_false_iff_ne.mpr c3
 have c3b1 : (a0_0 != a1_0) = true := bne_iff_ne.mpr c3
 rotate_left
 all_goals
  obtain rfl := Option.some.inj H
  go_enter Try.func27, Try.ntmps27
  go_wp2_with (first | ((with_reducible refine gate_dst (N := 2) rfl ?_); refine box_event ?hg (N := 2) ?hd (cs := #[.int .i64 a0_0, .string a0_1, .slice A0_2 l0_2.length c0_2]) (t := 35) ?hr ?_; (case hd => rfl); (case hg => rfl); (case hr => first | (go_simp; done) | (go_simp; rfl)); intro gb27001 hg w13 hbox hb; have n0_ := Aside0.mk (below_step za2 hb); have n1_ := Aside0.mk (hbox); have n2_ := Aside0.mk ((by rw [hg]; exact (below_size za2) : w.heap.size ≤ gb27001)); have n3_ := Aside0.mk ((by rw [hg]; exact (below_size za2) : w.heap.size ≤ gb27001)); clear HB; have HB := n0_; have BK27001 := n1_; have GW27001 := n2_; have GE27001 := n3_; clear n0_ n1_ n2_ n3_; clear hb hbox hg) | ((with_reducible refine gate_dst (N := 3) rfl ?_); refine box_event ?hg (N := 3) ?hd (cs := #[.int .i64 a1_0, .string a1_1, .slice A1_2 l1_2.length c1_2]) (t := 35) ?hr ?_; (case hd => rfl); (case hg => rfl); (case hr => first | (go_simp; done) | (go_simp; rfl)); intro gb27002 hg w14 hbox hb; have n0_ := Aside0.mk (blk_below (g := gb27001) (o := .cells #[.int .i64 a0_0, .string a0_1, .slice A0_2 l0_2.length c0_2] 35 (0, 0)) (za0 BK27001.out) hb); have n1_ := Aside0.mk (below_step za2 hb); have n2_ := Aside0.mk (hbox); have n3_ := Aside0.mk ((by rw [hg]; exact (below_size za2) : w.heap.size ≤ gb27002)); have n4_ := Aside0.mk ((by rw [hg]; exact (below_size za2) : w.heap.size ≤ gb27002)); have n5_ := Aside0.mk ((by rw [hg]; exact Nat.ne_of_lt (blk_lt (g := gb27001) (o := .cells #[.int .i64 a0_0, .string a0_1, .slice A0_2 l0_2.length c0_2] 35 (0, 0)) (za0 BK27001.out)) : gb27001 ≠ gb27002)); have n6_ := Aside0.mk ((by rw [hg]; exact Nat.ne_of_gt (blk_lt (g := gb27001) (o := .cells #[.int .i64 a0_0, .string a0_1, .slice A0_2 l0_2.length c0_2] 35 (0, 0)) (za0 BK27001.out)) : gb27002 ≠ gb27001)); clear BK27001; clear HB; have BK27001 := n0_; have HB := n1_; have BK27002 := n2_; have GW27002 := n3_; have GE27002 := n4_; have NB27001_27002 := n5_; have NB27002_27001 := n6_; clear n0_ n1_ n2_ n3_ n4_ n5_ n6_; clear hb hbox hg; have hnb15 := NB27001_27002.out; have hnc15 := NB27002_27001.out; obtain ⟨hcz16_0, hcz16_1, hcz16_2, hfz16_0, hfz16_1, hfz16_2⟩ := blk3 BK27001.out; obtain ⟨hcz17_0, hcz17_1, hcz17_2, hfz17_0, hfz17_1, hfz17_2⟩ := blk3 BK27002.out) | ((with_reducible refine gate_callee (f := 61) rfl ?_); refine goesL_ (some 19) rfl rfl Try.func61 (by kernel_rfl) rfl #[.slice A0_2 l0_2.length c0_2, .slice A1_2 l1_2.length c1_2] rfl za3 ?_; (with_reducible refine (laws_eqRegexSG.calls gF gC k _ _ l0_2 _ _ l1_2 _ _ ?side1 ?side2 ?side3 ?side4 A5.out).mono ?_); (case side1 => repeat (first | exact (Kd.C_below HR0_2.out HB.out) | (with_reducible refine Kd.C_alloc ?_ _) | (with_reducible refine Kd.C_drewN ?_ _) | (with_reducible refine Kd.C_drew ?_))); (case side2 => exact HC0_2.out); (case side3 => repeat (first | exact (Kd.C_below HR1_2.out HB.out) | (with_reducible refine Kd.C_alloc ?_ _) | (with_reducible refine Kd.C_drewN ?_ _) | (with_reducible refine Kd.C_drew ?_))); (case side4 => exact HC1_2.out); rintro e w18 ⟨rfl, hb⟩; refine ⟨_, rfl, ?_⟩; have n0_ := Aside0.mk (blk_below (g := gb27001) (o := .cells #[.int .i64 a0_0, .string a0_1, .slice A0_2 l0_2.length c0_2] 35 (0, 0)) (za0 BK27001.out) hb); have n1_ := Aside0.mk (blk_below (g := gb27002) (o := .cells #[.int .i64 a1_0, .string a1_1, .slice A1_2 l1_2.length c1_2] 35 (0, 0)) (za0 BK27002.out) hb); have n2_ := Aside0.mk (below_step za2 hb); clear BK27001; clear BK27002; clear HB; have BK27001 := n0_; have BK27002 := n1_; have HB := n2_; clear n0_ n1_ n2_; (try clear hb); (try clear hb2); (try clear hk); (try clear hi)))
  go_ret
  exact ⟨za5, za2⟩
theorem laws_eqRegexG.monog (gF gF2 : Nat → Int → ByteArray → List (S35) → Int → ByteArray → List (S35) → Option (Bool)) (hg : ∀ b0 b1 b2 b3 b4 b5 k, LeO (gF k b0 b1 b2 b3 b4 b5) (gF2 k b0 b1 b2 b3 b4 b5)) : ∀ a0 a1 a2 a3 a4 a5 k, LeO (laws_eqRegexG.f gF k a0 a1 a2 a3 a4 a5) (laws_eqRegexG.f gF2 k a0 a1 a2 a3 a4 a5) := by
 intro a0 a1 a2 a3 a4 a5 k
 unfold laws_eqRegexG.f
 repeat' first
   | (with_reducible exact laws_eqRegexSG.monog gF gF2 hg _ _ _)
   | (with_reducible exact LeO.refl _)
   | (with_reducible exact LeO.none _)
   | (with_reducible refine LeO.ite ?_ ?_)
   | (with_reducible refine LeO.bind ?_ (fun _ => ?_))
   | exact laws_eqRegexSG.monog gF gF2 hg _ _ _
def laws_eqRegex.f : Nat → Int → ByteArray → List (S35) → Int → ByteArray → List (S35) → Option (Bool)
 | 0, _, _, _, _, _, _ => none
 | K + 1, a0_, a1_, a2_, a3_, a4_, a5_ => laws_eqRegexG.f (fun _ => laws_eqRegex.f K) K a0_ a1_ a2_ a3_ a4_ a5_
theorem laws_eqRegex.mono : ∀ a0 a1 a2 a3 a4 a5 k, LeO (laws_eqRegex.f k a0 a1 a2 a3 a4 a5) (laws_eqRegex.f (k + 1) a0 a1 a2 a3 a4 a5) := by
 intro a0_ a1_ a2_ a3_ a4_ a5_ k
 induction k generalizing a0_ a1_ a2_ a3_ a4_ a5_ with
 | zero => exact LeO.none _
 | succ K ih =>
  intro r h
  have h1 := laws_eqRegexG.monog (fun _ => laws_eqRegex.f K) (fun _ => laws_eqRegex.f (K + 1)) (fun a0_ a1_ a2_ a3_ a4_ a5_ k => ih a0_ a1_ a2_ a3_ a4_ a5_) a0_ a1_ a2_ a3_ a4_ a5_ K r h
  exact laws_eqRegexG.mono (fun _ => laws_eqRegex.f (K + 1)) (fun a0_ a1_ a2_ a3_ a4_ a5_ k => LeO.refl _) a0_ a1_ a2_ a3_ a4_ a5_ K r h1
theorem laws_eqRegex.calls (k : Nat) (a0_0 : Int) (a0_1 : ByteArray) (A0_2 : Option Addr) (c0_2 : Nat) (l0_2 : List (S35)) (a1_0 : Int) (a1_1 : ByteArray) (A1_2 : Option Addr) (c1_2 : Nat) (l1_2 : List (S35)) (r : Bool) (w : World) (hr0_2 : Kd.C k35 w A0_2 l0_2.length l0_2) (hc0_2 : l0_2.length ≤ c0_2) (hr1_2 : Kd.C k35 w A1_2 l1_2.length l1_2) (hc1_2 : l1_2.length ≤ c1_2) (h : laws_eqRegex.f k a0_0 a0_1 l0_2 a1_0 a1_1 l1_2 = some r) :
  Calls Try.prog 27 #[.agg #[.int .i64 a0_0, .string a0_1, .slice A0_2 l0_2.length c0_2], .agg #[.int .i64 a1_0, .string a1_1, .slice A1_2 l1_2.length c1_2]] w fun e w' => e = .returned (.bool r) ∧ Below w.heap.size w w' := by
 induction k generalizing a0_0 a0_1 A0_2 c0_2 l0_2 a1_0 a1_1 A1_2 c1_2 l1_2 r w hr0_2 hc0_2 hr1_2 hc1_2 with
 | zero => exact absurd h (by simp [laws_eqRegex.f])
 | succ K ih => exact laws_eqRegexG.calls (fun _ => laws_eqRegex.f K) (fun k a0_0 a0_1 A0_2 c0_2 l0_2 a1_0 a1_1 A1_2 c1_2 l1_2 r w hr0_2 hc0_2 hr1_2 hc1_2 h => ih a0_0 a0_1 A0_2 c0_2 l0_2 a1_0 a1_1 A1_2 c1_2 l1_2 r w hr0_2 hc0_2 hr1_2 hc1_2 h) K a0_0 a0_1 A0_2 c0_2 l0_2 a1_0 a1_1 A1_2 c1_2 l1_2 r w hr0_2 hc0_2 hr1_2 hc1_2 h
def laws_eqRegexS.f (k : Nat) (l0 : List (S35)) (l1 : List (S35)) : Option (Bool) := laws_eqRegexSG.f laws_eqRegex.f k l0 l1
theorem laws_eqRegexS.mono : ∀ a0 a1 k, LeO (laws_eqRegexS.f k a0 a1) (laws_eqRegexS.f (k + 1) a0 a1) := laws_eqRegexSG.mono laws_eqRegex.f laws_eqRegex.mono
theorem laws_eqRegexS.calls (k : Nat) (A0 : Option Addr) (c0 : Nat) (l0 : List (S35)) (A1 : Option Addr) (c1 : Nat) (l1 : List (S35)) (r : Bool) (w : World) (hr0 : Kd.C k35 w A0 l0.length l0) (hc0 : l0.length ≤ c0) (hr1 : Kd.C k35 w A1 l1.length l1) (hc1 : l1.length ≤ c1) (h : laws_eqRegexS.f k l0 l1 = some r) :
  Calls Try.prog 61 #[.slice A0 l0.length c0, .slice A1 l1.length c1] w fun e w' => e = .returned (.bool r) ∧ Below w.heap.size w w' := laws_eqRegexSG.calls laws_eqRegex.f laws_eqRegex.calls k A0 c0 l0 A1 c1 l1 r w hr0 hc0 hr1 hc1 h
end Go.Proofs.Ytffjfdoghofkdaa.A
namespace Go.Proofs.Ytffjfdoghofkdaa.A
open Go.RowKit Go.Proofs.Ytffjfdoghofkdaa.Ext Go.Proofs.YtffjfdoghofkdaaW.PrintWords Go.Proofs.YtffjfdoghofkdaaW.PrintLast Go.Proofs.YtffjfdoghofkdaaW.PrintMore
attribute [local go_sem] max2_int min2_int max_two min_two max_three min_three max_four min_four
def laws_szIntS.f (l0 : List Int) (a1 : Int) : Option (Int) := if (wrap64 (a1 - (l0.length : Int))) < 0 then (some (-1)) else (some (wrap64 (a1 - (l0.length : Int))))
theorem laws_szIntS.calls (A0 : Option Addr) (c0 : Nat) (l0 : List Int) (a1 : Int) (r : Int) (w : World) (hr0 : Kd.C (Kd.int .i64) w A0 l0.length l0) (hc0 : l0.length ≤ c0) (h : laws_szIntS.f l0 a1 = some r) :
  Calls Try.prog 18 #[.slice A0 l0.length c0, .int .i64 a1] w fun e w' => e = .returned (.int .i64 r) ∧ Drawn0 w w' := by
 have HR0 := Aside0.mk hr0
 have HC0 := Aside0.mk hc0
 clear hr0 hc0
 have H : (if (wrap64 (a1 - (l0.length : Int))) < 0 then (some (-1)) else (some (wrap64 (a1 - (l0.length : Int))))) = some r := h
 clear h
 by_cases c3 : (wrap64 (a1 - (l0.length : Int))) < 0
 rw [if_pos c3] at H
 have c3b0 : decide ((wrap64 (a1 - (l0.length : Int))) < 0) = true := decide_eq_true c3
 have c3w : decide ((IntKind.i64.wrap (a1 - (l0.length : Int))) < 0) = true := by simp only [i64_w]; exact c3b0
 rotate_left
 rw [if_neg c3] at H
 have c3b0 : decide ((wrap64 (a1 - (l0.length : Int))) < 0) = false := decide_eq_false c3
 have c3w : decide ((IntKind.i64.wrap (a1 - (l0.length : Int))) < 0) = false := by simp only [i64_w]; exact c3b0
 rotate_left
 all_goals
  clear c3
  obtain rfl := Option.some.inj H
  go_enter Try.func18, Try.ntmps18
  go_wp2
  go_ret
  exact ⟨za6, za8⟩
def laws_toIntS.l0 : Nat → List Int → List Int → Int → Option (List Int)
 | 0, _, _, _ => none
 | k + 1, x0, x3, x4 => if x4 < (x0.length : Int) then (if 0 ≤ x4 then (if x4 < (x3.length : Int) then (laws_toIntS.l0 k x0 (x3.set (x4 : Int).toNat (rd x0 x4)) (wrap64 (x4 + 1))) else (none)) else (none)) else (some x3)
def laws_toIntS.f (k : Nat) (l0 : List Int) : Option (List Int) := if 0 ≤ (l0.length : Int) then (if ((l0.length : Int) : Int).toNat ≤ 35184372088832 then (laws_toIntS.l0 k l0 (List.replicate ((l0.length : Int) : Int).toNat 0) 0) else (none)) else (none)
theorem laws_toIntS.mono_l : ∀ k, (∀ y0 y1 y2, LeO (laws_toIntS.l0 k y0 y1 y2) (laws_toIntS.l0 (k + 1) y0 y1 y2))
 | 0 => fun _ _ _ r h => by simp [laws_toIntS.l0] at h
 | k + 1 => by
  have ih0 := laws_toIntS.mono_l k
  ·intro y0 y1 y2
   unfold laws_toIntS.l0
   repeat' first
   | with_reducible first | exact ih0 _ _ _ | exact LeO.refl _ | exact LeO.none _ | refine LeO.ite ?_ ?_ | refine LeO.bind ?_ (fun _ => ?_)
theorem laws_toIntS.mono : ∀ a0 k, LeO (laws_toIntS.f k a0) (laws_toIntS.f (k + 1) a0) := by
 intro a0 k
 have ih0 := laws_toIntS.mono_l k
 unfold laws_toIntS.f
 repeat' first
   | with_reducible first | exact ih0 _ _ _ | exact LeO.refl _ | exact LeO.none _ | refine LeO.ite ?_ ?_ | refine LeO.bind ?_ (fun _ => ?_)
theorem laws_toIntS.calls (k : Nat) (A0 : Option Addr) (c0 : Nat) (l0 : List Int) (r : List Int) (w : World) (hr0 : Kd.C (Kd.int .i64) w A0 l0.length l0) (hc0 : l0.length ≤ c0) (h : laws_toIntS.f k l0 = some r) :
  Calls Try.prog 23 #[.slice A0 l0.length c0] w fun e w' => ∃ v0_ : Value, e = .returned (v0_) ∧ Kd.R (Kd.int .i64) 3 w' w.heap.size (fun _ => True) v0_ r ∧ Below w.heap.size w w' := by
 have HR0 := Aside0.mk hr0
 have HC0 := Aside0.mk hc0
 clear hr0 hc0
 have HB := Aside0.mk (Below.refl w.heap.size w)
 have H : (if 0 ≤ (l0.length : Int) then (if ((l0.length : Int) : Int).toNat ≤ 35184372088832 then (laws_toIntS.l0 k l0 (List.replicate ((l0.length : Int) : Int).toNat 0) 0) else (none)) else (none)) = some r := h
 clear h
 by_cases c2 : 0 ≤ (l0.length : Int)
 rw [if_pos c2] at H
 have c2b0 := eq_true c2
 have c2b1 : decide (0 ≤ (l0.length : Int)) = true := decide_eq_true c2
 clear c2
 by_cases c3 : ((l0.length : Int) : Int).toNat ≤ 35184372088832
 ·rw [if_pos c3] at H
  have c3b0 := eq_true c3
  have c3b1 : decide (((l0.length : Int) : Int).toNat ≤ 35184372088832) = true := decide_eq_true c3
  clear c3
  obtain ⟨y23001, hy23001⟩ : ∃ y_ : List Int, y_ = (List.replicate ((l0.length : Int) : Int).toNat 0) := ⟨_, rfl⟩
  replace H : (laws_toIntS.l0 k l0 y23001 0) = some r := by first | (rw [hy23001]; with_reducible exact H) | (have H2_ := (Option.bind_some _ _).symm.trans H; rw [hy23001]; with_reducible exact H2_) | (have H2_ := (Option.bind_some _ _).symm.trans H; with_reducible exact H2_) | with_reducible exact H | (rw [hy23001]; exact H) | exact H
  have Ny23001 := Aside0.mk hy23001
  clear hy23001
  have H' := Aside0.mk H
  clear H
  go_enter Try.func23, Try.ntmps23
  go_wp2_with (first | ((with_reducible refine gate_dst (N := 7) rfl ?_); refine Kd.R_make (Kd.int .i64) _ 3 rfl (N := 7) rfl 25 _ _ rfl (l0.length : Int) rfl rfl Try.underlying25 (.int .i64 0) 8 info3 rfl (by decide) (by omega) 0 (ok := fun _ => True) (okp := fun _ => True) rfl (fun _ hk => hk) trivial (of_decide_eq_true za7) (Nat.le_trans (Nat.mul_le_mul_right _ (of_decide_eq_true za7 : (l0.length : Int).toNat ≤ 35184372088832)) (by omega)) (Below.refl _ _) (Nat.le_refl _) ?_; intro v23002 w4 ho5 hb hg_ hnew_; clear hg_ hnew_; (first | rw [← Ny23001.out] at ho5 | (simp only [Int.reduceToNat] at ho5; rw [← Ny23001.out] at ho5)); have n0_ := Aside0.mk (Kd.R_lower ho5 (below_size za2)); have n1_ := Aside0.mk (below_step za2 hb); clear HB; have HO23003 := n0_; have HB := n1_; clear n0_ n1_; clear hb ho5))
  first | go_loopg [4] k (fun kq v4 w' => ∃ (x3_1 : List Int) (x4_1 : Int), v4 = .int .i64 x4_1 ∧ Aside0 (laws_toIntS.l0 kq l0 x3_1 x4_1 = some r) ∧ Aside0 (kq ≤ k) ∧ Aside0 (Kd.R (Kd.int .i64) 3 w' w.heap.size (fun _ => True) v23002 x3_1) ∧ Aside0 (Below w.heap.size w w')) | (simp only [Act.put, List.setIfInBounds_toArray, List.set_cons_succ, List.set_cons_zero]; go_loopg [4] k (fun kq v4 w' => ∃ (x3_1 : List Int) (x4_1 : Int), v4 = .int .i64 x4_1 ∧ Aside0 (laws_toIntS.l0 kq l0 x3_1 x4_1 = some r) ∧ Aside0 (kq ≤ k) ∧ Aside0 (Kd.R (Kd.int .i64) 3 w' w.heap.size (fun _ => True) v23002 x3_1) ∧ Aside0 (Below w.heap.size w w')))
  case atStart => exact ⟨(y23001), (0), za6, H', ⟨Nat.le_refl _⟩, ⟨za1 HO23003.out⟩, ⟨za2⟩⟩
  case round =>
   clear H'
   try clear c3
   try clear c3b0
   try clear c3b1
   obtain ⟨x3_1, x4_1, rfl, HA, HK1, HO_3, HB⟩ := hrel
   cases gk with
   | zero => exact absurd HA.out (by simp [laws_toIntS.l0])
   | succ k1 =>
   have H := HA.out
   clear HA
   simp only [laws_toIntS.l0] at H
   by_cases c6 : x4_1 < (l0.length : Int)
   rw [if_pos c6] at H
   have c6b0 : decide (x4_1 < (l0.length : Int)) = true := decide_eq_true c6
   clear c6
   by_cases c7 : 0 ≤ x4_1
   rw [if_pos c7] at H
   have c7b0 : decide (0 ≤ x4_1) = true := decide_eq_true c7
   clear c7
   by_cases c8 : x4_1 < (x3_1.length : Int)
   ·rw [if_pos c8] at H
    have c8b0 : decide (x4_1 < (x3_1.length : Int)) = true := decide_eq_true c8
    clear c8
    obtain ⟨y23005, hy23005⟩ : ∃ y_ : List Int, y_ = (x3_1.set (x4_1 : Int).toNat (rd l0 x4_1)) := ⟨_, rfl⟩
    replace H : (laws_toIntS.l0 k1 l0 y23005 (wrap64 (x4_1 + 1))) = some r := by first | (rw [hy23005]; with_reducible exact H) | (have H2_ := (Option.bind_some _ _).symm.trans H; rw [hy23005]; with_reducible exact H2_) | (have H2_ := (Option.bind_some _ _).symm.trans H; with_reducible exact H2_) | with_reducible exact H | (rw [hy23005]; exact H) | exact H
    have Ny23005 := Aside0.mk hy23005
    clear hy23005
    have H' := Aside0.mk H
    clear H
    have p23004 : 0 ≤ (x4_1 : Int) := of_decide_eq_true za7
    have q23004 : x4_1 < (l0.length : Int) := of_decide_eq_true za7
    obtain ⟨ad23004, e23004, hx23004_0⟩ := Kd.at_int HR0.out x4_1 p23004 q23004
    cases e23004
    replace hx23004_0 := (HB.out.cell (World.block_lt_of_cell? w _ hx23004_0)).trans hx23004_0
    replace p23004 := eq_true p23004
    replace q23004 := eq_true q23004
    have p9 : 0 ≤ (x4_1 : Int) := of_decide_eq_true za7
    have q9 : (x4_1 : Int) < ((x3_1.length : Int) : Int) := of_decide_eq_true za7
    obtain ⟨go9, co9, eo9, gb9, gl9, cl9, HG9⟩ := Kd.R_form HO_3.out (by omega)
    (first | cases eo9 | (injection eo9 with ea_ en_ ec_; (first | subst ea_ | (injection ea_ with ea_; subst ea_)); subst ec_; clear en_))
    have GB9 := Aside0.mk gb9
    have GG9 := Aside0.mk HG9
    clear gb9 gl9 HG9
    obtain ⟨hx9_0, hf9_0⟩ := Kd.R_celln 0 HO_3.out (x4_1 : Int) p9 q9
    replace p9 := eq_true p9
    replace q9 := eq_true q9
    have HP10 := Kd.R_putg HO_3.out (x4_1 : Int) (rd l0 x4_1)
    go_wp2_with (first | ((with_reducible refine gate_store (t := 3) (p := 20) rfl ?_); refine store_event (t := 3) (p := 20) (v := ?vo_w11) (w1 := (wr.setCell ⟨go9, (x4_1 : Int).toNat, none⟩ (.int .i64 (rd l0 x4_1)))) ?hg ?ho ?hn ?hr ?_; (case ho => rfl); (case hg => rfl); (case hn => rfl); (case hr => first | (go_simp; done) | (go_simp; rfl)); intro w11 hw; have hg : wr.grownBy w11 (some go9) := (by rw [hw]; exact HP10.2); have hp_ : Kd.R (Kd.int .i64) 3 w11 w.heap.size (fun _ => True) (.slice (some ⟨go9, 0, none⟩) x3_1.length co9) y23005 := (by rw [hw, Ny23005.out]; exact HP10.1); clear HP10; have n0_ := Aside0.mk (hp_); have n1_ := Aside0.mk ((by rw [hw]; exact below_set (HB.out) GB9.out : Below w.heap.size w w11)); clear HO_3; clear HB; have HO_3 := n0_; have HB := n1_; clear n0_ n1_; clear hg hw hp_))
    go_roundg k1
    case measure => have := HK1.out; omega
    case rel => exact ⟨(y23005), (wrap64 (x4_1 + 1)), za6, H', ⟨za11⟩, ⟨za1 HO_3.out⟩, ⟨za2⟩⟩
   ·rw [if_neg c8] at H
    exact absurd H (by simp)
   ·rw [if_neg c7] at H
    exact absurd H (by simp)
   ·rw [if_neg c6] at H
    have c6b0 : decide (x4_1 < (l0.length : Int)) = false := decide_eq_false c6
    clear c6
    obtain rfl := Option.some.inj H
    go_wp2
    go_ret
    exact ⟨_, za5, za1 HO_3.out, za2⟩
 ·rw [if_neg c3] at H
  exact absurd H (by simp)
 ·rw [if_neg c2] at H
  exact absurd H (by simp)
def laws_eqIntS.l0 : Nat → List Int → List Int → Int → Option (Bool)
 | 0, _, _, _ => none
 | k + 1, x0, x1, x5 => if x5 < (x0.length : Int) then (if 0 ≤ x5 then (if x5 < (x1.length : Int) then (if (rd x0 x5) = (rd x1 x5) then (laws_eqIntS.l0 k x0 x1 (wrap64 (x5 + 1))) else (some false)) else (none)) else (none)) else (some true)
def laws_eqIntS.f (k : Nat) (l0 : List Int) (l1 : List Int) : Option (Bool) := if (l0.length : Int) = (l1.length : Int) then (laws_eqIntS.l0 k l0 l1 0) else (some false)
theorem laws_eqIntS.mono_l : ∀ k, (∀ y0 y1 y2, LeO (laws_eqIntS.l0 k y0 y1 y2) (laws_eqIntS.l0 (k + 1) y0 y1 y2))
 | 0 => fun _ _ _ r h => by simp [laws_eqIntS.l0] at h
 | k + 1 => by
  have ih0 := laws_eqIntS.mono_l k
  ·intro y0 y1 y2
   unfold laws_eqIntS.l0
   repeat' first
   | with_reducible first | exact ih0 _ _ _ | exact LeO.refl _ | exact LeO.none _ | refine LeO.ite ?_ ?_ | refine LeO.bind ?_ (fun _ => ?_)
theorem laws_eqIntS.mono : ∀ a0 a1 k, LeO (laws_eqIntS.f k a0 a1) (laws_eqIntS.f (k + 1) a0 a1) := by
 intro a0 a1 k
 have ih0 := laws_eqIntS.mono_l k
 unfold laws_eqIntS.f
 repeat' first
   | with_reducible first | exact ih0 _ _ _ | exact LeO.refl _ | exact LeO.none _ | refine LeO.ite ?_ ?_ | refine LeO.bind ?_ (fun _ => ?_)
theorem laws_eqIntS.calls (k : Nat) (A0 : Option Addr) (c0 : Nat) (l0 : List Int) (A1 : Option Addr) (c1 : Nat) (l1 : List Int) (r : Bool) (w : World) (hr0 : Kd.C (Kd.int .i64) w A0 l0.length l0) (hc0 : l0.length ≤ c0) (hr1 : Kd.C (Kd.int .i64) w A1 l1.length l1) (hc1 : l1.length ≤ c1) (h : laws_eqIntS.f k l0 l1 = some r) :
  Calls Try.prog 28 #[.slice A0 l0.length c0, .slice A1 l1.length c1] w fun e w' => e = .returned (.bool r) ∧ Drawn0 w w' := by
 have HR0 := Aside0.mk hr0
 have HC0 := Aside0.mk hc0
 clear hr0 hc0
 have HR1 := Aside0.mk hr1
 have HC1 := Aside0.mk hc1
 clear hr1 hc1
 have H : (if (l0.length : Int) = (l1.length : Int) then (laws_eqIntS.l0 k l0 l1 0) else (some false)) = some r := h
 clear h
 by_cases c3 : (l0.length : Int) = (l1.length : Int)
 ·rw [if_pos c3] at H
  have c3b0 : ((l0.length : Int) == (l1.length : Int)) = true := beq_iff_eq.mpr c3
  have c3b1 : ((l0.length : Int) != (l1.length : Int)) = false := bne_eq_false_iff_eq.mpr c3
  have c3b2 : (l0.length == l1.length) = true := by first | simpa using c3 | (simp at c3 ⊢; omega)
  clear c3
  have H' := Aside0.mk H
  clear H
  go_enter Try.func28, Try.ntmps28
  go_wp2
  repeat (go_quiet (fail); try go_wp2)
  first | go_loopg [5] k (fun kq v5 w' => ∃ (x5_1 : Int), v5 = .int .i64 x5_1 ∧ Aside0 (laws_eqIntS.l0 kq l0 l1 x5_1 = some r) ∧ Aside0 (kq ≤ k) ∧ Drawn0 w w') | (simp only [Act.put, List.setIfInBounds_toArray, List.set_cons_succ, List.set_cons_zero]; go_loopg [5] k (fun kq v5 w' => ∃ (x5_1 : Int), v5 = .int .i64 x5_1 ∧ Aside0 (laws_eqIntS.l0 kq l0 l1 x5_1 = some r) ∧ Aside0 (kq ≤ k) ∧ Drawn0 w w'))
  case atStart => exact ⟨(0), za6, H', ⟨Nat.le_refl _⟩, za8⟩
  case round =>
   clear H'
   try clear c3
   try clear c3b0
   try clear c3b1
   try clear c3b2
   obtain ⟨x5_1, rfl, HA, HK1, ⟨m1, rfl⟩⟩ := hrel
   cases gk with
   | zero => exact absurd HA.out (by simp [laws_eqIntS.l0])
   | succ k1 =>
   have H := HA.out
   clear HA
   simp only [laws_eqIntS.l0] at H
   by_cases c4 : x5_1 < (l0.length : Int)
   rw [if_pos c4] at H
   have c4b0 : decide (x5_1 < (l0.length : Int)) = true := decide_eq_true c4
   clear c4
   by_cases c5 : 0 ≤ x5_1
   rw [if_pos c5] at H
   have c5b0 : decide (0 ≤ x5_1) = true := decide_eq_true c5
   clear c5
   by_cases c6 : x5_1 < (l1.length : Int)
   rw [if_pos c6] at H
   have c6b0 : decide (x5_1 < (l1.length : Int)) = true := decide_eq_true c6
   clear c6
   by_cases c7 : (rd l0 x5_1) = (rd l1 x5_1)
   rw [if_pos c7] at H
   have c7b0 : ((rd l0 x5_1) == (rd l1 x5_1)) = true := beq_iff_eq.mpr c7
   have c7b1 : ((rd l0 x5_1) != (rd l1 x5_1)) = false := bne_eq_false_iff_eq.mpr c7
   clear c7
   have H' := Aside0.mk H
   clear H
   have fin0_ := Aside0.mk trivial
   rotate_left
   rw [if_neg c7] at H
   have c7b0 : ((rd l0 x5_1) == (rd l1 x5_1)) = false := beq_eq_false_iff_ne.mpr c7
   have c7b1 : ((rd l0 x5_1) != (rd l1 x5_1)) = true := bne_iff_ne.mpr c7
   obtain rfl := Option.some.inj H
   have fin1_ := Aside0.mk trivial
   rotate_left
   ·rw [if_neg c6] at H
    exact absurd H (by simp)
   ·rw [if_neg c5] at H
    exact absurd H (by simp)
   ·rw [if_neg c4] at H
    have c4b0 : decide (x5_1 < (l0.length : Int)) = false := decide_eq_false c4
    clear c4
    obtain rfl := Option.some.inj H
    go_wp2
    repeat (go_quiet (fail); try go_wp2)
    go_ret
    exact ⟨za6, za8⟩
   all_goals
    have p28001 : 0 ≤ (x5_1 : Int) := of_decide_eq_true za7
    have q28001 : x5_1 < (l0.length : Int) := of_decide_eq_true za7
    obtain ⟨ad28001, e28001, hx28001_0⟩ := Kd.at_int HR0.out x5_1 p28001 q28001
    cases e28001
    replace p28001 := eq_true p28001
    replace q28001 := eq_true q28001
    have p28002 : 0 ≤ (x5_1 : Int) := of_decide_eq_true za7
    have q28002 : x5_1 < (l1.length : Int) := of_decide_eq_true za7
    obtain ⟨ad28002, e28002, hx28002_0⟩ := Kd.at_int HR1.out x5_1 p28002 q28002
    cases e28002
    replace p28002 := eq_true p28002
    replace q28002 := eq_true q28002
    go_wp2
    repeat (go_quiet (fail); try go_wp2)
    first
    | (
     clear fin0_
     go_roundg k1
     case measure => have := HK1.out; omega
     case rel => exact ⟨(wrap64 (x5_1 + 1)), za6, H', ⟨za11⟩, za8⟩)
    | (
     clear fin1_
     go_ret
     exact ⟨za6, za8⟩)
 ·rw [if_neg c3] at H
  have c3b0 : ((l0.length : Int) == (l1.length : Int)) = false := beq_eq_false_iff_ne.mpr c3
  have c3b1 : ((l0.length : Int) != (l1.length : Int)) = true := bne_iff_ne.mpr c3
  have c3b2 : (l0.length == l1.length) = false := by first | simpa using c3 | (simp at c3 ⊢; omega)
  obtain rfl := Option.some.inj H
  go_enter Try.func28, Try.ntmps28
  go_wp2
  repeat (go_quiet (fail); try go_wp2)
  go_ret
  exact ⟨za6, za8⟩
end Go.Proofs.Ytffjfdoghofkdaa.A
namespace Go.Proofs.Ytffjfdoghofkdaa.A
open Go.RowKit Go.Proofs.Ytffjfdoghofkdaa.Ext Go.Proofs.YtffjfdoghofkdaaW.PrintWords Go.Proofs.YtffjfdoghofkdaaW.PrintLast Go.Proofs.YtffjfdoghofkdaaW.PrintMore
attribute [local go_sem] max2_int min2_int max_two min_two max_three min_three max_four min_four
def laws_szConstraint.f (k : Nat) (a0_0 : Int) (a0_1 : ByteArray) (a0_2 : ByteArray) (a0_3 : Int) (a0_4 : ByteArray) (l0_5 : List (S24)) (l0_6 : List Int) (a0_7 : Int) (a1 : Int) : Option (Int) := if (wrap64 (a1 - (a0_1.size : Int))) < 0 then (some (-1)) else (if (wrap64 ((wrap64 (a1 - (a0_1.size : Int))) - (a0_2.size : Int))) < 0 then (some (-1)) else ((laws_szRegex.f k a0_3 a0_4 l0_5 (wrap64 ((wrap64 (a1 - (a0_1.size : Int))) - (a0_2.size : Int)))).bind fun t5002 => (if t5002 < 0 then (some (-1)) else ((laws_szIntS.f l0_6 t5002).bind fun t5003 => (if t5003 < 0 then (some (-1)) else (some t5003))))))
theorem laws_szConstraint.mono : ∀ a0 a1 a2 a3 a4 a5 a6 a7 a8 k, LeO (laws_szConstraint.f k a0 a1 a2 a3 a4 a5 a6 a7 a8) (laws_szConstraint.f (k + 1) a0 a1 a2 a3 a4 a5 a6 a7 a8) := by
 intro a0 a1 a2 a3 a4 a5 a6 a7 a8 k
 unfold laws_szConstraint.f
 repeat' first
   | with_reducible first | exact laws_szRegex.mono _ _ _ _ _ | exact LeO.refl _ | exact LeO.none _ | refine LeO.ite ?_ ?_ | refine LeO.bind ?_ (fun _ => ?_)
theorem laws_szConstraint.calls (k : Nat) (a0_0 : Int) (a0_1 : ByteArray) (a0_2 : ByteArray) (a0_3 : Int) (a0_4 : ByteArray) (A0_5 : Option Addr) (c0_5 : Nat) (l0_5 : List (S24)) (A0_6 : Option Addr) (c0_6 : Nat) (l0_6 : List Int) (a0_7 : Int) (a1 : Int) (r : Int) (w : World) (hr0_5 : Kd.C k24 w A0_5 l0_5.length l0_5) (hc0_5 : l0_5.length ≤ c0_5) (hr0_6 : Kd.C (Kd.int .i64) w A0_6 l0_6.length l0_6) (hc0_6 : l0_6.length ≤ c0_6) (h : laws_szConstraint.f k a0_0 a0_1 a0_2 a0_3 a0_4 l0_5 l0_6 a0_7 a1 = some r) :
  Calls Try.prog 5 #[.agg #[.int .i64 a0_0, .string a0_1, .string a0_2, .int .i64 a0_3, .string a0_4, .slice A0_5 l0_5.length c0_5, .slice A0_6 l0_6.length c0_6, .int .i64 a0_7], .int .i64 a1] w fun e w' => e = .returned (.int .i64 r) ∧ Below w.heap.size w w' := by
 have hu27 := Try.underlying27
 have hu24 := Try.underlying24
 have HR0_5 := Aside0.mk hr0_5
 have HC0_5 := Aside0.mk hc0_5
 clear hr0_5 hc0_5
 have HR0_6 := Aside0.mk hr0_6
 have HC0_6 := Aside0.mk hc0_6
 clear hr0_6 hc0_6
 have HB := Aside0.mk (Below.refl w.heap.size w)
 have H : (if (wrap64 (a1 - (a0_1.size : Int))) < 0 then (some (-1)) else (if (wrap64 ((wrap64 (a1 - (a0_1.size : Int))) - (a0_2.size : Int))) < 0 then (some (-1)) else ((laws_szRegex.f k a0_3 a0_4 l0_5 (wrap64 ((wrap64 (a1 - (a0_1.size : Int))) - (a0_2.size : Int)))).bind fun t5002 => (if t5002 < 0 then (some (-1)) else ((laws_szIntS.f l0_6 t5002).bind fun t5003 => (if t5003 < 0 then (some (-1)) else (some t5003))))))) = some r := h
 clear h
 by_cases c3 : (wrap64 (a1 - (a0_1.size : Int))) < 0
 rw [if_pos c3] at H
 have c3b0 : decide ((wrap64 (a1 - (a0_1.size : Int))) < 0) = true := decide_eq_true c3
 have c3w : decide ((IntKind.i64.wrap (a1 - (a0_1.size : Int))) < 0) = true := by simp only [i64_w]; exact c3b0
 clear c3
 rotate_left
 rw [if_neg c3] at H
 have c3b0 : decide ((wrap64 (a1 - (a0_1.size : Int))) < 0) = false := decide_eq_false c3
 have c3w : decide ((IntKind.i64.wrap (a1 - (a0_1.size : Int))) < 0) = false := by simp only [i64_w]; exact c3b0
 clear c3
 by_cases c6 : (wrap64 ((wrap64 (a1 - (a0_1.size : Int))) - (a0_2.size : Int))) < 0
 rw [if_pos c6] at H
 have c6b0 : decide ((wrap64 ((wrap64 (a1 - (a0_1.size : Int))) - (a0_2.size : Int))) < 0) = true := decide_eq_true c6
 have c6w : decide ((IntKind.i64.wrap ((IntKind.i64.wrap (a1 - (a0_1.size : Int))) - (a0_2.size : Int))) < 0) = true := by simp only [i64_w]; exact c6b0
 clear c6
 rotate_left
 rw [if_neg c6] at H
 have c6b0 : decide ((wrap64 ((wrap64 (a1 - (a0_1.size : Int))) - (a0_2.size : Int))) < 0) = false := decide_eq_false c6
 have c6w : decide ((IntKind.i64.wrap ((IntKind.i64.wrap (a1 - (a0_1.size : Int))) - (a0_2.size : Int))) < 0) = false := by simp only [i64_w]; exact c6b0
 clear c6
 replace H := Option.bind_eq_some_iff.mp H
 obtain ⟨t5002, A90, H⟩ := H
 replace H : (if t5002 < 0 then (some (-1)) else ((laws_szIntS.f l0_6 t5002).bind fun t5003 => (if t5003 < 0 then (some (-1)) else (some t5003)))) = some r := H
 have A9 := Aside0.mk A90
 clear A90
 by_cases c10 : t5002 < 0
 rw [if_pos c10] at H
 have c10b0 : decide (t5002 < 0) = true := decide_eq_true c10
 clear c10
 rotate_left
 rw [if_neg c10] at H
 have c10b0 : decide (t5002 < 0) = false := decide_eq_false c10
 clear c10
 replace H := Option.bind_eq_some_iff.mp H
 obtain ⟨t5003, A140, H⟩ := H
 replace H : (if t5003 < 0 then (some (-1)) else (some t5003)) = some r := H
 have A14 := Aside0.mk A140
 clear A140
 by_cases c15 : t5003 < 0
 rw [if_pos c15] at H
 have c15b0 : decide (t5003 < 0) = true := decide_eq_true c15
 clear c15
 rotate_left
 rw [if_neg c15] at H
 have c15b0 : decide (t5003 < 0) = false := decide_eq_false c15
 clear c15
 rotate_left
 all_goals
  obtain rfl := Option.some.inj H
  go_enter Try.func5, Try.ntmps5
  go_wp2_with (first | ((with_reducible refine gate_dst (N := 2) rfl ?_); refine box_event ?hg (N := 2) ?hd (cs := #[.int .i64 a0_0, .string a0_1, .string a0_2, .int .i64 a0_3, .string a0_4, .slice A0_5 l0_5.length c0_5, .slice A0_6 l0_6.length c0_6, .int .i64 a0_7]) (t := 27) ?hr ?_; (case hd => rfl); (case hg => rfl); (case hr => first | (go_simp; done) | (go_simp; rfl)); intro gb5001 hg w16 hbox hb; have n0_ := Aside0.mk (below_step za2 hb); have n1_ := Aside0.mk (hbox); have n2_ := Aside0.mk ((by rw [hg]; exact (below_size za2) : w.heap.size ≤ gb5001)); have n3_ := Aside0.mk ((by rw [hg]; exact (below_size za2) : w.heap.size ≤ gb5001)); clear HB; have HB := n0_; have BK5001 := n1_; have GW5001 := n2_; have GE5001 := n3_; clear n0_ n1_ n2_ n3_; clear hb hbox hg; obtain ⟨hcz17_0, hcz17_1, hcz17_2, hcz17_3, hcz17_4, hcz17_5, hcz17_6, hcz17_7, hfz17_0, hfz17_1, hfz17_2, hfz17_3, hfz17_4, hfz17_5, hfz17_6, hfz17_7⟩ := blk8 BK5001.out) | ((with_reducible refine gate_callee (f := 17) rfl ?_); refine goesL_ (some 22) rfl rfl Try.func17 (by kernel_rfl) rfl #[.agg #[.int .i64 a0_3, .string a0_4, .slice A0_5 l0_5.length c0_5], .int .i64 (wrap64 ((wrap64 (a1 - (a0_1.size : Int))) - (a0_2.size : Int)))] rfl za3 ?_; (with_reducible refine (laws_szRegex.calls k a0_3 a0_4 _ _ l0_5 (wrap64 ((wrap64 (a1 - (a0_1.size : Int))) - (a0_2.size : Int))) t5002 _ ?side1 ?side2 A9.out).mono ?_); (case side1 => repeat (first | exact (Kd.C_below HR0_5.out HB.out) | (with_reducible refine Kd.C_alloc ?_ _) | (with_reducible refine Kd.C_drewN ?_ _) | (with_reducible refine Kd.C_drew ?_))); (case side2 => exact HC0_5.out); rintro e w18 ⟨rfl, hb⟩; refine ⟨_, rfl, ?_⟩; have n0_ := Aside0.mk (blk_below (g := gb5001) (o := .cells #[.int .i64 a0_0, .string a0_1, .string a0_2, .int .i64 a0_3, .string a0_4, .slice A0_5 l0_5.length c0_5, .slice A0_6 l0_6.length c0_6, .int .i64 a0_7] 27 (0, 0)) (za0 BK5001.out) hb); have n1_ := Aside0.mk (below_step za2 hb); clear BK5001; clear HB; have BK5001 := n0_; have HB := n1_; clear n0_ n1_; (try clear hb); (try clear hb2); (try clear hk); (try clear hi); obtain ⟨hcz19_0, hcz19_1, hcz19_2, hcz19_3, hcz19_4, hcz19_5, hcz19_6, hcz19_7, hfz19_0, hfz19_1, hfz19_2, hfz19_3, hfz19_4, hfz19_5, hfz19_6, hfz19_7⟩ := blk8 BK5001.out) | ((with_reducible refine gate_callee (f := 18) rfl ?_); refine goesL_ (some 28) rfl rfl Try.func18 (by kernel_rfl) rfl #[.slice A0_6 l0_6.length c0_6, .int .i64 t5002] rfl za3 ?_; (with_reducible refine (laws_szIntS.calls _ _ l0_6 t5002 t5003 _ ?side1 ?side2 A14.out).mono ?_); (case side1 => repeat (first | exact (Kd.C_below HR0_6.out HB.out) | (with_reducible refine Kd.C_alloc ?_ _) | (with_reducible refine Kd.C_drewN ?_ _) | (with_reducible refine Kd.C_drew ?_))); (case side2 => exact HC0_6.out); rintro e w' ⟨rfl, ⟨nd, rfl⟩⟩; refine ⟨_, rfl, ?_⟩))
  go_ret
  exact ⟨za5, za2⟩
def laws_toConstraint.f (k : Nat) (a0_0 : Int) (a0_1 : ByteArray) (a0_2 : ByteArray) (a0_3 : Int) (a0_4 : ByteArray) (l0_5 : List (S24)) (l0_6 : List Int) (a0_7 : Int) : Option (Int × ByteArray × ByteArray × Int × ByteArray × (List (S35)) × List Int × Int) := (laws_toRegex.f k a0_3 a0_4 l0_5).bind fun bt8004 => ((laws_toIntS.f k l0_6).bind fun t8009 => (some (a0_0, a0_1, a0_2, bt8004.1, bt8004.2.1, bt8004.2.2, t8009, a0_7)))
theorem laws_toConstraint.mono : ∀ a0 a1 a2 a3 a4 a5 a6 a7 k, LeO (laws_toConstraint.f k a0 a1 a2 a3 a4 a5 a6 a7) (laws_toConstraint.f (k + 1) a0 a1 a2 a3 a4 a5 a6 a7) := by
 intro a0 a1 a2 a3 a4 a5 a6 a7 k
 unfold laws_toConstraint.f
 repeat' first
   | with_reducible first | exact laws_toIntS.mono _ _ | exact laws_toRegex.mono _ _ _ _ | exact LeO.refl _ | exact LeO.none _ | refine LeO.ite ?_ ?_ | refine LeO.bind ?_ (fun _ => ?_)
theorem laws_toConstraint.calls (k : Nat) (a0_0 : Int) (a0_1 : ByteArray) (a0_2 : ByteArray) (a0_3 : Int) (a0_4 : ByteArray) (A0_5 : Option Addr) (c0_5 : Nat) (l0_5 : List (S24)) (A0_6 : Option Addr) (c0_6 : Nat) (l0_6 : List Int) (a0_7 : Int) (r1 : Int) (r2 : ByteArray) (r3 : ByteArray) (r4 : Int) (r5 : ByteArray) (r6 : List (S35)) (r7 : List Int) (r8 : Int) (w : World) (hr0_5 : Kd.C k24 w A0_5 l0_5.length l0_5) (hc0_5 : l0_5.length ≤ c0_5) (hr0_6 : Kd.C (Kd.int .i64) w A0_6 l0_6.length l0_6) (hc0_6 : l0_6.length ≤ c0_6) (h : laws_toConstraint.f k a0_0 a0_1 a0_2 a0_3 a0_4 l0_5 l0_6 a0_7 = some (r1, r2, r3, r4, r5, r6, r7, r8)) :
  Calls Try.prog 8 #[.agg #[.int .i64 a0_0, .string a0_1, .string a0_2, .int .i64 a0_3, .string a0_4, .slice A0_5 l0_5.length c0_5, .slice A0_6 l0_6.length c0_6, .int .i64 a0_7]] w fun e w' => ∃ v5_ v6_ : Value, e = .returned (.agg #[.int .i64 r1, .string r2, .string r3, .int .i64 r4, .string r5, v5_, v6_, .int .i64 r8]) ∧ Kd.R k35 35 w' w.heap.size (fun _ => True) v5_ r6 ∧ Kd.R (Kd.int .i64) 3 w' w.heap.size (fun _ => True) v6_ r7 ∧ Below w.heap.size w w' := by
 have hu27 := Try.underlying27
 have hu37 := Try.underlying37
 have hu24 := Try.underlying24
 have hu35 := Try.underlying35
 have HR0_5 := Aside0.mk hr0_5
 have HC0_5 := Aside0.mk hc0_5
 clear hr0_5 hc0_5
 have HR0_6 := Aside0.mk hr0_6
 have HC0_6 := Aside0.mk hc0_6
 clear hr0_6 hc0_6
 have HB := Aside0.mk (Below.refl w.heap.size w)
 have H : ((laws_toRegex.f k a0_3 a0_4 l0_5).bind fun bt8004 => ((laws_toIntS.f k l0_6).bind fun t8009 => (some (a0_0, a0_1, a0_2, bt8004.1, bt8004.2.1, bt8004.2.2, t8009, a0_7)))) = some (r1, r2, r3, r4, r5, r6, r7, r8) := h
 clear h
 replace H := Option.bind_eq_some_iff.mp H
 obtain ⟨⟨t8004, t8005, t8006⟩, A20, H⟩ := H
 replace H : ((laws_toIntS.f k l0_6).bind fun t8009 => (some (a0_0, a0_1, a0_2, t8004, t8005, t8006, t8009, a0_7))) = some (r1, r2, r3, r4, r5, r6, r7, r8) := H
 have A2 := Aside0.mk A20
 clear A20
 replace H := Option.bind_eq_some_iff.mp H
 obtain ⟨t8009, A30, H⟩ := H
 replace H : (some (a0_0, a0_1, a0_2, t8004, t8005, t8006, t8009, a0_7)) = some (r1, r2, r3, r4, r5, r6, r7, r8) := H
 have A3 := Aside0.mk A30
 clear A30
 simp only [Option.some.injEq, Prod.mk.injEq] at H
 obtain ⟨rfl, rfl, rfl, rfl, rfl, rfl, rfl, rfl⟩ := H
 go_enter Try.func8, Try.ntmps8
 go_wp2_with (first | ((with_reducible refine gate_dst (N := 1) rfl ?_); refine box_event ?hg (N := 1) ?hd (cs := #[.int .i64 a0_0, .string a0_1, .string a0_2, .int .i64 a0_3, .string a0_4, .slice A0_5 l0_5.length c0_5, .slice A0_6 l0_6.length c0_6, .int .i64 a0_7]) (t := 27) ?hr ?_; (case hd => rfl); (case hg => rfl); (case hr => first | (go_simp; done) | (go_simp; rfl)); intro gb8001 hg w4 hbox hb; have n0_ := Aside0.mk (below_step za2 hb); have n1_ := Aside0.mk (hbox); have n2_ := Aside0.mk ((by rw [hg]; exact (below_size za2) : w.heap.size ≤ gb8001)); have n3_ := Aside0.mk ((by rw [hg]; exact (below_size za2) : w.heap.size ≤ gb8001)); clear HB; have HB := n0_; have BK8001 := n1_; have GW8001 := n2_; have GE8001 := n3_; clear n0_ n1_ n2_ n3_; clear hb hbox hg) | ((with_reducible refine gate_dst (N := 2) rfl ?_); refine box_event ?hg (N := 2) ?hd (cs := #[.int .i64 0, .string (⟨#[]⟩ : ByteArray), .string (⟨#[]⟩ : ByteArray), .int .i64 0, .string (⟨#[]⟩ : ByteArray), .slice none 0 0, .slice none 0 0, .int .i64 0]) (t := 37) ?hr ?_; (case hd => rfl); (case hg => rfl); (case hr => first | (go_simp; done) | (go_simp; rfl)); intro gb8002 hg w5 hbox hb; have n0_ := Aside0.mk (blk_below (g := gb8001) (o := .cells #[.int .i64 a0_0, .string a0_1, .string a0_2, .int .i64 a0_3, .string a0_4, .slice A0_5 l0_5.length c0_5, .slice A0_6 l0_6.length c0_6, .int .i64 a0_7] 27 (0, 0)) (za0 BK8001.out) hb); have n1_ := Aside0.mk (below_step za2 hb); have n2_ := Aside0.mk (hbox); have n3_ := Aside0.mk ((by rw [hg]; exact (below_size za2) : w.heap.size ≤ gb8002)); have n4_ := Aside0.mk ((by rw [hg]; exact (below_size za2) : w.heap.size ≤ gb8002)); have n5_ := Aside0.mk ((by rw [hg]; exact Nat.ne_of_lt (blk_lt (g := gb8001) (o := .cells #[.int .i64 a0_0, .string a0_1, .string a0_2, .int .i64 a0_3, .string a0_4, .slice A0_5 l0_5.length c0_5, .slice A0_6 l0_6.length c0_6, .int .i64 a0_7] 27 (0, 0)) (za0 BK8001.out)) : gb8001 ≠ gb8002)); have n6_ := Aside0.mk ((by rw [hg]; exact Nat.ne_of_gt (blk_lt (g := gb8001) (o := .cells #[.int .i64 a0_0, .string a0_1, .string a0_2, .int .i64 a0_3, .string a0_4, .slice A0_5 l0_5.length c0_5, .slice A0_6 l0_6.length c0_6, .int .i64 a0_7] 27 (0, 0)) (za0 BK8001.out)) : gb8002 ≠ gb8001)); clear BK8001; clear HB; have BK8001 := n0_; have HB := n1_; have BK8002 := n2_; have GW8002 := n3_; have GE8002 := n4_; have NB8001_8002 := n5_; have NB8002_8001 := n6_; clear n0_ n1_ n2_ n3_ n4_ n5_ n6_; clear hb hbox hg) | ((with_reducible refine gate_dst (N := 3) rfl ?_); refine box_event ?hg (N := 3) ?hd (cs := #[.int .i64 0, .string (⟨#[]⟩ : ByteArray), .string (⟨#[]⟩ : ByteArray), .int .i64 0, .string (⟨#[]⟩ : ByteArray), .slice none 0 0, .slice none 0 0, .int .i64 0]) (t := 37) ?hr ?_; (case hd => rfl); (case hg => rfl); (case hr => first | (go_simp; done) | (go_simp; rfl)); intro gb8003 hg w6 hbox hb; have n0_ := Aside0.mk (blk_below (g := gb8001) (o := .cells #[.int .i64 a0_0, .string a0_1, .string a0_2, .int .i64 a0_3, .string a0_4, .slice A0_5 l0_5.length c0_5, .slice A0_6 l0_6.length c0_6, .int .i64 a0_7] 27 (0, 0)) (za0 BK8001.out) hb); have n1_ := Aside0.mk (blk_below (g := gb8002) (o := .cells #[.int .i64 0, .string (⟨#[]⟩ : ByteArray), .string (⟨#[]⟩ : ByteArray), .int .i64 0, .string (⟨#[]⟩ : ByteArray), .slice none 0 0, .slice none 0 0, .int .i64 0] 37 (0, 0)) (za0 BK8002.out) hb); have n2_ := Aside0.mk (below_step za2 hb); have n3_ := Aside0.mk (hbox); have n4_ := Aside0.mk ((by rw [hg]; exact (below_size za2) : w.heap.size ≤ gb8003)); have n5_ := Aside0.mk ((by rw [hg]; exact (below_size za2) : w.heap.size ≤ gb8003)); have n6_ := Aside0.mk ((by rw [hg]; exact Nat.ne_of_lt (blk_lt (g := gb8001) (o := .cells #[.int .i64 a0_0, .string a0_1, .string a0_2, .int .i64 a0_3, .string a0_4, .slice A0_5 l0_5.length c0_5, .slice A0_6 l0_6.length c0_6, .int .i64 a0_7] 27 (0, 0)) (za0 BK8001.out)) : gb8001 ≠ gb8003)); have n7_ := Aside0.mk ((by rw [hg]; exact Nat.ne_of_gt (blk_lt (g := gb8001) (o := .cells #[.int .i64 a0_0, .string a0_1, .string a0_2, .int .i64 a0_3, .string a0_4, .slice A0_5 l0_5.length c0_5, .slice A0_6 l0_6.length c0_6, .int .i64 a0_7] 27 (0, 0)) (za0 BK8001.out)) : gb8003 ≠ gb8001)); have n8_ := Aside0.mk ((by rw [hg]; exact Nat.ne_of_lt (blk_lt (g := gb8002) (o := .cells #[.int .i64 0, .string (⟨#[]⟩ : ByteArray), .string (⟨#[]⟩ : ByteArray), .int .i64 0, .string (⟨#[]⟩ : ByteArray), .slice none 0 0, .slice none 0 0, .int .i64 0] 37 (0, 0)) (za0 BK8002.out)) : gb8002 ≠ gb8003)); have n9_ := Aside0.mk ((by rw [hg]; exact Nat.ne_of_gt (blk_lt (g := gb8002) (o := .cells #[.int .i64 0, .string (⟨#[]⟩ : ByteArray), .string (⟨#[]⟩ : ByteArray), .int .i64 0, .string (⟨#[]⟩ : ByteArray), .slice none 0 0, .slice none 0 0, .int .i64 0] 37 (0, 0)) (za0 BK8002.out)) : gb8003 ≠ gb8002)); clear BK8001; clear BK8002; clear HB; have BK8001 := n0_; have BK8002 := n1_; have HB := n2_; have BK8003 := n3_; have GW8003 := n4_; have GE8003 := n5_; have NB8001_8003 := n6_; have NB8003_8001 := n7_; have NB8002_8003 := n8_; have NB8003_8002 := n9_; clear n0_ n1_ n2_ n3_ n4_ n5_ n6_ n7_ n8_ n9_; clear hb hbox hg; have hnb7 := NB8001_8002.out; have hnc7 := NB8002_8001.out; have hnb8 := NB8001_8003.out; have hnc8 := NB8003_8001.out; obtain ⟨hcz9_0, hcz9_1, hcz9_2, hcz9_3, hcz9_4, hcz9_5, hcz9_6, hcz9_7, hfz9_0, hfz9_1, hfz9_2, hfz9_3, hfz9_4, hfz9_5, hfz9_6, hfz9_7⟩ := blk8 BK8001.out; have hnb10 := NB8003_8002.out; have hnc10 := NB8002_8003.out; obtain ⟨hcz11_0, hcz11_1, hcz11_2, hcz11_3, hcz11_4, hcz11_5, hcz11_6, hcz11_7, hfz11_0, hfz11_1, hfz11_2, hfz11_3, hfz11_4, hfz11_5, hfz11_6, hfz11_7⟩ := blk8 BK8003.out) | ((with_reducible refine gate_callee (f := 22) rfl ?_); refine goesL_ (some 15) rfl rfl Try.func22 (by kernel_rfl) rfl #[.agg #[.int .i64 a0_3, .string a0_4, .slice A0_5 l0_5.length c0_5]] rfl za3 ?_; (with_reducible refine (laws_toRegex.calls k a0_3 a0_4 _ _ l0_5 t8004 t8005 t8006 _ ?side1 ?side2 A2.out).mono ?_); (case side1 => exact Kd.C_below HR0_5.out za2); (case side2 => exact HC0_5.out); rintro e w12 ⟨v8007, rfl, ho0, hb⟩; refine ⟨_, rfl, ?_⟩; have n0_ := Aside0.mk (Kd.R_lower ho0 (below_size za2)); have n1_ := Aside0.mk (blk_below (g := gb8001) (o := .cells #[.int .i64 a0_0, .string a0_1, .string a0_2, .int .i64 a0_3, .string a0_4, .slice A0_5 l0_5.length c0_5, .slice A0_6 l0_6.length c0_6, .int .i64 a0_7] 27 (0, 0)) za15 hb); have n2_ := Aside0.mk (blk_below (g := gb8002) (o := .cells #[.int .i64 0, .string (⟨#[]⟩ : ByteArray), .string (⟨#[]⟩ : ByteArray), .int .i64 0, .string (⟨#[]⟩ : ByteArray), .slice none 0 0, .slice none 0 0, .int .i64 0] 37 (0, 0)) za14 hb); have n3_ := Aside0.mk (blk_below (g := gb8003) (o := .cells #[.int .i64 a0_0, .string a0_1, .string a0_2, .int .i64 0, .string (⟨#[]⟩ : ByteArray), .slice none 0 0, .slice none 0 0, .int .i64 0] 37 (0, 0)) (by (with_reducible repeat (first | refine blk_drewN ?_ _ | refine blk_drew ?_ | refine blk_alloc ?_ _)); refine blk_put (cs := #[.int .i64 a0_0, .string a0_1, .string (⟨#[]⟩ : ByteArray), .int .i64 0, .string (⟨#[]⟩ : ByteArray), .slice none 0 0, .slice none 0 0, .int .i64 0]) ?_ 2 _ rfl; (with_reducible repeat (first | refine blk_drewN ?_ _ | refine blk_drew ?_ | refine blk_alloc ?_ _)); refine blk_put (cs := #[.int .i64 a0_0, .string (⟨#[]⟩ : ByteArray), .string (⟨#[]⟩ : ByteArray), .int .i64 0, .string (⟨#[]⟩ : ByteArray), .slice none 0 0, .slice none 0 0, .int .i64 0]) ?_ 1 _ rfl; (with_reducible repeat (first | refine blk_drewN ?_ _ | refine blk_drew ?_ | refine blk_alloc ?_ _)); refine blk_put (cs := #[.int .i64 0, .string (⟨#[]⟩ : ByteArray), .string (⟨#[]⟩ : ByteArray), .int .i64 0, .string (⟨#[]⟩ : ByteArray), .slice none 0 0, .slice none 0 0, .int .i64 0]) ?_ 0 _ rfl; (with_reducible repeat (first | refine blk_drewN ?_ _ | refine blk_drew ?_ | refine blk_alloc ?_ _)); exact BK8003.out) hb); have n4_ := Aside0.mk (below_step za2 hb); clear BK8001; clear BK8002; clear BK8003; clear HB; have HO8008 := n0_; have BK8001 := n1_; have BK8002 := n2_; have BK8003 := n3_; have HB := n4_; clear n0_ n1_ n2_ n3_ n4_; (try clear hb); (try clear hb2); (try clear hk); (try clear hi); (try clear ho0); obtain ⟨hcz13_0, hcz13_1, hcz13_2, hcz13_3, hcz13_4, hcz13_5, hcz13_6, hcz13_7, hfz13_0, hfz13_1, hfz13_2, hfz13_3, hfz13_4, hfz13_5, hfz13_6, hfz13_7⟩ := blk8 BK8003.out; obtain ⟨Ao14, co14, eo14⟩ := Kd.R_slice HO8008.out; subst eo14; obtain ⟨hcz15_0, hcz15_1, hcz15_2, hcz15_3, hcz15_4, hcz15_5, hcz15_6, hcz15_7, hfz15_0, hfz15_1, hfz15_2, hfz15_3, hfz15_4, hfz15_5, hfz15_6, hfz15_7⟩ := blk8 BK8001.out) | ((with_reducible refine gate_callee (f := 23) rfl ?_); refine goesL_ (some 19) rfl rfl Try.func23 (by kernel_rfl) rfl #[.slice A0_6 l0_6.length c0_6] rfl za3 ?_; (with_reducible refine (laws_toIntS.calls k _ _ l0_6 t8009 _ ?side1 ?side2 A3.out).mono ?_); (case side1 => exact Kd.C_below HR0_6.out za2); (case side2 => exact HC0_6.out); rintro e w16 ⟨v8010, rfl, ho0, hb⟩; refine ⟨_, rfl, ?_⟩; have n0_ := Aside0.mk (Kd.R_below (by (with_reducible repeat (first | apply Kd.R_alloc | apply Kd.R_drewN | apply Kd.R_drew)); exact (Kd.R_mono (Kd.R_far (p := ⟨gb8003, 5, none⟩) (Kd.R_far (p := ⟨gb8003, 4, none⟩) (Kd.R_far (p := ⟨gb8003, 3, none⟩) (Kd.R_types HO8008.out BK8003.out (by decide)) (fun _ hk => hk.2) (.int .i64 t8004)) (fun _ hk => hk.2) (.string t8005)) (fun _ hk => hk.2) (.slice Ao14 t8006.length co14)) (fun _ h_ => h_.1))) hb); have n1_ := Aside0.mk (Kd.R_lower ho0 (below_size za2)); have n2_ := Aside0.mk (blk_below (g := gb8001) (o := .cells #[.int .i64 a0_0, .string a0_1, .string a0_2, .int .i64 a0_3, .string a0_4, .slice A0_5 l0_5.length c0_5, .slice A0_6 l0_6.length c0_6, .int .i64 a0_7] 27 (0, 0)) za15 hb); have n3_ := Aside0.mk (blk_below (g := gb8002) (o := .cells #[.int .i64 0, .string (⟨#[]⟩ : ByteArray), .string (⟨#[]⟩ : ByteArray), .int .i64 0, .string (⟨#[]⟩ : ByteArray), .slice none 0 0, .slice none 0 0, .int .i64 0] 37 (0, 0)) za14 hb); have n4_ := Aside0.mk (blk_below (g := gb8003) (o := .cells #[.int .i64 a0_0, .string a0_1, .string a0_2, .int .i64 t8004, .string t8005, .slice Ao14 t8006.length co14, .slice none 0 0, .int .i64 0] 37 (0, 0)) (by (with_reducible repeat (first | refine blk_drewN ?_ _ | refine blk_drew ?_ | refine blk_alloc ?_ _)); refine blk_put (cs := #[.int .i64 a0_0, .string a0_1, .string a0_2, .int .i64 t8004, .string t8005, .slice none 0 0, .slice none 0 0, .int .i64 0]) ?_ 5 _ rfl; (with_reducible repeat (first | refine blk_drewN ?_ _ | refine blk_drew ?_ | refine blk_alloc ?_ _)); refine blk_put (cs := #[.int .i64 a0_0, .string a0_1, .string a0_2, .int .i64 t8004, .string (⟨#[]⟩ : ByteArray), .slice none 0 0, .slice none 0 0, .int .i64 0]) ?_ 4 _ rfl; (with_reducible repeat (first | refine blk_drewN ?_ _ | refine blk_drew ?_ | refine blk_alloc ?_ _)); refine blk_put (cs := #[.int .i64 a0_0, .string a0_1, .string a0_2, .int .i64 0, .string (⟨#[]⟩ : ByteArray), .slice none 0 0, .slice none 0 0, .int .i64 0]) ?_ 3 _ rfl; (with_reducible repeat (first | refine blk_drewN ?_ _ | refine blk_drew ?_ | refine blk_alloc ?_ _)); exact BK8003.out) hb); have n5_ := Aside0.mk (below_step za2 hb); clear HO8008; clear BK8001; clear BK8002; clear BK8003; clear HB; have HO8008 := n0_; have HO8011 := n1_; have BK8001 := n2_; have BK8002 := n3_; have BK8003 := n4_; have HB := n5_; clear n0_ n1_ n2_ n3_ n4_ n5_; (try clear hb); (try clear hb2); (try clear hk); (try clear hi); (try clear ho0); obtain ⟨Ao17, co17, eo17⟩ := Kd.R_slice HO8011.out; subst eo17; obtain ⟨hcz18_0, hcz18_1, hcz18_2, hcz18_3, hcz18_4, hcz18_5, hcz18_6, hcz18_7, hfz18_0, hfz18_1, hfz18_2, hfz18_3, hfz18_4, hfz18_5, hfz18_6, hfz18_7⟩ := blk8 BK8003.out; obtain ⟨hcz19_0, hcz19_1, hcz19_2, hcz19_3, hcz19_4, hcz19_5, hcz19_6, hcz19_7, hfz19_0, hfz19_1, hfz19_2, hfz19_3, hfz19_4, hfz19_5, hfz19_6, hfz19_7⟩ := blk8 BK8001.out; obtain ⟨hcz20_0, hcz20_1, hcz20_2, hcz20_3, hcz20_4, hcz20_5, hcz20_6, hcz20_7, hfz20_0, hfz20_1, hfz20_2, hfz20_3, hfz20_4, hfz20_5, hfz20_6, hfz20_7⟩ := blk8 BK8002.out))
 refine bodyPost_ret (results_cell_row rfl _ _ gb8002 37 #[.int .i64 a0_0, .string a0_1, .string a0_2, .int .i64 t8004, .string t8005, .slice Ao14 t8006.length co14, .slice Ao17 t8009.length co17, .int .i64 a0_7] (0, 0) _ rfl (by (with_reducible repeat (first | refine blk_drewN ?_ _ | refine blk_drew ?_ | refine blk_alloc ?_ _)); refine blk_put (cs := #[.int .i64 a0_0, .string a0_1, .string a0_2, .int .i64 t8004, .string t8005, .slice Ao14 t8006.length co14, .slice Ao17 t8009.length co17, .int .i64 0]) ?_ 7 _ rfl; (with_reducible repeat (first | refine blk_drewN ?_ _ | refine blk_drew ?_ | refine blk_alloc ?_ _)); refine blk_put (cs := #[.int .i64 a0_0, .string a0_1, .string a0_2, .int .i64 t8004, .string t8005, .slice Ao14 t8006.length co14, .slice none 0 0, .int .i64 0]) ?_ 6 _ rfl; (with_reducible repeat (first | refine blk_drewN ?_ _ | refine blk_drew ?_ | refine blk_alloc ?_ _)); refine blk_put (cs := #[.int .i64 a0_0, .string a0_1, .string a0_2, .int .i64 t8004, .string t8005, .slice none 0 0, .slice none 0 0, .int .i64 0]) ?_ 5 _ rfl; (with_reducible repeat (first | refine blk_drewN ?_ _ | refine blk_drew ?_ | refine blk_alloc ?_ _)); refine blk_put (cs := #[.int .i64 a0_0, .string a0_1, .string a0_2, .int .i64 t8004, .string (⟨#[]⟩ : ByteArray), .slice none 0 0, .slice none 0 0, .int .i64 0]) ?_ 4 _ rfl; (with_reducible repeat (first | refine blk_drewN ?_ _ | refine blk_drew ?_ | refine blk_alloc ?_ _)); refine blk_put (cs := #[.int .i64 a0_0, .string a0_1, .string a0_2, .int .i64 0, .string (⟨#[]⟩ : ByteArray), .slice none 0 0, .slice none 0 0, .int .i64 0]) ?_ 3 _ rfl; (with_reducible repeat (first | refine blk_drewN ?_ _ | refine blk_drew ?_ | refine blk_alloc ?_ _)); refine blk_put (cs := #[.int .i64 a0_0, .string a0_1, .string (⟨#[]⟩ : ByteArray), .int .i64 0, .string (⟨#[]⟩ : ByteArray), .slice none 0 0, .slice none 0 0, .int .i64 0]) ?_ 2 _ rfl; (with_reducible repeat (first | refine blk_drewN ?_ _ | refine blk_drew ?_ | refine blk_alloc ?_ _)); refine blk_put (cs := #[.int .i64 a0_0, .string (⟨#[]⟩ : ByteArray), .string (⟨#[]⟩ : ByteArray), .int .i64 0, .string (⟨#[]⟩ : ByteArray), .slice none 0 0, .slice none 0 0, .int .i64 0]) ?_ 1 _ rfl; (with_reducible repeat (first | refine blk_drewN ?_ _ | refine blk_drew ?_ | refine blk_alloc ?_ _)); refine blk_put (cs := #[.int .i64 0, .string (⟨#[]⟩ : ByteArray), .string (⟨#[]⟩ : ByteArray), .int .i64 0, .string (⟨#[]⟩ : ByteArray), .slice none 0 0, .slice none 0 0, .int .i64 0]) ?_ 0 _ rfl; (with_reducible repeat (first | refine blk_drewN ?_ _ | refine blk_drew ?_ | refine blk_alloc ?_ _)); refine blk_far ?_ NB8002_8003.out _; (with_reducible repeat (first | refine blk_drewN ?_ _ | refine blk_drew ?_ | refine blk_alloc ?_ _)); refine blk_far ?_ NB8002_8003.out _; (with_reducible repeat (first | refine blk_drewN ?_ _ | refine blk_drew ?_ | refine blk_alloc ?_ _)); exact BK8002.out) Try.underlying37 rfl (by kernel_rfl)) rfl ?_
 exact ⟨_, _, za5, by (with_reducible repeat (first | apply Kd.R_alloc | apply Kd.R_drewN | apply Kd.R_drew)); exact Kd.R_mono (Kd.R_far (p := ⟨gb8002, 7, none⟩) (Kd.R_far (p := ⟨gb8002, 6, none⟩) (Kd.R_far (p := ⟨gb8002, 5, none⟩) (Kd.R_far (p := ⟨gb8002, 4, none⟩) (Kd.R_far (p := ⟨gb8002, 3, none⟩) (Kd.R_far (p := ⟨gb8002, 2, none⟩) (Kd.R_far (p := ⟨gb8002, 1, none⟩) (Kd.R_far (p := ⟨gb8002, 0, none⟩) (Kd.R_far (p := ⟨gb8003, 7, none⟩) (Kd.R_far (p := ⟨gb8003, 6, none⟩) (Kd.R_types (Kd.R_types HO8008.out BK8003.out (by decide)) BK8002.out (by decide)) (fun _ hk => hk.1.2) (.slice Ao17 t8009.length co17)) (fun _ hk => hk.1.2) (.int .i64 a0_7)) (fun _ hk => hk.2) (.int .i64 a0_0)) (fun _ hk => hk.2) (.string a0_1)) (fun _ hk => hk.2) (.string a0_2)) (fun _ hk => hk.2) (.int .i64 t8004)) (fun _ hk => hk.2) (.string t8005)) (fun _ hk => hk.2) (.slice Ao14 t8006.length co14)) (fun _ hk => hk.2) (.slice Ao17 t8009.length co17)) (fun _ hk => hk.2) (.int .i64 a0_7)) (fun _ hk => trivial), by (with_reducible repeat (first | apply Kd.R_alloc | apply Kd.R_drewN | apply Kd.R_drew)); exact Kd.R_mono (Kd.R_far (p := ⟨gb8002, 7, none⟩) (Kd.R_far (p := ⟨gb8002, 6, none⟩) (Kd.R_far (p := ⟨gb8002, 5, none⟩) (Kd.R_far (p := ⟨gb8002, 4, none⟩) (Kd.R_far (p := ⟨gb8002, 3, none⟩) (Kd.R_far (p := ⟨gb8002, 2, none⟩) (Kd.R_far (p := ⟨gb8002, 1, none⟩) (Kd.R_far (p := ⟨gb8002, 0, none⟩) (Kd.R_far (p := ⟨gb8003, 7, none⟩) (Kd.R_far (p := ⟨gb8003, 6, none⟩) (Kd.R_types (Kd.R_types HO8011.out BK8003.out (by decide)) BK8002.out (by decide)) (fun _ hk => hk.1.2) (.slice Ao17 t8009.length co17)) (fun _ hk => hk.1.2) (.int .i64 a0_7)) (fun _ hk => hk.2) (.int .i64 a0_0)) (fun _ hk => hk.2) (.string a0_1)) (fun _ hk => hk.2) (.string a0_2)) (fun _ hk => hk.2) (.int .i64 t8004)) (fun _ hk => hk.2) (.string t8005)) (fun _ hk => hk.2) (.slice Ao14 t8006.length co14)) (fun _ hk => hk.2) (.slice Ao17 t8009.length co17)) (fun _ hk => hk.2) (.int .i64 a0_7)) (fun _ hk => trivial), za2⟩
def laws_eqConstraint.f (k : Nat) (a0_0 : Int) (a0_1 : ByteArray) (a0_2 : ByteArray) (a0_3 : Int) (a0_4 : ByteArray) (l0_5 : List (S35)) (l0_6 : List Int) (a0_7 : Int) (a1_0 : Int) (a1_1 : ByteArray) (a1_2 : ByteArray) (a1_3 : Int) (a1_4 : ByteArray) (l1_5 : List (S35)) (l1_6 : List Int) (a1_7 : Int) : Option (Bool) := if a0_0 = a1_0 then (if a0_1.toList = a1_1.toList then (if a0_2.toList = a1_2.toList then ((laws_eqRegex.f k a0_3 a0_4 l0_5 a1_3 a1_4 l1_5).bind fun t11003 => (if t11003 = true then ((laws_eqIntS.f k l0_6 l1_6).bind fun t11004 => (if t11004 = true then (if a0_7 = a1_7 then (some true) else (some false)) else (some false))) else (some false))) else (some false)) else (some false)) else (some false)
theorem laws_eqConstraint.mono : ∀ a0 a1 a2 a3 a4 a5 a6 a7 a8 a9 a10 a11 a12 a13 a14 a15 k, LeO (laws_eqConstraint.f k a0 a1 a2 a3 a4 a5 a6 a7 a8 a9 a10 a11 a12 a13 a14 a15) (laws_eqConstraint.f (k + 1) a0 a1 a2 a3 a4 a5 a6 a7 a8 a9 a10 a11 a12 a13 a14 a15) := by
 intro a0 a1 a2 a3 a4 a5 a6 a7 a8 a9 a10 a11 a12 a13 a14 a15 k
 unfold laws_eqConstraint.f
 repeat' first
   | with_reducible first | exact laws_eqIntS.mono _ _ _ | exact laws_eqRegex.mono _ _ _ _ _ _ _ | exact LeO.refl _ | exact LeO.none _ | refine LeO.ite ?_ ?_ | refine LeO.bind ?_ (fun _ => ?_)
theorem laws_eqConstraint.calls (k : Nat) (a0_0 : Int) (a0_1 : ByteArray) (a0_2 : ByteArray) (a0_3 : Int) (a0_4 : ByteArray) (A0_5 : Option Addr) (c0_5 : Nat) (l0_5 : List (S35)) (A0_6 : Option Addr) (c0_6 : Nat) (l0_6 : List Int) (a0_7 : Int) (a1_0 : Int) (a1_1 : ByteArray) (a1_2 : ByteArray) (a1_3 : Int) (a1_4 : ByteArray) (A1_5 : Option Addr) (c1_5 : Nat) (l1_5 : List (S35)) (A1_6 : Option Addr) (c1_6 : Nat) (l1_6 : List Int) (a1_7 : Int) (r : Bool) (w : World) (hr0_5 : Kd.C k35 w A0_5 l0_5.length l0_5) (hc0_5 : l0_5.length ≤ c0_5) (hr0_6 : Kd.C (Kd.int .i64) w A0_6 l0_6.length l0_6) (hc0_6 : l0_6.length ≤ c0_6) (hr1_5 : Kd.C k35 w A1_5 l1_5.length l1_5) (hc1_5 : l1_5.length ≤ c1_5) (hr1_6 : Kd.C (Kd.int .i64) w A1_6 l1_6.length l1_6) (hc1_6 : l1_6.length ≤ c1_6) (h : laws_eqConstraint.f k a0_0 a0_1 a0_2 a0_3 a0_4 l0_5 l0_6 a0_7 a1_0 a1_1 a1_2 a1_3 a1_4 l1_5 l1_6 a1_7 = some r) :
  Calls Try.prog 11 #[.agg #[.int .i64 a0_0, .string a0_1, .string a0_2, .int .i64 a0_3, .string a0_4, .slice A0_5 l0_5.length c0_5, .slice A0_6 l0_6.length c0_6, .int .i64 a0_7], .agg #[.int .i64 a1_0, .string a1_1, .string a1_2, .int .i64 a1_3, .string a1_4, .slice A1_5 l1_5.length c1_5, .slice A1_6 l1_6.length c1_6, .int .i64 a1_7]] w fun e w' => e = .returned (.bool r) ∧ Below w.heap.size w w' := by
 have hu37 := Try.underlying37
 have hu35 := Try.underlying35
 have HR0_5 := Aside0.mk hr0_5
 have HC0_5 := Aside0.mk hc0_5
 clear hr0_5 hc0_5
 have HR0_6 := Aside0.mk hr0_6
 have HC0_6 := Aside0.mk hc0_6
 clear hr0_6 hc0_6
 have HR1_5 := Aside0.mk hr1_5
 have HC1_5 := Aside0.mk hc1_5
 clear hr1_5 hc1_5
 have HR1_6 := Aside0.mk hr1_6
 have HC1_6 := Aside0.mk hc1_6
 clear hr1_6 hc1_6
 have HB := Aside0.mk (Below.refl w.heap.size w)
 have H : (if a0_0 = a1_0 then (if a0_1.toList = a1_1.toList then (if a0_2.toList = a1_2.toList then ((laws_eqRegex.f k a0_3 a0_4 l0_5 a1_3 a1_4 l1_5).bind fun t11003 => (if t11003 = true then ((laws_eqIntS.f k l0_6 l1_6).bind fun t11004 => (if t11004 = true then (if a0_7 = a1_7 then (some true) else (some false)) else (some false))) else (some false))) else (some false)) else (some false)) else (some false)) = some r := h
 clear h
 by_cases c3 : a0_0 = a1_0
 rw [if_pos c3] at H
 have c3b0 : (a0_0 == a1_0) = true := beq_iff_eq.mpr c3
 have c3b1 : (a0_0 != a1_0) = false := bne_eq_false_iff_eq.mpr c3
 clear c3
 by_cases c4 : a0_1.toList = a1_1.toList
 rw [if_pos c4] at H
 have c4b0 : (a0_1.toList == a1_1.toList) = true := beq_iff_eq.mpr c4
 have c4b1 : (a0_1.toList != a1_1.toList) = false := bne_eq_false_iff_eq.mpr c4
 clear c4
 by_cases c5 : a0_2.toList = a1_2.toList
 rw [if_pos c5] at H
 have c5b0 : (a0_2.toList == a1_2.toList) = true := beq_iff_eq.mpr c5
 have c5b1 : (a0_2.toList != a1_2.toList) = false := bne_eq_false_iff_eq.mpr c5
 clear c5
 replace H := Option.bind_eq_some_iff.mp H
 obtain ⟨t11003, A60, H⟩ := H
 replace H : (if t11003 = true then ((laws_eqIntS.f k l0_6 l1_6).bind fun t11004 => (if t11004 = true then (if a0_7 = a1_7 then (some true) else (some false)) else (some false))) else (some false)) = some r := H
 have A6 := Aside0.mk A60
 clear A60
 by_cases c7 : t11003 = true
 subst c7
 have H1 : ((laws_eqIntS.f k l0_6 l1_6).bind fun t11004 => (if t11004 = true then (if a0_7 = a1_7 then (some true) else (some false)) else (some false))) = some r := by rw [if_pos rfl] at H; exact H
 clear H
 have H := H1
 clear H1
 replace H := Option.bind_eq_some_iff.mp H
 obtain ⟨t11004, A80, H⟩ := H
 replace H : (if t11004 = true then (if a0_7 = a1_7 then (some true) else (some false)) else (some false)) = some r := H
 have A8 := Aside0.mk A80
 clear A80
 by_cases c9 : t11004 = true
 subst c9
 have H1 : (if a0_7 = a1_7 then (some true) else (some false)) = some r := by rw [if_pos rfl] at H; exact H
 clear H
 have H := H1
 clear H1
 by_cases c10 : a0_7 = a1_7
 rw [if_pos c10] at H
 have c10b0 : (a0_7 == a1_7) = true := beq_iff_eq.mpr c10
 have c10b1 : (a0_7 != a1_7) = false := bne_eq_false_iff_eq.mpr c10
 clear c10
 rotate_left
 rw [if_neg c10] at H
 have c10b0 : (a0_7 == a1_7) = false := beq_eq_false_iff_ne.mpr c10
 have c10b1 : (a0_7 != a1_7) = true := bne_iff_ne.mpr c10
 rotate_left
 replace c9 := Bool.eq_false_iff.mpr c9
 subst c9
 have H1 : (some false) = some r := by rw [if_neg (show ¬ (false = true) by decide)] at H; exact H
 clear H
 have H := H1
 clear H1
 rotate_left
 replace c7 := Bool.eq_false_iff.mpr c7
 subst c7
 have H1 : (some false) = some r := by rw [if_neg (show ¬ (false = true) by decide)] at H; exact H
 clear H
 have H := H1
 clear H1
 rotate_left
 rw [if_neg c5] at H
 have c5b0 : (a0_2.toList == a1_2.toList) = false := beq_eq_false_iff_ne.mpr c5
 have c5b1 : (a0_2.toList != a1_2.toList) = true := bne_iff_ne.mpr c5
 rotate_left
 rw [if_neg c4] at H
 have c4b0 : (a0_1.toList == a1_1.toList) = false := beq_eq_false_iff_ne.mpr c4
 have c4b1 : (a0_1.toList != a1_1.toList) = true := bne_iff_ne.mpr c4
 rotate_left
 rw [if_neg c3] at H
 have c3b0 : (a0_0 == a1_0) = false := beq_eq_false_iff_ne.mpr c3
 have c3b1 : (a0_0 != a1_0) = true := bne_iff_ne.mpr c3
 rotate_left
 all_goals
  obtain rfl := Option.some.inj H
  go_enter Try.func11, Try.ntmps11
  go_wp2_with (first | ((with_reducible refine gate_dst (N := 2) rfl ?_); refine box_event ?hg (N := 2) ?hd (cs := #[.int .i64 a0_0, .string a0_1, .string a0_2, .int .i64 a0_3, .string a0_4, .slice A0_5 l0_5.length c0_5, .slice A0_6 l0_6.length c0_6, .int .i64 a0_7]) (t := 37) ?hr ?_; (case hd => rfl); (case hg => rfl); (case hr => first | (go_simp; done) | (go_simp; rfl)); intro gb11001 hg w11 hbox hb; have n0_ := Aside0.mk (below_step za2 hb); have n1_ := Aside0.mk (hbox); have n2_ := Aside0.mk ((by rw [hg]; exact (below_size za2) : w.heap.size ≤ gb11001)); have n3_ := Aside0.mk ((by rw [hg]; exact (below_size za2) : w.heap.size ≤ gb11001)); clear HB; have HB := n0_; have BK11001 := n1_; have GW11001 := n2_; have GE11001 := n3_; clear n0_ n1_ n2_ n3_; clear hb hbox hg) | ((with_reducible refine gate_dst (N := 3) rfl ?_); refine box_event ?hg (N := 3) ?hd (cs := #[.int .i64 a1_0, .string a1_1, .string a1_2, .int .i64 a1_3, .string a1_4, .slice A1_5 l1_5.length c1_5, .slice A1_6 l1_6.length c1_6, .int .i64 a1_7]) (t := 37) ?hr ?_; (case hd => rfl); (case hg => rfl); (case hr => first | (go_simp; done) | (go_simp; rfl)); intro gb11002 hg w12 hbox hb; have n0_ := Aside0.mk (blk_below (g := gb11001) (o := .cells #[.int .i64 a0_0, .string a0_1, .string a0_2, .int .i64 a0_3, .string a0_4, .slice A0_5 l0_5.length c0_5, .slice A0_6 l0_6.length c0_6, .int .i64 a0_7] 37 (0, 0)) (za0 BK11001.out) hb); have n1_ := Aside0.mk (below_step za2 hb); have n2_ := Aside0.mk (hbox); have n3_ := Aside0.mk ((by rw [hg]; exact (below_size za2) : w.heap.size ≤ gb11002)); have n4_ := Aside0.mk ((by rw [hg]; exact (below_size za2) : w.heap.size ≤ gb11002)); have n5_ := Aside0.mk ((by rw [hg]; exact Nat.ne_of_lt (blk_lt (g := gb11001) (o := .cells #[.int .i64 a0_0, .string a0_1, .string a0_2, .int .i64 a0_3, .string a0_4, .slice A0_5 l0_5.length c0_5, .slice A0_6 l0_6.length c0_6, .int .i64 a0_7] 37 (0, 0)) (za0 BK11001.out)) : gb11001 ≠ gb11002)); have n6_ := Aside0.mk ((by rw [hg]; exact Nat.ne_of_gt (blk_lt (g := gb11001) (o := .cells #[.int .i64 a0_0, .string a0_1, .string a0_2, .int .i64 a0_3, .string a0_4, .slice A0_5 l0_5.length c0_5, .slice A0_6 l0_6.length c0_6, .int .i64 a0_7] 37 (0, 0)) (za0 BK11001.out)) : gb11002 ≠ gb11001)); clear BK11001; clear HB; have BK11001 := n0_; have HB := n1_; have BK11002 := n2_; have GW11002 := n3_; have GE11002 := n4_; have NB11001_11002 := n5_; have NB11002_11001 := n6_; clear n0_ n1_ n2_ n3_ n4_ n5_ n6_; clear hb hbox hg; have hnb13 := NB11001_11002.out; have hnc13 := NB11002_11001.out; obtain ⟨hcz14_0, hcz14_1, hcz14_2, hcz14_3, hcz14_4, hcz14_5, hcz14_6, hcz14_7, hfz14_0, hfz14_1, hfz14_2, hfz14_3, hfz14_4, hfz14_5, hfz14_6, hfz14_7⟩ := blk8 BK11001.out; obtain ⟨hcz15_0, hcz15_1, hcz15_2, hcz15_3, hcz15_4, hcz15_5, hcz15_6, hcz15_7, hfz15_0, hfz15_1, hfz15_2, hfz15_3, hfz15_4, hfz15_5, hfz15_6, hfz15_7⟩ := blk8 BK11002.out) | ((with_reducible refine gate_callee (f := 27) rfl ?_); refine goesL_ (some 24) rfl rfl Try.func27 (by kernel_rfl) rfl #[.agg #[.int .i64 a0_3, .string a0_4, .slice A0_5 l0_5.length c0_5], .agg #[.int .i64 a1_3, .string a1_4, .slice A1_5 l1_5.length c1_5]] rfl za3 ?_; (with_reducible refine (laws_eqRegex.calls k a0_3 a0_4 _ _ l0_5 a1_3 a1_4 _ _ l1_5 _ _ ?side1 ?side2 ?side3 ?side4 A6.out).mono ?_); (case side1 => repeat (first | exact (Kd.C_below HR0_5.out HB.out) | (with_reducible refine Kd.C_alloc ?_ _) | (with_reducible refine Kd.C_drewN ?_ _) | (with_reducible refine Kd.C_drew ?_))); (case side2 => exact HC0_5.out); (case side3 => repeat (first | exact (Kd.C_below HR1_5.out HB.out) | (with_reducible refine Kd.C_alloc ?_ _) | (with_reducible refine Kd.C_drewN ?_ _) | (with_reducible refine Kd.C_drew ?_))); (case side4 => exact HC1_5.out); rintro e w16 ⟨rfl, hb⟩; refine ⟨_, rfl, ?_⟩; have n0_ := Aside0.mk (blk_below (g := gb11001) (o := .cells #[.int .i64 a0_0, .string a0_1, .string a0_2, .int .i64 a0_3, .string a0_4, .slice A0_5 l0_5.length c0_5, .slice A0_6 l0_6.length c0_6, .int .i64 a0_7] 37 (0, 0)) (za0 BK11001.out) hb); have n1_ := Aside0.mk (blk_below (g := gb11002) (o := .cells #[.int .i64 a1_0, .string a1_1, .string a1_2, .int .i64 a1_3, .string a1_4, .slice A1_5 l1_5.length c1_5, .slice A1_6 l1_6.length c1_6, .int .i64 a1_7] 37 (0, 0)) (za0 BK11002.out) hb); have n2_ := Aside0.mk (below_step za2 hb); clear BK11001; clear BK11002; clear HB; have BK11001 := n0_; have BK11002 := n1_; have HB := n2_; clear n0_ n1_ n2_; (try clear hb); (try clear hb2); (try clear hk); (try clear hi); obtain ⟨hcz17_0, hcz17_1, hcz17_2, hcz17_3, hcz17_4, hcz17_5, hcz17_6, hcz17_7, hfz17_0, hfz17_1, hfz17_2, hfz17_3, hfz17_4, hfz17_5, hfz17_6, hfz17_7⟩ := blk8 BK11001.out; obtain ⟨hcz18_0, hcz18_1, hcz18_2, hcz18_3, hcz18_4, hcz18_5, hcz18_6, hcz18_7, hfz18_0, hfz18_1, hfz18_2, hfz18_3, hfz18_4, hfz18_5, hfz18_6, hfz18_7⟩ := blk8 BK11002.out) | ((with_reducible refine gate_callee (f := 28) rfl ?_); refine goesL_ (some 30) rfl rfl Try.func28 (by kernel_rfl) rfl #[.slice A0_6 l0_6.length c0_6, .slice A1_6 l1_6.length c1_6] rfl za3 ?_; (with_reducible refine (laws_eqIntS.calls k _ _ l0_6 _ _ l1_6 _ _ ?side1 ?side2 ?side3 ?side4 A8.out).mono ?_); (case side1 => repeat (first | exact (Kd.C_below HR0_6.out HB.out) | (with_reducible refine Kd.C_alloc ?_ _) | (with_reducible refine Kd.C_drewN ?_ _) | (with_reducible refine Kd.C_drew ?_))); (case side2 => exact HC0_6.out); (case side3 => repeat (first | exact (Kd.C_below HR1_6.out HB.out) | (with_reducible refine Kd.C_alloc ?_ _) | (with_reducible refine Kd.C_drewN ?_ _) | (with_reducible refine Kd.C_drew ?_))); (case side4 => exact HC1_6.out); rintro e w' ⟨rfl, ⟨nd, rfl⟩⟩; refine ⟨_, rfl, ?_⟩))
  go_ret
  exact ⟨za5, za2⟩
def laws_szConstraintS.l0 : Nat → List (S27) → Int → Int → Option (Int)
 | 0, _, _, _ => none
 | k + 1, x0, x1, x5 => if x5 < (x0.length : Int) then (if 0 ≤ x5 then ((laws_szConstraint.f k ((rd_T27 x0 x5).f0) ((rd_T27 x0 x5).f1) ((rd_T27 x0 x5).f2) ((rd_T27 x0 x5).f3.f0) ((rd_T27 x0 x5).f3.f1) ((rd_T27 x0 x5).f3.f2) ((rd_T27 x0 x5).f4) ((rd_T27 x0 x5).f5) x1).bind fun t29002 => (if t29002 < 0 then (some (-1)) else (laws_szConstraintS.l0 k x0 t29002 (wrap64 (x5 + 1))))) else (none)) else (some x1)
def laws_szConstraintS.f (k : Nat) (l0 : List (S27)) (a1 : Int) : Option (Int) := if (wrap64 (a1 - (l0.length : Int))) < 0 then (some (-1)) else (laws_szConstraintS.l0 k l0 (wrap64 (a1 - (l0.length : Int))) 0)
theorem laws_szConstraintS.mono_l : ∀ k, (∀ y0 y1 y2, LeO (laws_szConstraintS.l0 k y0 y1 y2) (laws_szConstraintS.l0 (k + 1) y0 y1 y2))
 | 0 => fun _ _ _ r h => by simp [laws_szConstraintS.l0] at h
 | k + 1 => by
  have ih0 := laws_szConstraintS.mono_l k
  ·intro y0 y1 y2
   unfold laws_szConstraintS.l0
   repeat' first
   | with_reducible first | exact ih0 _ _ _ | exact laws_szConstraint.mono _ _ _ _ _ _ _ _ _ _ | exact LeO.refl _ | exact LeO.none _ | refine LeO.ite ?_ ?_ | refine LeO.bind ?_ (fun _ => ?_)
theorem laws_szConstraintS.mono : ∀ a0 a1 k, LeO (laws_szConstraintS.f k a0 a1) (laws_szConstraintS.f (k + 1) a0 a1) := by
 intro a0 a1 k
 have ih0 := laws_szConstraintS.mono_l k
 unfold laws_szConstraintS.f
 repeat' first
   | with_reducible first | exact ih0 _ _ _ | exact laws_szConstraint.mono _ _ _ _ _ _ _ _ _ _ | exact LeO.refl _ | exact LeO.none _ | refine LeO.ite ?_ ?_ | refine LeO.bind ?_ (fun _ => ?_)
theorem laws_szConstraintS.calls (k : Nat) (A0 : Option Addr) (c0 : Nat) (l0 : List (S27)) (a1 : Int) (r : Int) (w : World) (hr0 : Kd.C k27 w A0 l0.length l0) (hc0 : l0.length ≤ c0) (h : laws_szConstraintS.f k l0 a1 = some r) :
  Calls Try.prog 29 #[.slice A0 l0.length c0, .int .i64 a1] w fun e w' => e = .returned (.int .i64 r) ∧ Below w.heap.size w w' := by
 have hu27 := Try.underlying27
 have HR0 := Aside0.mk hr0
 have HC0 := Aside0.mk hc0
 clear hr0 hc0
 have HB := Aside0.mk (Below.refl w.heap.size w)
 have H : (if (wrap64 (a1 - (l0.length : Int))) < 0 then (some (-1)) else (laws_szConstraintS.l0 k l0 (wrap64 (a1 - (l0.length : Int))) 0)) = some r := h
 clear h
 by_cases c3 : (wrap64 (a1 - (l0.length : Int))) < 0
 ·rw [if_pos c3] at H
  have c3b0 : decide ((wrap64 (a1 - (l0.length : Int))) < 0) = true := decide_eq_true c3
  have c3w : decide ((IntKind.i64.wrap (a1 - (l0.length : Int))) < 0) = true := by simp only [i64_w]; exact c3b0
  clear c3
  obtain rfl := Option.some.inj H
  go_enter Try.func29, Try.ntmps29
  go_wp2
  go_ret
  exact ⟨za5, za2⟩
 ·rw [if_neg c3] at H
  have c3b0 : decide ((wrap64 (a1 - (l0.length : Int))) < 0) = false := decide_eq_false c3
  have c3w : decide ((IntKind.i64.wrap (a1 - (l0.length : Int))) < 0) = false := by simp only [i64_w]; exact c3b0
  clear c3
  have H' := Aside0.mk H
  clear H
  go_enter Try.func29, Try.ntmps29
  go_wp2
  first | go_loopg [1, 5] k (fun kq v1 v5 w' => ∃ (x1_1 : Int) (x5_1 : Int), v1 = .int .i64 x1_1 ∧ v5 = .int .i64 x5_1 ∧ Aside0 (laws_szConstraintS.l0 kq l0 x1_1 x5_1 = some r) ∧ Aside0 (kq ≤ k) ∧ Aside0 (Below w.heap.size w w')) | (simp only [Act.put, List.setIfInBounds_toArray, List.set_cons_succ, List.set_cons_zero]; go_loopg [1, 5] k (fun kq v1 v5 w' => ∃ (x1_1 : Int) (x5_1 : Int), v1 = .int .i64 x1_1 ∧ v5 = .int .i64 x5_1 ∧ Aside0 (laws_szConstraintS.l0 kq l0 x1_1 x5_1 = some r) ∧ Aside0 (kq ≤ k) ∧ Aside0 (Below w.heap.size w w')))
  case atStart => exact ⟨(wrap64 (a1 - (l0.length : Int))), (0), za6, za6, H', ⟨Nat.le_refl _⟩, ⟨za2⟩⟩
  case round =>
   clear H'
   try clear c3
   try clear c3b0
   obtain ⟨x1_1, x5_1, rfl, rfl, HA, HK1, HB⟩ := hrel
   cases gk with
   | zero => exact absurd HA.out (by simp [laws_szConstraintS.l0])
   | succ k1 =>
   have H := HA.out
   clear HA
   simp only [laws_szConstraintS.l0] at H
   by_cases c4 : x5_1 < (l0.length : Int)
   rw [if_pos c4] at H
   have c4b0 : decide (x5_1 < (l0.length : Int)) = true := decide_eq_true c4
   clear c4
   by_cases c5 : 0 ≤ x5_1
   rw [if_pos c5] at H
   have c5b0 : decide (0 ≤ x5_1) = true := decide_eq_true c5
   clear c5
   replace H := Option.bind_eq_some_iff.mp H
   obtain ⟨t29002, A60, H⟩ := H
   replace H : (if t29002 < 0 then (some (-1)) else (laws_szConstraintS.l0 k1 l0 t29002 (wrap64 (x5_1 + 1)))) = some r := H
   have A6 := Aside0.mk A60
   clear A60
   by_cases c7 : t29002 < 0
   rw [if_pos c7] at H
   have c7b0 : decide (t29002 < 0) = true := decide_eq_true c7
   clear c7
   obtain rfl := Option.some.inj H
   have fin0_ := Aside0.mk trivial
   rotate_left
   rw [if_neg c7] at H
   have c7b0 : decide (t29002 < 0) = false := decide_eq_false c7
   clear c7
   have H' := Aside0.mk H
   clear H
   have fin1_ := Aside0.mk trivial
   rotate_left
   ·rw [if_neg c5] at H
    exact absurd H (by simp)
   ·rw [if_neg c4] at H
    have c4b0 : decide (x5_1 < (l0.length : Int)) = false := decide_eq_false c4
    clear c4
    obtain rfl := Option.some.inj H
    go_wp2
    go_ret
    exact ⟨za5, za2⟩
   all_goals
    have p29001 : 0 ≤ (x5_1 : Int) := of_decide_eq_true za7
    have q29001 : x5_1 < (l0.length : Int) := of_decide_eq_true za7
    obtain ⟨ad29001, A29001_5, c29001_5, A29001_6, c29001_6, e29001, hx29001_0, hx29001_1, hx29001_2, hx29001_3, hx29001_4, hx29001_5, hx29001_6, hx29001_7, hl29001_5, hi29001_5, hl29001_6, hi29001_6⟩ := at_T27 HR0.out x5_1 p29001 q29001
    cases e29001
    replace hx29001_0 := (HB.out.cell (World.block_lt_of_cell? w _ hx29001_0)).trans hx29001_0
    replace hx29001_1 := (HB.out.cell (World.block_lt_of_cell? w _ hx29001_1)).trans hx29001_1
    replace hx29001_2 := (HB.out.cell (World.block_lt_of_cell? w _ hx29001_2)).trans hx29001_2
    replace hx29001_3 := (HB.out.cell (World.block_lt_of_cell? w _ hx29001_3)).trans hx29001_3
    replace hx29001_4 := (HB.out.cell (World.block_lt_of_cell? w _ hx29001_4)).trans hx29001_4
    replace hx29001_5 := (HB.out.cell (World.block_lt_of_cell? w _ hx29001_5)).trans hx29001_5
    replace hx29001_6 := (HB.out.cell (World.block_lt_of_cell? w _ hx29001_6)).trans hx29001_6
    replace hx29001_7 := (HB.out.cell (World.block_lt_of_cell? w _ hx29001_7)).trans hx29001_7
    have HR29001_5 := Aside0.mk hi29001_5
    have HC29001_5 := Aside0.mk hl29001_5
    clear hi29001_5 hl29001_5
    have HR29001_6 := Aside0.mk hi29001_6
    have HC29001_6 := Aside0.mk hl29001_6
    clear hi29001_6 hl29001_6
    replace p29001 := eq_true p29001
    replace q29001 := eq_true q29001
    go_wp2_with (((with_reducible refine gate_callee (f := 5) rfl ?_); refine goesL_ (some 23) rfl rfl Try.func5 (by kernel_rfl) rfl #[.agg #[.int .i64 ((rd_T27 l0 x5_1).f0), .string ((rd_T27 l0 x5_1).f1), .string ((rd_T27 l0 x5_1).f2), .int .i64 ((rd_T27 l0 x5_1).f3.f0), .string ((rd_T27 l0 x5_1).f3.f1), .slice A29001_5 ((rd_T27 l0 x5_1).f3.f2).length c29001_5, .slice A29001_6 ((rd_T27 l0 x5_1).f4).length c29001_6, .int .i64 ((rd_T27 l0 x5_1).f5)], .int .i64 x1_1] rfl za3 ?_; (with_reducible refine (laws_szConstraint.calls k1 ((rd_T27 l0 x5_1).f0) ((rd_T27 l0 x5_1).f1) ((rd_T27 l0 x5_1).f2) ((rd_T27 l0 x5_1).f3.f0) ((rd_T27 l0 x5_1).f3.f1) _ _ ((rd_T27 l0 x5_1).f3.f2) _ _ ((rd_T27 l0 x5_1).f4) ((rd_T27 l0 x5_1).f5) x1_1 t29002 _ ?side1 ?side2 ?side3 ?side4 A6.out).mono ?_); (case side1 => repeat (first | exact (Kd.C_below HR29001_5.out HB.out) | (with_reducible refine Kd.C_alloc ?_ _) | (with_reducible refine Kd.C_drewN ?_ _) | (with_reducible refine Kd.C_drew ?_))); (case side2 => exact HC29001_5.out); (case side3 => repeat (first | exact (Kd.C_below HR29001_6.out HB.out) | (with_reducible refine Kd.C_alloc ?_ _) | (with_reducible refine Kd.C_drewN ?_ _) | (with_reducible refine Kd.C_drew ?_))); (case side4 => exact HC29001_6.out); rintro e w8 ⟨rfl, hb⟩; refine ⟨_, rfl, ?_⟩; have n0_ := Aside0.mk (below_step za2 hb); clear HB; have HB := n0_; clear n0_; (try clear hb); (try clear hb2); (try clear hk); (try clear hi)))
    first
    | (
     clear fin0_
     go_ret
     exact ⟨za5, za2⟩)
    | (
     clear fin1_
     go_roundg k1
     case measure => have := HK1.out; omega
     case rel => exact ⟨(t29002), (wrap64 (x5_1 + 1)), za6, za6, H', ⟨za11⟩, ⟨za2⟩⟩)
def laws_toConstraintS.l0 : Nat → List (S27) → List (S37) → Int → Option ((List (S37)))
 | 0, _, _, _ => none
 | k + 1, x0, x3, x4 => if x4 < (x0.length : Int) then (if 0 ≤ x4 then ((laws_toConstraint.f k ((rd_T27 x0 x4).f0) ((rd_T27 x0 x4).f1) ((rd_T27 x0 x4).f2) ((rd_T27 x0 x4).f3.f0) ((rd_T27 x0 x4).f3.f1) ((rd_T27 x0 x4).f3.f2) ((rd_T27 x0 x4).f4) ((rd_T27 x0 x4).f5)).bind fun bt34005 => (if x4 < (x3.length : Int) then (laws_toConstraintS.l0 k x0 (x3.set (x4 : Int).toNat (⟨bt34005.1, bt34005.2.1, bt34005.2.2.1, (⟨bt34005.2.2.2.1, bt34005.2.2.2.2.1, bt34005.2.2.2.2.2.1⟩ : S35), bt34005.2.2.2.2.2.2.1, bt34005.2.2.2.2.2.2.2⟩ : S37)) (wrap64 (x4 + 1))) else (none))) else (none)) else (some x3)
def laws_toConstraintS.f (k : Nat) (l0 : List (S27)) : Option ((List (S37))) := if 0 ≤ (l0.length : Int) then (if ((l0.length : Int) : Int).toNat ≤ 2345624805922 then (laws_toConstraintS.l0 k l0 (List.replicate ((l0.length : Int) : Int).toNat z37) 0) else (none)) else (none)
theorem laws_toConstraintS.mono_l : ∀ k, (∀ y0 y1 y2, LeO (laws_toConstraintS.l0 k y0 y1 y2) (laws_toConstraintS.l0 (k + 1) y0 y1 y2))
 | 0 => fun _ _ _ r h => by simp [laws_toConstraintS.l0] at h
 | k + 1 => by
  have ih0 := laws_toConstraintS.mono_l k
  ·intro y0 y1 y2
   unfold laws_toConstraintS.l0
   repeat' first
   | with_reducible first | exact ih0 _ _ _ | exact laws_toConstraint.mono _ _ _ _ _ _ _ _ _ | exact LeO.refl _ | exact LeO.none _ | refine LeO.ite ?_ ?_ | refine LeO.bind ?_ (fun _ => ?_)
theorem laws_toConstraintS.mono : ∀ a0 k, LeO (laws_toConstraintS.f k a0) (laws_toConstraintS.f (k + 1) a0) := by
 intro a0 k
 have ih0 := laws_toConstraintS.mono_l k
 unfold laws_toConstraintS.f
 repeat' first
   | with_reducible first | exact ih0 _ _ _ | exact laws_toConstraint.mono _ _ _ _ _ _ _ _ _ | exact LeO.refl _ | exact LeO.none _ | refine LeO.ite ?_ ?_ | refine LeO.bind ?_ (fun _ => ?_)
theorem laws_toConstraintS.calls (k : Nat) (A0 : Option Addr) (c0 : Nat) (l0 : List (S27)) (r : List (S37)) (w : World) (hr0 : Kd.C k27 w A0 l0.length l0) (hc0 : l0.length ≤ c0) (h : laws_toConstraintS.f k l0 = some r) :
  Calls Try.prog 34 #[.slice A0 l0.length c0] w fun e w' => ∃ v0_ : Value, e = .returned (v0_) ∧ Kd.R k37 37 w' w.heap.size (fun _ => True) v0_ r ∧ Below w.heap.size w w' := by
 have hu27 := Try.underlying27
 have hu37 := Try.underlying37
 have HR0 := Aside0.mk hr0
 have HC0 := Aside0.mk hc0
 clear hr0 hc0
 have HB := Aside0.mk (Below.refl w.heap.size w)
 have H : (if 0 ≤ (l0.length : Int) then (if ((l0.length : Int) : Int).toNat ≤ 2345624805922 then (laws_toConstraintS.l0 k l0 (List.replicate ((l0.length : Int) : Int).toNat z37) 0) else (none)) else (none)) = some r := h
 clear h
 by_cases c2 : 0 ≤ (l0.length : Int)
 rw [if_pos c2] at H
 have c2b0 := eq_true c2
 have c2b1 : decide (0 ≤ (l0.length : Int)) = true := decide_eq_true c2
 clear c2
 by_cases c3 : ((l0.length : Int) : Int).toNat ≤ 2345624805922
 ·rw [if_pos c3] at H
  have c3b0 := eq_true c3
  have c3b1 : decide (((l0.length : Int) : Int).toNat ≤ 2345624805922) = true := decide_eq_true c3
  clear c3
  obtain ⟨y34001, hy34001⟩ : ∃ y_ : List (S37), y_ = (List.replicate ((l0.length : Int) : Int).toNat z37) := ⟨_, rfl⟩
  replace H : (laws_toConstraintS.l0 k l0 y34001 0) = some r := by first | (rw [hy34001]; with_reducible exact H) | (have H2_ := (Option.bind_some _ _).symm.trans H; rw [hy34001]; with_reducible exact H2_) | (have H2_ := (Option.bind_some _ _).symm.trans H; with_reducible exact H2_) | with_reducible exact H | (rw [hy34001]; exact H) | exact H
  have Ny34001 := Aside0.mk hy34001
  clear hy34001
  have H' := Aside0.mk H
  clear H
  go_enter Try.func34, Try.ntmps34
  go_wp2_with (first | ((with_reducible refine gate_dst (N := 7) rfl ?_); refine Kd.R_make k37 _ 37 rfl (N := 7) rfl 48 _ _ rfl (l0.length : Int) rfl rfl Try.underlying48 (.agg #[(.int .i64 0), (.string ⟨#[]⟩), (.string ⟨#[]⟩), (.int .i64 0), (.string ⟨#[]⟩), (.slice none 0 0), (.slice none 0 0), (.int .i64 0)]) 120 info37 rfl (by decide) (by omega) z37 (ok := fun _ => True) (okp := fun _ => True) (k37_mkM _ _ _ z37 (Kd.R_nil _ _ _ _ _) (Kd.R_nil _ _ _ _ _)) (fun _ hk => hk) trivial (of_decide_eq_true za7) (Nat.le_trans (Nat.mul_le_mul_right _ (of_decide_eq_true za7 : (l0.length : Int).toNat ≤ 2345624805922)) (by omega)) (Below.refl _ _) (Nat.le_refl _) ?_; intro v34002 w4 ho5 hb hg_ hnew_; clear hg_ hnew_; (first | rw [← Ny34001.out] at ho5 | (simp only [Int.reduceToNat] at ho5; rw [← Ny34001.out] at ho5)); have n0_ := Aside0.mk (Kd.R_lower ho5 (below_size za2)); have n1_ := Aside0.mk (below_step za2 hb); clear HB; have HO34003 := n0_; have HB := n1_; clear n0_ n1_; clear hb ho5))
  first | go_loopg [4] k (fun kq v4 w' => ∃ (x3_1 : List (S37)) (x4_1 : Int), v4 = .int .i64 x4_1 ∧ Aside0 (laws_toConstraintS.l0 kq l0 x3_1 x4_1 = some r) ∧ Aside0 (kq ≤ k) ∧ Aside0 (Kd.R k37 37 w' w.heap.size (fun _ => True) v34002 x3_1) ∧ Aside0 (Below w.heap.size w w')) | (simp only [Act.put, List.setIfInBounds_toArray, List.set_cons_succ, List.set_cons_zero]; go_loopg [4] k (fun kq v4 w' => ∃ (x3_1 : List (S37)) (x4_1 : Int), v4 = .int .i64 x4_1 ∧ Aside0 (laws_toConstraintS.l0 kq l0 x3_1 x4_1 = some r) ∧ Aside0 (kq ≤ k) ∧ Aside0 (Kd.R k37 37 w' w.heap.size (fun _ => True) v34002 x3_1) ∧ Aside0 (Below w.heap.size w w')))
  case atStart => exact ⟨(y34001), (0), za6, H', ⟨Nat.le_refl _⟩, ⟨za1 HO34003.out⟩, ⟨za2⟩⟩
  case round =>
   clear H'
   try clear c3
   try clear c3b0
   try clear c3b1
   obtain ⟨x3_1, x4_1, rfl, HA, HK1, HO_3, HB⟩ := hrel
   cases gk with
   | zero => exact absurd HA.out (by simp [laws_toConstraintS.l0])
   | succ k1 =>
   have H := HA.out
   clear HA
   simp only [laws_toConstraintS.l0] at H
   by_cases c6 : x4_1 < (l0.length : Int)
   rw [if_pos c6] at H
   have c6b0 : decide (x4_1 < (l0.length : Int)) = true := decide_eq_true c6
   clear c6
   by_cases c7 : 0 ≤ x4_1
   rw [if_pos c7] at H
   have c7b0 : decide (0 ≤ x4_1) = true := decide_eq_true c7
   clear c7
   replace H := Option.bind_eq_some_iff.mp H
   obtain ⟨⟨t34005, t34006, t34007, t34008, t34009, t34010, t34013, t34016⟩, A80, H⟩ := H
   replace H : (if x4_1 < (x3_1.length : Int) then (laws_toConstraintS.l0 k1 l0 (x3_1.set (x4_1 : Int).toNat (⟨t34005, t34006, t34007, (⟨t34008, t34009, t34010⟩ : S35), t34013, t34016⟩ : S37)) (wrap64 (x4_1 + 1))) else (none)) = some r := H
   have A8 := Aside0.mk A80
   clear A80
   by_cases c9 : x4_1 < (x3_1.length : Int)
   ·rw [if_pos c9] at H
    have c9b0 : decide (x4_1 < (x3_1.length : Int)) = true := decide_eq_true c9
    clear c9
    obtain ⟨y34017, hy34017⟩ : ∃ y_ : List (S37), y_ = (x3_1.set (x4_1 : Int).toNat (⟨t34005, t34006, t34007, (⟨t34008, t34009, t34010⟩ : S35), t34013, t34016⟩ : S37)) := ⟨_, rfl⟩
    replace H : (laws_toConstraintS.l0 k1 l0 y34017 (wrap64 (x4_1 + 1))) = some r := by first | (rw [hy34017]; with_reducible exact H) | (have H2_ := (Option.bind_some _ _).symm.trans H; rw [hy34017]; with_reducible exact H2_) | (have H2_ := (Option.bind_some _ _).symm.trans H; with_reducible exact H2_) | with_reducible exact H | (rw [hy34017]; exact H) | exact H
    have Ny34017 := Aside0.mk hy34017
    clear hy34017
    have H' := Aside0.mk H
    clear H
    have p34004 : 0 ≤ (x4_1 : Int) := of_decide_eq_true za7
    have q34004 : x4_1 < (l0.length : Int) := of_decide_eq_true za7
    obtain ⟨ad34004, A34004_5, c34004_5, A34004_6, c34004_6, e34004, hx34004_0, hx34004_1, hx34004_2, hx34004_3, hx34004_4, hx34004_5, hx34004_6, hx34004_7, hl34004_5, hi34004_5, hl34004_6, hi34004_6⟩ := at_T27 HR0.out x4_1 p34004 q34004
    cases e34004
    replace hx34004_0 := (HB.out.cell (World.block_lt_of_cell? w _ hx34004_0)).trans hx34004_0
    replace hx34004_1 := (HB.out.cell (World.block_lt_of_cell? w _ hx34004_1)).trans hx34004_1
    replace hx34004_2 := (HB.out.cell (World.block_lt_of_cell? w _ hx34004_2)).trans hx34004_2
    replace hx34004_3 := (HB.out.cell (World.block_lt_of_cell? w _ hx34004_3)).trans hx34004_3
    replace hx34004_4 := (HB.out.cell (World.block_lt_of_cell? w _ hx34004_4)).trans hx34004_4
    replace hx34004_5 := (HB.out.cell (World.block_lt_of_cell? w _ hx34004_5)).trans hx34004_5
    replace hx34004_6 := (HB.out.cell (World.block_lt_of_cell? w _ hx34004_6)).trans hx34004_6
    replace hx34004_7 := (HB.out.cell (World.block_lt_of_cell? w _ hx34004_7)).trans hx34004_7
    have HR34004_5 := Aside0.mk hi34004_5
    have HC34004_5 := Aside0.mk hl34004_5
    clear hi34004_5 hl34004_5
    have HR34004_6 := Aside0.mk hi34004_6
    have HC34004_6 := Aside0.mk hl34004_6
    clear hi34004_6 hl34004_6
    replace p34004 := eq_true p34004
    replace q34004 := eq_true q34004
    go_wp2_with (first | ((with_reducible refine gate_callee (f := 8) rfl ?_); refine goesL_ (some 20) rfl rfl Try.func8 (by kernel_rfl) rfl #[.agg #[.int .i64 ((rd_T27 l0 x4_1).f0), .string ((rd_T27 l0 x4_1).f1), .string ((rd_T27 l0 x4_1).f2), .int .i64 ((rd_T27 l0 x4_1).f3.f0), .string ((rd_T27 l0 x4_1).f3.f1), .slice A34004_5 ((rd_T27 l0 x4_1).f3.f2).length c34004_5, .slice A34004_6 ((rd_T27 l0 x4_1).f4).length c34004_6, .int .i64 ((rd_T27 l0 x4_1).f5)]] rfl za3 ?_; (with_reducible refine (laws_toConstraint.calls k1 ((rd_T27 l0 x4_1).f0) ((rd_T27 l0 x4_1).f1) ((rd_T27 l0 x4_1).f2) ((rd_T27 l0 x4_1).f3.f0) ((rd_T27 l0 x4_1).f3.f1) _ _ ((rd_T27 l0 x4_1).f3.f2) _ _ ((rd_T27 l0 x4_1).f4) ((rd_T27 l0 x4_1).f5) t34005 t34006 t34007 t34008 t34009 t34010 t34013 t34016 _ ?side1 ?side2 ?side3 ?side4 A8.out).mono ?_); (case side1 => repeat (first | exact (Kd.C_below HR34004_5.out HB.out) | (with_reducible refine Kd.C_alloc ?_ _) | (with_reducible refine Kd.C_drewN ?_ _) | (with_reducible refine Kd.C_drew ?_))); (case side2 => exact HC34004_5.out); (case side3 => repeat (first | exact (Kd.C_below HR34004_6.out HB.out) | (with_reducible refine Kd.C_alloc ?_ _) | (with_reducible refine Kd.C_drewN ?_ _) | (with_reducible refine Kd.C_drew ?_))); (case side4 => exact HC34004_6.out); rintro e w11 ⟨v34011, v34014, rfl, ho0, ho1, hb⟩; refine ⟨_, rfl, ?_⟩; have n0_ := Aside0.mk (Kd.R_mono (Kd.R_told (Kd.R_told (Kd.R_old (za1 HO_3.out) hb) (Kd.R_base ho0)) (Kd.R_base ho1)) (fun _ h_ => h_.1)); have n1_ := Aside0.mk (Kd.R_lower ho0 (below_size za2)); have n2_ := Aside0.mk (Kd.R_lower ho1 (below_size za2)); have n3_ := Aside0.mk (below_step za2 hb); clear HO_3; clear HB; have HO_3 := n0_; have HO34012 := n1_; have HO34015 := n2_; have HB := n3_; clear n0_ n1_ n2_ n3_; (try clear hb); (try clear hb2); (try clear hk); (try clear hi); (try clear ho0); (try clear ho1); have p10 : 0 ≤ (x4_1 : Int) := of_decide_eq_true za7; have q10 : (x4_1 : Int) < ((x3_1.length : Int) : Int) := of_decide_eq_true za7; obtain ⟨go10, co10, eo10, gb10, gl10, cl10, HG10⟩ := Kd.R_form HO_3.out (by omega); (first | cases eo10 | (injection eo10 with ea_ en_ ec_; (first | subst ea_ | (injection ea_ with ea_; subst ea_)); subst ec_; clear en_)); have GB10 := Aside0.mk gb10; have GG10 := Aside0.mk HG10; clear gb10 gl10 HG10; obtain ⟨ce10, hcl10, hM10, hcc10, hfr10⟩ := Kd.R_elem HO_3.out z37 (x4_1 : Int) p10 q10; obtain ⟨ve10_5, ve10_6, rfl, ge10_5, ge10_6⟩ := k37_openM hM10; have hx10_0 : w11.cell? ⟨go10, (x4_1 : Int).toNat * 8, none⟩ = some (.int .i64 ((rd_T37 x3_1 x4_1).f0)) := hcc10 0 _ rfl; have hx10_1 : w11.cell? ⟨go10, (x4_1 : Int).toNat * 8 + 1, none⟩ = some (.string ((rd_T37 x3_1 x4_1).f1)) := hcc10 1 _ rfl; have hx10_2 : w11.cell? ⟨go10, (x4_1 : Int).toNat * 8 + 2, none⟩ = some (.string ((rd_T37 x3_1 x4_1).f2)) := hcc10 2 _ rfl; have hx10_3 : w11.cell? ⟨go10, (x4_1 : Int).toNat * 8 + 3, none⟩ = some (.int .i64 ((rd_T37 x3_1 x4_1).f3.f0)) := hcc10 3 _ rfl; have hx10_4 : w11.cell? ⟨go10, (x4_1 : Int).toNat * 8 + 4, none⟩ = some (.string ((rd_T37 x3_1 x4_1).f3.f1)) := hcc10 4 _ rfl; have hx10_5 : w11.cell? ⟨go10, (x4_1 : Int).toNat * 8 + 5, none⟩ = some (ve10_5) := hcc10 5 _ rfl; have hx10_6 : w11.cell? ⟨go10, (x4_1 : Int).toNat * 8 + 6, none⟩ = some (ve10_6) := hcc10 6 _ rfl; have hx10_7 : w11.cell? ⟨go10, (x4_1 : Int).toNat * 8 + 7, none⟩ = some (.int .i64 ((rd_T37 x3_1 x4_1).f5)) := hcc10 7 _ rfl; have hf10_0 : w11.frozen? ⟨go10, (x4_1 : Int).toNat * 8, none⟩ = false := hfr10 0; have hf10_1 : w11.frozen? ⟨go10, (x4_1 : Int).toNat * 8 + 1, none⟩ = false := hfr10 1; have hf10_2 : w11.frozen? ⟨go10, (x4_1 : Int).toNat * 8 + 2, none⟩ = false := hfr10 2; have hf10_3 : w11.frozen? ⟨go10, (x4_1 : Int).toNat * 8 + 3, none⟩ = false := hfr10 3; have hf10_4 : w11.frozen? ⟨go10, (x4_1 : Int).toNat * 8 + 4, none⟩ = false := hfr10 4; have hf10_5 : w11.frozen? ⟨go10, (x4_1 : Int).toNat * 8 + 5, none⟩ = false := hfr10 5; have hf10_6 : w11.frozen? ⟨go10, (x4_1 : Int).toNat * 8 + 6, none⟩ = false := hfr10 6; have hf10_7 : w11.frozen? ⟨go10, (x4_1 : Int).toNat * 8 + 7, none⟩ = false := hfr10 7; clear hcl10 hcc10 hfr10; (try clear hM10); replace p10 := eq_true p10; replace q10 := eq_true q10; have n_ := Aside0.mk (Kd.R_mono (ok' := (fun k_ => some k_ ≠ (v34011 : Value).ownBlock ∧ some k_ ≠ (v34014 : Value).ownBlock)) HO_3.out (fun k_ hk => ⟨hk.1.2, hk.2⟩)); clear HO_3; have HO_3 := n_; clear n_; have HX12 := Aside0.mk (show Kd.R k37 37 w11 w.heap.size (fun _ => True) (.slice (some ⟨go10, 0, none⟩) x3_1.length co10) x3_1 from (by (with_reducible repeat (first | apply Kd.R_alloc | apply Kd.R_drewN | apply Kd.R_drew)); exact Kd.R_mono HO_3.out (fun _ hk => trivial))); obtain ⟨ce12, hcl12, hM12, hcc12, hfr12⟩ := Kd.R_elem HX12.out z37 (x4_1 : Int) (of_decide_eq_true za7) (by have h_ : (x4_1 : Int) < ((x3_1.length : Int) : Int) := of_decide_eq_true za7; first | exact h_ | (have e_ := (Kd.R_reads' HO_3.out).1; omega) | simpa using h_); obtain ⟨ve12_5, ve12_6, rfl, ge12_5, ge12_6⟩ := k37_openM hM12; have HP12 := Kd.R_seg HX12.out (x4_1 : Int) (of_decide_eq_true za7) (by have h_ : (x4_1 : Int) < ((x3_1.length : Int) : Int) := of_decide_eq_true za7; first | exact h_ | (have e_ := (Kd.R_reads' HO_3.out).1; omega) | simpa using h_) (seg := [.int .i64 t34005, .string t34006, .string t34007, .int .i64 t34008, .string t34009, v34011, v34014, .int .i64 t34016]) (j := 0) hcl12 hcc12 (show 8 ≤ 8 from by decide) (x' := (⟨t34005, t34006, t34007, (⟨t34008, t34009, t34010⟩ : S35), t34013, t34016⟩ : S37)) (k37_mkM _ _ _ (⟨t34005, t34006, t34007, (⟨t34008, t34009, t34010⟩ : S35), t34013, t34016⟩ : S37) (Kd.R_mono (Kd.R_apart' (HO34012.out) (Kd.R_typed HO_3.out) (by decide)) (fun k_ hk => ⟨trivial, fun e_ => (hk.2) (by rw [e_]; rfl)⟩)) (Kd.R_mono (Kd.R_apart' (HO34015.out) (Kd.R_typed HO_3.out) (by decide)) (fun k_ hk => ⟨trivial, fun e_ => (hk.2) (by rw [e_]; rfl)⟩))) (fun _ hk => hk); have hx12_0 := hcc12 0 _ rfl; (try simp only [show (k37).sz = 8 from rfl, Nat.mul_one, Nat.add_zero] at hx12_0); have hf12_0 := hfr12 0; (try simp only [show (k37).sz = 8 from rfl, Nat.mul_one, Nat.add_zero] at hf12_0); have hx12_1 := hcc12 1 _ rfl; (try simp only [show (k37).sz = 8 from rfl, Nat.mul_one, Nat.add_zero] at hx12_1); have hf12_1 := hfr12 1; (try simp only [show (k37).sz = 8 from rfl, Nat.mul_one, Nat.add_zero] at hf12_1); have hx12_2 := hcc12 2 _ rfl; (try simp only [show (k37).sz = 8 from rfl, Nat.mul_one, Nat.add_zero] at hx12_2); have hf12_2 := hfr12 2; (try simp only [show (k37).sz = 8 from rfl, Nat.mul_one, Nat.add_zero] at hf12_2); have hx12_3 := hcc12 3 _ rfl; (try simp only [show (k37).sz = 8 from rfl, Nat.mul_one, Nat.add_zero] at hx12_3); have hf12_3 := hfr12 3; (try simp only [show (k37).sz = 8 from rfl, Nat.mul_one, Nat.add_zero] at hf12_3); have hx12_4 := hcc12 4 _ rfl; (try simp only [show (k37).sz = 8 from rfl, Nat.mul_one, Nat.add_zero] at hx12_4); have hf12_4 := hfr12 4; (try simp only [show (k37).sz = 8 from rfl, Nat.mul_one, Nat.add_zero] at hf12_4); have hx12_5 := hcc12 5 _ rfl; (try simp only [show (k37).sz = 8 from rfl, Nat.mul_one, Nat.add_zero] at hx12_5); have hf12_5 := hfr12 5; (try simp only [show (k37).sz = 8 from rfl, Nat.mul_one, Nat.add_zero] at hf12_5); have hx12_6 := hcc12 6 _ rfl; (try simp only [show (k37).sz = 8 from rfl, Nat.mul_one, Nat.add_zero] at hx12_6); have hf12_6 := hfr12 6; (try simp only [show (k37).sz = 8 from rfl, Nat.mul_one, Nat.add_zero] at hf12_6); have hx12_7 := hcc12 7 _ rfl; (try simp only [show (k37).sz = 8 from rfl, Nat.mul_one, Nat.add_zero] at hx12_7); have hf12_7 := hfr12 7; (try simp only [show (k37).sz = 8 from rfl, Nat.mul_one, Nat.add_zero] at hf12_7); clear hcl12 hcc12 hfr12; (try clear hM12)) | ((with_reducible refine gate_store (t := 37) (p := 21) rfl ?_); refine store_event (t := 37) (p := 21) (v := ?vo_w13) (w1 := ((((((((w11.setCell ⟨go10, (x4_1 : Int).toNat * 8, none⟩ (.int .i64 t34005)).setCell ⟨go10, (x4_1 : Int).toNat * 8 + 1, none⟩ (.string t34006)).setCell ⟨go10, (x4_1 : Int).toNat * 8 + 2, none⟩ (.string t34007)).setCell ⟨go10, (x4_1 : Int).toNat * 8 + 3, none⟩ (.int .i64 t34008)).setCell ⟨go10, (x4_1 : Int).toNat * 8 + 4, none⟩ (.string t34009)).setCell ⟨go10, (x4_1 : Int).toNat * 8 + 5, none⟩ (v34011)).setCell ⟨go10, (x4_1 : Int).toNat * 8 + 6, none⟩ (v34014)).setCell ⟨go10, (x4_1 : Int).toNat * 8 + 7, none⟩ (.int .i64 t34016))) ?hg ?ho ?hn ?hr ?_; (case ho => rfl); (case hg => rfl); (case hn => rfl); (case hr => first | (go_simp; done) | (go_simp; rfl) | (obtain ⟨sA_, sc_, se_⟩ := Kd.R_slice HO34012.out; subst se_; first | (go_simp; done) | (go_simp; rfl)) | (obtain ⟨sA_, sc_, se_⟩ := Kd.R_slice HO34015.out; subst se_; first | (go_simp; done) | (go_simp; rfl)) | (obtain ⟨sA0_, sc0_, se0_⟩ := Kd.R_slice HO34012.out; subst se0_; obtain ⟨sA1_, sc1_, se1_⟩ := Kd.R_slice HO34015.out; subst se1_; first | (go_simp; done) | (go_simp; rfl))); intro w13 hw; have hg : w11.grownBy w13 (some go10) := (by rw [hw]; exact HP12.2); have hp_ : Kd.R k37 37 w13 w.heap.size (fun _ => True) (.slice (some ⟨go10, 0, none⟩) x3_1.length co10) y34017 := (by rw [hw, Ny34017.out]; exact HP12.1); clear HP12; have n0_ := Aside0.mk (hp_); have n1_ := Aside0.mk ((by rw [hw]; exact below_set (below_set (below_set (below_set (below_set (below_set (below_set (below_set (HB.out) GB10.out) GB10.out) GB10.out) GB10.out) GB10.out) GB10.out) GB10.out) GB10.out : Below w.heap.size w w13)); clear HO_3; clear HB; clear HO34012; clear HO34015; have HO_3 := n0_; have HB := n1_; clear n0_ n1_; clear hg hw hp_))
    go_roundg k1
    case measure => have := HK1.out; omega
    case rel => exact ⟨(y34017), (wrap64 (x4_1 + 1)), za6, H', ⟨za11⟩, ⟨za1 HO_3.out⟩, ⟨za2⟩⟩
   ·rw [if_neg c9] at H
    exact absurd H (by simp)
   ·rw [if_neg c7] at H
    exact absurd H (by simp)
   ·rw [if_neg c6] at H
    have c6b0 : decide (x4_1 < (l0.length : Int)) = false := decide_eq_false c6
    clear c6
    obtain rfl := Option.some.inj H
    go_wp2
    go_ret
    exact ⟨_, za5, za1 HO_3.out, za2⟩
 ·rw [if_neg c3] at H
  exact absurd H (by simp)
 ·rw [if_neg c2] at H
  exact absurd H (by simp)
end Go.Proofs.Ytffjfdoghofkdaa.A
namespace Go.Proofs.Ytffjfdoghofkdaa.A
open Go.RowKit Go.Proofs.Ytffjfdoghofkdaa.Ext Go.Proofs.YtffjfdoghofkdaaW.PrintWords Go.Proofs.YtffjfdoghofkdaaW.PrintLast Go.Proofs.YtffjfdoghofkdaaW.PrintMore
attribute [local go_sem] max2_int min2_int max_two min_two max_three min_three max_four min_four
def laws_eqConstraintS.l0 : Nat → List (S37) → List (S37) → Int → Option (Bool)
 | 0, _, _, _ => none
 | k + 1, x0, x1, x5 => if x5 < (x0.length : Int) then (if 0 ≤ x5 then (if x5 < (x1.length : Int) then ((laws_eqConstraint.f k ((rd_T37 x0 x5).f0) ((rd_T37 x0 x5).f1) ((rd_T37 x0 x5).f2) ((rd_T37 x0 x5).f3.f0) ((rd_T37 x0 x5).f3.f1) ((rd_T37 x0 x5).f3.f2) ((rd_T37 x0 x5).f4) ((rd_T37 x0 x5).f5) ((rd_T37 x1 x5).f0) ((rd_T37 x1 x5).f1) ((rd_T37 x1 x5).f2) ((rd_T37 x1 x5).f3.f0) ((rd_T37 x1 x5).f3.f1) ((rd_T37 x1 x5).f3.f2) ((rd_T37 x1 x5).f4) ((rd_T37 x1 x5).f5)).bind fun t40003 => (if t40003 = true then (laws_eqConstraintS.l0 k x0 x1 (wrap64 (x5 + 1))) else (some false))) else (none)) else (none)) else (some true)
def laws_eqConstraintS.f (k : Nat) (l0 : List (S37)) (l1 : List (S37)) : Option (Bool) := if (l0.length : Int) = (l1.length : Int) then (laws_eqConstraintS.l0 k l0 l1 0) else (some false)
theorem laws_eqConstraintS.mono_l : ∀ k, (∀ y0 y1 y2, LeO (laws_eqConstraintS.l0 k y0 y1 y2) (laws_eqConstraintS.l0 (k + 1) y0 y1 y2))
 | 0 => fun _ _ _ r h => by simp [laws_eqConstraintS.l0] at h
 | k + 1 => by
  have ih0 := laws_eqConstraintS.mono_l k
  ·intro y0 y1 y2
   unfold laws_eqConstraintS.l0
   repeat' first
   | with_reducible first | exact ih0 _ _ _ | exact laws_eqConstraint.mono _ _ _ _ _ _ _ _ _ _ _ _ _ _ _ _ _ | exact LeO.refl _ | exact LeO.none _ | refine LeO.ite ?_ ?_ | refine LeO.bind ?_ (fun _ => ?_)
theorem laws_eqConstraintS.mono : ∀ a0 a1 k, LeO (laws_eqConstraintS.f k a0 a1) (laws_eqConstraintS.f (k + 1) a0 a1) := by
 intro a0 a1 k
 have ih0 := laws_eqConstraintS.mono_l k
 unfold laws_eqConstraintS.f
 repeat' first
   | with_reducible first | exact ih0 _ _ _ | exact laws_eqConstraint.mono _ _ _ _ _ _ _ _ _ _ _ _ _ _ _ _ _ | exact LeO.refl _ | exact LeO.none _ | refine LeO.ite ?_ ?_ | refine LeO.bind ?_ (fun _ => ?_)
def laws_eqConstraintS.T6 : Bool × List (List Nat × List Nat) := (true, [([], []), ([], []), ([0, 1], [0, 1]), ([2], [2]), ([], []), ([], []), ([4, 5], [4, 5]), ([6], [6]), ([3, 7], [3, 7]), ([8], [8])])
def laws_eqConstraintS.B6 : List Nat := [0, 0, 3, 7, 0, 0, 48, 112, 255, 511]
theorem laws_eqConstraintS.tab6 : rtab .any (opsOf Try.f40 6) = laws_eqConstraintS.T6 := by kernel_rfl
theorem laws_eqConstraintS.bits6 : waitsOk laws_eqConstraintS.T6.2 laws_eqConstraintS.B6 = true := by kernel_rfl
theorem laws_eqConstraintS.calls (k : Nat) (A0 : Option Addr) (c0 : Nat) (l0 : List (S37)) (A1 : Option Addr) (c1 : Nat) (l1 : List (S37)) (r : Bool) (w : World) (hr0 : Kd.C k37 w A0 l0.length l0) (hc0 : l0.length ≤ c0) (hr1 : Kd.C k37 w A1 l1.length l1) (hc1 : l1.length ≤ c1) (h : laws_eqConstraintS.f k l0 l1 = some r) :
  Calls Try.prog 40 #[.slice A0 l0.length c0, .slice A1 l1.length c1] w fun e w' => e = .returned (.bool r) ∧ Below w.heap.size w w' := by
 have hu37 := Try.underlying37
 have HR0 := Aside0.mk hr0
 have HC0 := Aside0.mk hc0
 clear hr0 hc0
 have HR1 := Aside0.mk hr1
 have HC1 := Aside0.mk hc1
 clear hr1 hc1
 have HB := Aside0.mk (Below.refl w.heap.size w)
 have H : (if (l0.length : Int) = (l1.length : Int) then (laws_eqConstraintS.l0 k l0 l1 0) else (some false)) = some r := h
 clear h
 by_cases c3 : (l0.length : Int) = (l1.length : Int)
 ·rw [if_pos c3] at H
  have c3b0 : ((l0.length : Int) == (l1.length : Int)) = true := beq_iff_eq.mpr c3
  have c3b1 : ((l0.length : Int) != (l1.length : Int)) = false := bne_eq_false_iff_eq.mpr c3
  have c3b2 : (l0.length == l1.length) = true := by first | simpa using c3 | (simp at c3 ⊢; omega)
  clear c3
  have H' := Aside0.mk H
  clear H
  go_enter Try.func40, Try.ntmps40
  go_wp2
  first | go_loopg [5] k (fun kq v5 w' => ∃ (x5_1 : Int), v5 = .int .i64 x5_1 ∧ Aside0 (laws_eqConstraintS.l0 kq l0 l1 x5_1 = some r) ∧ Aside0 (kq ≤ k) ∧ Aside0 (Below w.heap.size w w')) | (simp only [Act.put, List.setIfInBounds_toArray, List.set_cons_succ, List.set_cons_zero]; go_loopg [5] k (fun kq v5 w' => ∃ (x5_1 : Int), v5 = .int .i64 x5_1 ∧ Aside0 (laws_eqConstraintS.l0 kq l0 l1 x5_1 = some r) ∧ Aside0 (kq ≤ k) ∧ Aside0 (Below w.heap.size w w')))
  case atStart => exact ⟨(0), za6, H', ⟨Nat.le_refl _⟩, ⟨za2⟩⟩
  case round =>
   clear H'
   try clear c3
   try clear c3b0
   try clear c3b1
   try clear c3b2
   obtain ⟨x5_1, rfl, HA, HK1, HB⟩ := hrel
   cases gk with
   | zero => exact absurd HA.out (by simp [laws_eqConstraintS.l0])
   | succ k1 =>
   have H := HA.out
   clear HA
   simp only [laws_eqConstraintS.l0] at H
   by_cases c4 : x5_1 < (l0.length : Int)
   rw [if_pos c4] at H
   have c4b0 : decide (x5_1 < (l0.length : Int)) = true := decide_eq_true c4
   clear c4
   by_cases c5 : 0 ≤ x5_1
   rw [if_pos c5] at H
   have c5b0 : decide (0 ≤ x5_1) = true := decide_eq_true c5
   clear c5
   by_cases c6 : x5_1 < (l1.length : Int)
   rw [if_pos c6] at H
   have c6b0 : decide (x5_1 < (l1.length : Int)) = true := decide_eq_true c6
   clear c6
   replace H := Option.bind_eq_some_iff.mp H
   obtain ⟨t40003, A70, H⟩ := H
   replace H : (if t40003 = true then (laws_eqConstraintS.l0 k1 l0 l1 (wrap64 (x5_1 + 1))) else (some false)) = some r := H
   have A7 := Aside0.mk A70
   clear A70
   by_cases c8 : t40003 = true
   subst c8
   have H1 : (laws_eqConstraintS.l0 k1 l0 l1 (wrap64 (x5_1 + 1))) = some r := by rw [if_pos rfl] at H; exact H
   clear H
   have H := H1
   clear H1
   have H' := Aside0.mk H
   clear H
   have fin1_ := Aside0.mk trivial
   rotate_left
   replace c8 := Bool.eq_false_iff.mpr c8
   subst c8
   have H1 : (some false) = some r := by rw [if_neg (show ¬ (false = true) by decide)] at H; exact H
   clear H
   have H := H1
   clear H1
   obtain rfl := Option.some.inj H
   have fin0_ := Aside0.mk trivial
   rotate_left
   ·rw [if_neg c6] at H
    exact absurd H (by simp)
   ·rw [if_neg c5] at H
    exact absurd H (by simp)
   ·rw [if_neg c4] at H
    have c4b0 : decide (x5_1 < (l0.length : Int)) = false := decide_eq_false c4
    clear c4
    obtain rfl := Option.some.inj H
    go_wp2
    go_ret
    exact ⟨za5, za2⟩
   all_goals
    try go_wp2
    have n0_ := Aside0.mk (below_drew1 HB.out)
    clear HB
    have HB := n0_
    clear n0_
    have p40001 : 0 ≤ (x5_1 : Int) := of_decide_eq_true za7
    have q40001 : x5_1 < (l0.length : Int) := of_decide_eq_true za7
    obtain ⟨ad40001, A40001_5, c40001_5, A40001_6, c40001_6, e40001, hx40001_0, hx40001_1, hx40001_2, hx40001_3, hx40001_4, hx40001_5, hx40001_6, hx40001_7, hl40001_5, hi40001_5, hl40001_6, hi40001_6⟩ := at_T37 HR0.out x5_1 p40001 q40001
    have hw40001_7 := hx40001_7
    have hw40001_6 := hx40001_6
    have hw40001_5 := hx40001_5
    have hw40001_4 := hx40001_4
    have hw40001_3 := hx40001_3
    have hw40001_2 := hx40001_2
    have hw40001_1 := hx40001_1
    have hw40001_0 := hx40001_0
    cases e40001
    replace hx40001_0 := (HB.out.cell (World.block_lt_of_cell? w _ hx40001_0)).trans hx40001_0
    replace hx40001_1 := (HB.out.cell (World.block_lt_of_cell? w _ hx40001_1)).trans hx40001_1
    replace hx40001_2 := (HB.out.cell (World.block_lt_of_cell? w _ hx40001_2)).trans hx40001_2
    replace hx40001_3 := (HB.out.cell (World.block_lt_of_cell? w _ hx40001_3)).trans hx40001_3
    replace hx40001_4 := (HB.out.cell (World.block_lt_of_cell? w _ hx40001_4)).trans hx40001_4
    replace hx40001_5 := (HB.out.cell (World.block_lt_of_cell? w _ hx40001_5)).trans hx40001_5
    replace hx40001_6 := (HB.out.cell (World.block_lt_of_cell? w _ hx40001_6)).trans hx40001_6
    replace hx40001_7 := (HB.out.cell (World.block_lt_of_cell? w _ hx40001_7)).trans hx40001_7
    have HR40001_5 := Aside0.mk hi40001_5
    have HC40001_5 := Aside0.mk hl40001_5
    clear hi40001_5 hl40001_5
    have HR40001_6 := Aside0.mk hi40001_6
    have HC40001_6 := Aside0.mk hl40001_6
    clear hi40001_6 hl40001_6
    replace p40001 := eq_true p40001
    replace q40001 := eq_true q40001
    have p40002 : 0 ≤ (x5_1 : Int) := of_decide_eq_true za7
    have q40002 : x5_1 < (l1.length : Int) := of_decide_eq_true za7
    obtain ⟨ad40002, A40002_5, c40002_5, A40002_6, c40002_6, e40002, hx40002_0, hx40002_1, hx40002_2, hx40002_3, hx40002_4, hx40002_5, hx40002_6, hx40002_7, hl40002_5, hi40002_5, hl40002_6, hi40002_6⟩ := at_T37 HR1.out x5_1 p40002 q40002
    have hw40002_7 := hx40002_7
    have hw40002_6 := hx40002_6
    have hw40002_5 := hx40002_5
    have hw40002_4 := hx40002_4
    have hw40002_3 := hx40002_3
    have hw40002_2 := hx40002_2
    have hw40002_1 := hx40002_1
    have hw40002_0 := hx40002_0
    cases e40002
    replace hx40002_0 := (HB.out.cell (World.block_lt_of_cell? w _ hx40002_0)).trans hx40002_0
    replace hx40002_1 := (HB.out.cell (World.block_lt_of_cell? w _ hx40002_1)).trans hx40002_1
    replace hx40002_2 := (HB.out.cell (World.block_lt_of_cell? w _ hx40002_2)).trans hx40002_2
    replace hx40002_3 := (HB.out.cell (World.block_lt_of_cell? w _ hx40002_3)).trans hx40002_3
    replace hx40002_4 := (HB.out.cell (World.block_lt_of_cell? w _ hx40002_4)).trans hx40002_4
    replace hx40002_5 := (HB.out.cell (World.block_lt_of_cell? w _ hx40002_5)).trans hx40002_5
    replace hx40002_6 := (HB.out.cell (World.block_lt_of_cell? w _ hx40002_6)).trans hx40002_6
    replace hx40002_7 := (HB.out.cell (World.block_lt_of_cell? w _ hx40002_7)).trans hx40002_7
    have HR40002_5 := Aside0.mk hi40002_5
    have HC40002_5 := Aside0.mk hl40002_5
    clear hi40002_5 hl40002_5
    have HR40002_6 := Aside0.mk hi40002_6
    have HC40002_6 := Aside0.mk hl40002_6
    clear hi40002_6 hl40002_6
    replace p40002 := eq_true p40002
    replace q40002 := eq_true q40002
    refine start_ (n := 10) (S := fun w' => w'.cell? (ad40001.add ((x5_1).toNat * 8)) = some (.int .i64 ((rd_T37 l0 x5_1).f0)) ∧ w'.cell? ⟨(ad40001.add ((x5_1).toNat * 8)).block, (ad40001.add ((x5_1).toNat * 8)).off + 1, none⟩ = some (.string ((rd_T37 l0 x5_1).f1)) ∧ w'.cell? ⟨(ad40001.add ((x5_1).toNat * 8)).block, (ad40001.add ((x5_1).toNat * 8)).off + 2, none⟩ = some (.string ((rd_T37 l0 x5_1).f2)) ∧ w'.cell? ⟨(ad40001.add ((x5_1).toNat * 8)).block, (ad40001.add ((x5_1).toNat * 8)).off + 3, none⟩ = some (.int .i64 ((rd_T37 l0 x5_1).f3.f0)) ∧ w'.cell? ⟨(ad40001.add ((x5_1).toNat * 8)).block, (ad40001.add ((x5_1).toNat * 8)).off + 4, none⟩ = some (.string ((rd_T37 l0 x5_1).f3.f1)) ∧ w'.cell? ⟨(ad40001.add ((x5_1).toNat * 8)).block, (ad40001.add ((x5_1).toNat * 8)).off + 5, none⟩ = some (.slice A40001_5 ((rd_T37 l0 x5_1).f3.f2).length c40001_5) ∧ w'.cell? ⟨(ad40001.add ((x5_1).toNat * 8)).block, (ad40001.add ((x5_1).toNat * 8)).off + 6, none⟩ = some (.slice A40001_6 ((rd_T37 l0 x5_1).f4).length c40001_6) ∧ w'.cell? ⟨(ad40001.add ((x5_1).toNat * 8)).block, (ad40001.add ((x5_1).toNat * 8)).off + 7, none⟩ = some (.int .i64 ((rd_T37 l0 x5_1).f5)) ∧ w'.cell? (ad40002.add ((x5_1).toNat * 8)) = some (.int .i64 ((rd_T37 l1 x5_1).f0)) ∧ w'.cell? ⟨(ad40002.add ((x5_1).toNat * 8)).block, (ad40002.add ((x5_1).toNat * 8)).off + 1, none⟩ = some (.string ((rd_T37 l1 x5_1).f1)) ∧ w'.cell? ⟨(ad40002.add ((x5_1).toNat * 8)).block, (ad40002.add ((x5_1).toNat * 8)).off + 2, none⟩ = some (.string ((rd_T37 l1 x5_1).f2)) ∧ w'.cell? ⟨(ad40002.add ((x5_1).toNat * 8)).block, (ad40002.add ((x5_1).toNat * 8)).off + 3, none⟩ = some (.int .i64 ((rd_T37 l1 x5_1).f3.f0)) ∧ w'.cell? ⟨(ad40002.add ((x5_1).toNat * 8)).block, (ad40002.add ((x5_1).toNat * 8)).off + 4, none⟩ = some (.string ((rd_T37 l1 x5_1).f3.f1)) ∧ w'.cell? ⟨(ad40002.add ((x5_1).toNat * 8)).block, (ad40002.add ((x5_1).toNat * 8)).off + 5, none⟩ = some (.slice A40002_5 ((rd_T37 l1 x5_1).f3.f2).length c40002_5) ∧ w'.cell? ⟨(ad40002.add ((x5_1).toNat * 8)).block, (ad40002.add ((x5_1).toNat * 8)).off + 6, none⟩ = some (.slice A40002_6 ((rd_T37 l1 x5_1).f4).length c40002_6) ∧ w'.cell? ⟨(ad40002.add ((x5_1).toNat * 8)).block, (ad40002.add ((x5_1).toNat * 8)).off + 7, none⟩ = some (.int .i64 ((rd_T37 l1 x5_1).f5))) (ds := []) #[false, false, false, false, false, false, false, false, false, false] (by kernel_rfl) rfl rfl ⟨((HB.out.cell (World.block_lt_of_cell? w _ hw40001_0)).trans hw40001_0), ((HB.out.cell (World.block_lt_of_cell? w _ hw40001_1)).trans hw40001_1), ((HB.out.cell (World.block_lt_of_cell? w _ hw40001_2)).trans hw40001_2), ((HB.out.cell (World.block_lt_of_cell? w _ hw40001_3)).trans hw40001_3), ((HB.out.cell (World.block_lt_of_cell? w _ hw40001_4)).trans hw40001_4), ((HB.out.cell (World.block_lt_of_cell? w _ hw40001_5)).trans hw40001_5), ((HB.out.cell (World.block_lt_of_cell? w _ hw40001_6)).trans hw40001_6), ((HB.out.cell (World.block_lt_of_cell? w _ hw40001_7)).trans hw40001_7), ((HB.out.cell (World.block_lt_of_cell? w _ hw40002_0)).trans hw40002_0), ((HB.out.cell (World.block_lt_of_cell? w _ hw40002_1)).trans hw40002_1), ((HB.out.cell (World.block_lt_of_cell? w _ hw40002_2)).trans hw40002_2), ((HB.out.cell (World.block_lt_of_cell? w _ hw40002_3)).trans hw40002_3), ((HB.out.cell (World.block_lt_of_cell? w _ hw40002_4)).trans hw40002_4), ((HB.out.cell (World.block_lt_of_cell? w _ hw40002_5)).trans hw40002_5), ((HB.out.cell (World.block_lt_of_cell? w _ hw40002_6)).trans hw40002_6), ((HB.out.cell (World.block_lt_of_cell? w _ hw40002_7)).trans hw40002_7)⟩ (fun hHeld => ?_); refine with_tabW laws_eqConstraintS.tab6 laws_eqConstraintS.bits6 (fun HT_ HW_ => ?_)
    generalize wr.drew = w11 at HB HR40001_5 HR40001_6 HR40002_5 HR40002_6 hx40001_0 hx40001_1 hx40001_2 hx40001_3 hx40001_4 hx40001_5 hx40001_6 hx40001_7 hx40002_0 hx40002_1 hx40002_2 hx40002_3 hx40002_4 hx40002_5 hx40002_6 hx40002_7 hHeld ⊢
    refine pure_ (i := 0) (N := some 17) (v := ?_) (a' := ?_) #[true, false, false, false, false, false, false, false, false, false] rfl rfl (any_of HT_.out (by kernel_rfl)) (fun _ _ _ h => h) (Or.inl ⟨by rfl, ?_⟩) ?_ ?_
    rotate_left
    ·intro w'
     go_simp
     first | with_reducible rfl | (rw [if_neg (by omega)]; done)
    rotate_left
    ·simp only [Act.put, List.setIfInBounds_toArray, List.set_cons_zero, List.set_cons_succ, i64_w, i32_w]
     rfl
    refine pure_ (i := 1) (N := some 18) (v := ?_) (a' := ?_) #[true, true, false, false, false, false, false, false, false, false] rfl rfl (any_of HT_.out (by kernel_rfl)) (fun _ _ _ h => h) (Or.inl ⟨by rfl, ?_⟩) ?_ ?_
    rotate_left
    ·intro w'
     go_simp
     first | with_reducible rfl | (rw [if_neg (by omega)]; done)
    rotate_left
    ·simp only [Act.put, List.setIfInBounds_toArray, List.set_cons_zero, List.set_cons_succ, i64_w, i32_w]
     rfl
    refine pure_ (i := 2) (N := some 19) (v := ?_) (a' := ?_) #[true, true, true, false, false, false, false, false, false, false] rfl rfl (any_of HT_.out (by kernel_rfl)) (fun _ _ _ h => h) (Or.inl ⟨by rfl, ?_⟩) ?_ ?_
    rotate_left
    ·intro w'
     go_simp
     first | with_reducible rfl | (rw [if_neg (by omega)]; done)
    rotate_left
    ·simp only [Act.put, List.setIfInBounds_toArray, List.set_cons_zero, List.set_cons_succ, i64_w, i32_w]
     rfl
    refine pure_ (i := 4) (N := some 21) (v := ?_) (a' := ?_) #[true, true, true, false, true, false, false, false, false, false] rfl rfl (any_of HT_.out (by kernel_rfl)) (fun _ _ _ h => h) (Or.inl ⟨by rfl, ?_⟩) ?_ ?_
    rotate_left
    ·intro w'
     go_simp
     first | with_reducible rfl | (rw [if_neg (by omega)]; done)
    rotate_left
    ·simp only [Act.put, List.setIfInBounds_toArray, List.set_cons_zero, List.set_cons_succ, i64_w, i32_w]
     rfl
    refine pure_ (i := 5) (N := some 22) (v := ?_) (a' := ?_) #[true, true, true, false, true, true, false, false, false, false] rfl rfl (any_of HT_.out (by kernel_rfl)) (fun _ _ _ h => h) (Or.inl ⟨by rfl, ?_⟩) ?_ ?_
    rotate_left
    ·intro w'
     go_simp
     first | with_reducible rfl | (rw [if_neg (by omega)]; done)
    rotate_left
    ·simp only [Act.put, List.setIfInBounds_toArray, List.set_cons_zero, List.set_cons_succ, i64_w, i32_w]
     rfl
    refine pure_ (i := 6) (N := some 23) (v := ?_) (a' := ?_) #[true, true, true, false, true, true, true, false, false, false] rfl rfl (any_of HT_.out (by kernel_rfl)) (fun _ _ _ h => h) (Or.inl ⟨by rfl, ?_⟩) ?_ ?_
    rotate_left
    ·intro w'
     go_simp
     first | with_reducible rfl | (rw [if_neg (by omega)]; done)
    rotate_left
    ·simp only [Act.put, List.setIfInBounds_toArray, List.set_cons_zero, List.set_cons_succ, i64_w, i32_w]
     rfl
    refine take_ (i := 3) (N := some 20) (v := ?_) (a' := ?_) #[true, true, true, true, true, true, true, false, false, false] rfl rfl (take_ofW HT_.out HW_.out (by kernel_rfl)) (fun _ _ _ h => h) (Or.inl ⟨by rfl, ?_⟩) hHeld ?_ ?_
    rotate_left
    ·rintro w' ⟨s0, s1, s2, s3, s4, s5, s6, s7, s8, s9, s10, s11, s12, s13, s14, s15⟩
     go_simp
     first | with_reducible rfl | (rw [if_neg (by omega)]; done)
    rotate_left
    ·simp only [Act.put, List.setIfInBounds_toArray, List.set_cons_zero, List.set_cons_succ, i64_w, i32_w]
     rfl
    refine take_ (i := 7) (N := some 24) (v := ?_) (a' := ?_) #[true, true, true, true, true, true, true, true, false, false] rfl rfl (take_ofW HT_.out HW_.out (by kernel_rfl)) (fun _ _ _ h => h) (Or.inl ⟨by rfl, ?_⟩) hHeld ?_ ?_
    rotate_left
    ·rintro w' ⟨s0, s1, s2, s3, s4, s5, s6, s7, s8, s9, s10, s11, s12, s13, s14, s15⟩
     go_simp
     first | with_reducible rfl | (rw [if_neg (by omega)]; done)
    rotate_left
    ·simp only [Act.put, List.setIfInBounds_toArray, List.set_cons_zero, List.set_cons_succ, i64_w, i32_w]
     rfl
    refine one_ (i := 8) (N := some 25) #[true, true, true, true, true, true, true, true, true, false] rfl rfl (one_of HT_.out (by kernel_rfl)) (by decide) (fun K hK => ?_)
    refine goes_ Try.func11 (by kernel_rfl) rfl #[.agg #[.int .i64 ((rd_T37 l0 x5_1).f0), .string ((rd_T37 l0 x5_1).f1), .string ((rd_T37 l0 x5_1).f2), .int .i64 ((rd_T37 l0 x5_1).f3.f0), .string ((rd_T37 l0 x5_1).f3.f1), .slice A40001_5 ((rd_T37 l0 x5_1).f3.f2).length c40001_5, .slice A40001_6 ((rd_T37 l0 x5_1).f4).length c40001_6, .int .i64 ((rd_T37 l0 x5_1).f5)], .agg #[.int .i64 ((rd_T37 l1 x5_1).f0), .string ((rd_T37 l1 x5_1).f1), .string ((rd_T37 l1 x5_1).f2), .int .i64 ((rd_T37 l1 x5_1).f3.f0), .string ((rd_T37 l1 x5_1).f3.f1), .slice A40002_5 ((rd_T37 l1 x5_1).f3.f2).length c40002_5, .slice A40002_6 ((rd_T37 l1 x5_1).f4).length c40002_6, .int .i64 ((rd_T37 l1 x5_1).f5)]] (by rfl) rfl rfl za3 ?_
    with_reducible refine (laws_eqConstraint.calls k1 ((rd_T37 l0 x5_1).f0) ((rd_T37 l0 x5_1).f1) ((rd_T37 l0 x5_1).f2) ((rd_T37 l0 x5_1).f3.f0) ((rd_T37 l0 x5_1).f3.f1) _ _ ((rd_T37 l0 x5_1).f3.f2) _ _ ((rd_T37 l0 x5_1).f4) ((rd_T37 l0 x5_1).f5) ((rd_T37 l1 x5_1).f0) ((rd_T37 l1 x5_1).f1) ((rd_T37 l1 x5_1).f2) ((rd_T37 l1 x5_1).f3.f0) ((rd_T37 l1 x5_1).f3.f1) _ _ ((rd_T37 l1 x5_1).f3.f2) _ _ ((rd_T37 l1 x5_1).f4) ((rd_T37 l1 x5_1).f5) _ _ ?side1 ?side2 ?side3 ?side4 ?side5 ?side6 ?side7 ?side8 A7.out).mono ?_
    (case side1 => repeat (first | exact (Kd.C_below HR40001_5.out HB.out) | (with_reducible refine Kd.C_alloc ?_ _) | (with_reducible refine Kd.C_drewN ?_ _) | (with_reducible refine Kd.C_drew ?_)))
    (case side2 => exact HC40001_5.out)
    (case side3 => repeat (first | exact (Kd.C_below HR40001_6.out HB.out) | (with_reducible refine Kd.C_alloc ?_ _) | (with_reducible refine Kd.C_drewN ?_ _) | (with_reducible refine Kd.C_drew ?_)))
    (case side4 => exact HC40001_6.out)
    (case side5 => repeat (first | exact (Kd.C_below HR40002_5.out HB.out) | (with_reducible refine Kd.C_alloc ?_ _) | (with_reducible refine Kd.C_drewN ?_ _) | (with_reducible refine Kd.C_drew ?_)))
    (case side6 => exact HC40002_5.out)
    (case side7 => repeat (first | exact (Kd.C_below HR40002_6.out HB.out) | (with_reducible refine Kd.C_alloc ?_ _) | (with_reducible refine Kd.C_drewN ?_ _) | (with_reducible refine Kd.C_drew ?_)))
    (case side8 => exact HC40002_6.out)
    rintro e w12 ⟨rfl, hb⟩
    refine ⟨_, rfl, ?_⟩
    have n0_ := Aside0.mk (below_step za2 hb)
    clear HB
    have HB := n0_
    clear n0_
    (try clear hb)
    (try clear hb2)
    (try clear hk)
    (try clear hi)
    refine hK.out _ _ ⟨((HB.out.cell (World.block_lt_of_cell? w _ hw40001_0)).trans hw40001_0), ((HB.out.cell (World.block_lt_of_cell? w _ hw40001_1)).trans hw40001_1), ((HB.out.cell (World.block_lt_of_cell? w _ hw40001_2)).trans hw40001_2), ((HB.out.cell (World.block_lt_of_cell? w _ hw40001_3)).trans hw40001_3), ((HB.out.cell (World.block_lt_of_cell? w _ hw40001_4)).trans hw40001_4), ((HB.out.cell (World.block_lt_of_cell? w _ hw40001_5)).trans hw40001_5), ((HB.out.cell (World.block_lt_of_cell? w _ hw40001_6)).trans hw40001_6), ((HB.out.cell (World.block_lt_of_cell? w _ hw40001_7)).trans hw40001_7), ((HB.out.cell (World.block_lt_of_cell? w _ hw40002_0)).trans hw40002_0), ((HB.out.cell (World.block_lt_of_cell? w _ hw40002_1)).trans hw40002_1), ((HB.out.cell (World.block_lt_of_cell? w _ hw40002_2)).trans hw40002_2), ((HB.out.cell (World.block_lt_of_cell? w _ hw40002_3)).trans hw40002_3), ((HB.out.cell (World.block_lt_of_cell? w _ hw40002_4)).trans hw40002_4), ((HB.out.cell (World.block_lt_of_cell? w _ hw40002_5)).trans hw40002_5), ((HB.out.cell (World.block_lt_of_cell? w _ hw40002_6)).trans hw40002_6), ((HB.out.cell (World.block_lt_of_cell? w _ hw40002_7)).trans hw40002_7)⟩ (fun hHeld => ?_)
    clear hK K
    refine norm_ (a' := ?_) ?_ ?_
    rotate_left
    ·show Act.put _ (some 25) _ = _
     simp only [Act.put, List.setIfInBounds_toArray, List.set_cons_zero, List.set_cons_succ, i64_w, i32_w]
     rfl
    refine pure_ (i := 9) (N := some 26) (v := ?_) (a' := ?_) #[true, true, true, true, true, true, true, true, true, true] rfl rfl (any_of HT_.out (by kernel_rfl)) (fun _ _ _ h => h) (Or.inl ⟨by rfl, ?_⟩) ?_ ?_
    rotate_left
    ·intro w'
     go_simp
     first | with_reducible rfl | (rw [if_neg (by omega)]; done)
    rotate_left
    ·simp only [Act.put, List.setIfInBounds_toArray, List.set_cons_zero, List.set_cons_succ, i64_w, i32_w]
     rfl
    refine done_ (done_of HT_.out (by kernel_rfl)) ?_
    try go_wp2
    first
    | (
     clear fin0_
     go_ret
     exact ⟨za5, za2⟩)
    | (
     clear fin1_
     go_roundg k1
     case measure => have := HK1.out; omega
     case rel => exact ⟨(wrap64 (x5_1 + 1)), za6, H', ⟨za11⟩, ⟨za2⟩⟩)
 ·rw [if_neg c3] at H
  have c3b0 : ((l0.length : Int) == (l1.length : Int)) = false := beq_eq_false_iff_ne.mpr c3
  have c3b1 : ((l0.length : Int) != (l1.length : Int)) = true := bne_iff_ne.mpr c3
  have c3b2 : (l0.length == l1.length) = false := by first | simpa using c3 | (simp at c3 ⊢; omega)
  obtain rfl := Option.some.inj H
  go_enter Try.func40, Try.ntmps40
  go_wp2
  go_ret
  exact ⟨za5, za2⟩
end Go.Proofs.Ytffjfdoghofkdaa.A
