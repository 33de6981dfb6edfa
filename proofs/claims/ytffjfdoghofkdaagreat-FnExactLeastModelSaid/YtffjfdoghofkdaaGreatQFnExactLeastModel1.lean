/- FnExactLeastModel: what its proof needs, put together by this session's program wip/merge.py out of the texts that wip/xp.py printed and of this session's own. -/
import Derived.Test.YtffjfdoghofkdaaGreatQFnExactLeastModel0
import Derived.Test.YtffjfdoghofkdaaGreatProg
import Derived.Lib.Bytealg
import Derived.Lib.Walk
import Derived.Below
import Derived.Deep.Draws
import Derived.Deep.AppendLies
import Derived.Maps.AppendAt
import Derived.OwnWalk
import Derived.Laws.BytesArg
import Derived.Laws.MakeOwn
import Derived.Laws.OwnMore
import Derived.Deep.OwnRows
import Derived.Tactics
import Derived.Lib.ConvBytes
import Derived.Laws.Slices
import Derived.WalkKit
import Derived.KernelRfl
import Derived.RowKit3
import Derived.Deep.LoopGhost
import Derived.Deep.QuietTactic
import Derived.BigQuiet
import Derived.WideLaws
import Derived.Deep.DeepCutAuto
import Derived.Deep.CutBlock
import Derived.Deep.RegionHeld3
import Derived.Laws.Rows
import Derived.Lib.AppendStr
import Derived.ArgAppend
import Derived.Laws.IdiomCopy
import Derived.OrdersHeld
import Derived.Laws.BitsLemmas
import Derived.RowKit
set_option linter.unusedVariables false
set_option linter.unusedSimpArgs false
set_option linter.unusedSectionVars false
set_option maxHeartbeats 8000000
set_option maxRecDepth 100000
namespace Go.Proofs.YtffjfdoghofkdaaGreat
open Go Go.RowKit Go.Proofs.YtffjfdoghofkdaaGreatW.PrintWords
theorem zk {P : Prop} (h : P) : Aside0 P := ⟨h⟩
theorem zE {P : Program} {ops : Array Oper} {rest : List Oper} {o : Oper} {a : Act} {Q : Exit → Act → World → Prop} {W : World} {N : Tmp} {cs : Array Value} {t : TypeId} (h : ∀ g, g = W.heap.size → ∀ w1, w1.heap[g]? = some (.cells cs t (0, 0)) → Below W.heap.size W w1 → wpList P ops Q rest (a.put o.dst (.pointer (some ⟨g, 0, none⟩))) w1) (hgd : o.guard = none := by rfl) (hd : o.dst = some N := by rfl) (hr : (execOp a.eval o).run P W = .ok (.value (.pointer (some ⟨W.heap.size, 0, none⟩))) (W.alloc (.cells cs t (0, 0))) := by first | (go_simp; done) | (go_simp; rfl)) : wpList P ops Q (o :: rest) a W := box_event hgd hd hr h
theorem zb {W0 W1 W2 : World} {g : Nat} {o : Obj} (h : W0.heap[g]? = some o) (hb : Below W1.heap.size W1 W2) (f : W0.heap[g]? = some o → W1.heap[g]? = some o := by intro h_; (with_reducible repeat (first | refine blk_drewN ?_ _ | refine blk_drew ?_ | refine blk_alloc ?_ _)); exact h_) : W2.heap[g]? = some o := blk_below (f h) hb
theorem zl {W0 W1 : World} {g : Nat} {o : Obj} (h : W0.heap[g]? = some o) (f : W0.heap[g]? = some o → W1.heap[g]? = some o := by intro h_; (with_reducible repeat (first | refine blk_drewN ?_ _ | refine blk_drew ?_ | refine blk_alloc ?_ _)); exact h_) : g < W1.heap.size := blk_lt (f h)
theorem zo {α β : Type} {o : Option α} {f : α → Option β} {b : β} (h : o.bind f = some b) : ∃ a, o = some a ∧ f a = some b := Option.bind_eq_some_iff.mp h
theorem zi {α : Type} {a b : α} (h : some a = some b) : a = b := Option.some.inj h
theorem zt {α : Type} (l : List α) (i : Nat) (a : α) : l.toArray.setIfInBounds i a = (l.set i a).toArray := List.setIfInBounds_toArray l i a
theorem zu {α : Type} {x : α} {l : List α} {a : α} : (x :: l).set 0 a = a :: l := List.set_cons_zero
theorem zv {α : Type} {x : α} {l : List α} {n : Nat} {a : α} : (x :: l).set (n + 1) a = x :: l.set n a := List.set_cons_succ
theorem zs {w W : World} {g : Nat} (hg : g = W.heap.size) (hb : Below w.heap.size w W) : w.heap.size ≤ g := by
 rw [hg]
 exact below_size hb
theorem zx {w W : World} {a : Addr} {v : Value} (hB : Below w.heap.size w W) (h : w.cell? a = some v) : W.cell? a = some v := (hB.cell (World.block_lt_of_cell? w _ h)).trans h
theorem za0 {P Q : Prop} (h : Q) (f : Q → P := by intro h_; (with_reducible repeat (first | refine blk_drewN ?_ _ | refine blk_drew ?_ | refine blk_alloc ?_ _)); exact h_) : P := f h
theorem za1 {P Q : Prop} (h : Q) (f : Q → P := by intro h_; (with_reducible repeat (first | apply Kd.R_alloc | apply Kd.R_drewN | apply Kd.R_drew)); exact h_) : P := f h
theorem za2 {P Q : Prop} (h : Q) (f : Q → P := by intro h_; (with_reducible repeat (first | refine blk_drewN ?_ _ | refine blk_drew ?_ | refine blk_alloc ?_ _)); refine blk_put (cs := #[.string a0_0, .string a0_1, .string (⟨#[]⟩ : ByteArray)]) ?_ 2 _ rfl; (with_reducible repeat (first | refine blk_drewN ?_ _ | refine blk_drew ?_ | refine blk_alloc ?_ _)); refine blk_put (cs := #[.string a0_0, .string (⟨#[]⟩ : ByteArray), .string (⟨#[]⟩ : ByteArray)]) ?_ 1 _ rfl; (with_reducible repeat (first | refine blk_drewN ?_ _ | refine blk_drew ?_ | refine blk_alloc ?_ _)); refine blk_put (cs := #[.string (⟨#[]⟩ : ByteArray), .string (⟨#[]⟩ : ByteArray), .string (⟨#[]⟩ : ByteArray)]) ?_ 0 _ rfl; (with_reducible repeat (first | refine blk_drewN ?_ _ | refine blk_drew ?_ | refine blk_alloc ?_ _)); exact h_) : P := f h
theorem za3 {P Q : Prop} (h : Q) (f : Q → P := by intro h_; (with_reducible repeat (first | refine blk_drewN ?_ _ | refine blk_drew ?_ | refine blk_alloc ?_ _)); refine blk_put (cs := #[.string (⟨#[]⟩ : ByteArray), .string (⟨#[]⟩ : ByteArray), .string (⟨#[]⟩ : ByteArray)]) ?_ 2 _ rfl; (with_reducible repeat (first | refine blk_drewN ?_ _ | refine blk_drew ?_ | refine blk_alloc ?_ _)); refine blk_put (cs := #[.string (⟨#[]⟩ : ByteArray), .string (⟨#[]⟩ : ByteArray), .string (⟨#[]⟩ : ByteArray)]) ?_ 1 _ rfl; (with_reducible repeat (first | refine blk_drewN ?_ _ | refine blk_drew ?_ | refine blk_alloc ?_ _)); refine blk_put (cs := #[.string (⟨#[]⟩ : ByteArray), .string (⟨#[]⟩ : ByteArray), .string (⟨#[]⟩ : ByteArray)]) ?_ 0 _ rfl; (with_reducible repeat (first | refine blk_drewN ?_ _ | refine blk_drew ?_ | refine blk_alloc ?_ _)); exact h_) : P := f h
theorem za4 {P : Prop} (h : P := by repeat (first | (with_reducible first | exact HB.out | apply below_alloc | apply pw_below_drewN | apply below_drew1 | refine below_set ?_ (Aside0.out (by assumption))) | exact HB.out)) : P := h
theorem za5 {P : Prop} (h : P := by (try simp only [List.map_toArray, List.map_cons, List.map_nil]); first | done | rfl | (simp only [List.length_drop, List.length_take]; rfl)) : P := h
theorem za6 {P : Prop} (h : P := by (try simp only [decide_eq_true_eq, decide_eq_false_iff_not, eq_iff_iff, iff_true, iff_false] at *); (try simp only [ByteArray.size_extract, ByteArray.size_append, show (⟨#[97, 98, 99]⟩ : ByteArray).size = 3 from rfl, show (⟨#[88, 89, 90]⟩ : ByteArray).size = 3 from rfl, show (⟨#[61]⟩ : ByteArray).size = 1 from rfl] at *); omega) : P := h
theorem za7 {P : Prop} (h : P := by first | rfl | (simp [errW_none, errW_some] <;> rfl) | (simp [*, errW_none, errW_some] <;> rfl)) : P := h
theorem za8 {P : Prop} (h : P := by first | rfl | (simp; done) | (simp [*]; done)) : P := h
theorem za9 {P : Prop} (h : P := by first | (with_reducible assumption) | assumption) : P := h
theorem za10 {P : Prop} (h : P := by repeat (first | (with_reducible first | exact HB.out | apply below_alloc | apply pw_below_drewN | apply below_drew1 | refine below_set ?_ GE10001.out) | exact HB.out)) : P := h
theorem za11 {P : Prop} (h : P := by repeat (first | exact Drawn0.refl _ | apply Drawn0.step)) : P := h
theorem za12 {P : Prop} (h : P := by repeat (first | (with_reducible first | exact HK.out | apply Kept.alloc | apply Kept.drewN | apply Kept.drew | refine Kept.setCell ?_ (.inr GW38001.out) _ | refine Kept.setCell ?_ (.inr GW38002.out) _) | exact HK.out)) : P := h
theorem za13 {P : Prop} (h : P := by (with_reducible repeat (first | refine blk_drewN ?_ _ | refine blk_drew ?_ | refine blk_alloc ?_ _)); refine blk_put (cs := #[.string ((rd_T32 t11004 x15_1).f0), .string ((rd_T32 t11004 x15_1).f1), .string (⟨#[]⟩ : ByteArray)]) ?_ 2 _ rfl; (with_reducible repeat (first | refine blk_drewN ?_ _ | refine blk_drew ?_ | refine blk_alloc ?_ _)); refine blk_put (cs := #[.string ((rd_T32 t11004 x15_1).f0), .string (⟨#[]⟩ : ByteArray), .string (⟨#[]⟩ : ByteArray)]) ?_ 1 _ rfl; (with_reducible repeat (first | refine blk_drewN ?_ _ | refine blk_drew ?_ | refine blk_alloc ?_ _)); refine blk_put (cs := #[.string (⟨#[]⟩ : ByteArray), .string (⟨#[]⟩ : ByteArray), .string (⟨#[]⟩ : ByteArray)]) ?_ 0 _ rfl; (with_reducible repeat (first | refine blk_drewN ?_ _ | refine blk_drew ?_ | refine blk_alloc ?_ _)); exact BK11008.out) : P := h
theorem za14 {P : Prop} (h : P := by first | exact HBc.out | exact below_drew HBc.out | exact pw_below_drewN HBc.out _) : P := h
theorem za15 {P : Prop} (h : P := by (with_reducible repeat (first | refine blk_drewN ?_ _ | refine blk_drew ?_ | refine blk_alloc ?_ _)); refine blk_far ?_ NB11002_11003.out _; (with_reducible repeat (first | refine blk_drewN ?_ _ | refine blk_drew ?_ | refine blk_alloc ?_ _)); refine blk_far ?_ NB11002_11003.out _; (with_reducible repeat (first | refine blk_drewN ?_ _ | refine blk_drew ?_ | refine blk_alloc ?_ _)); refine blk_far ?_ NB11002_11003.out _; (with_reducible repeat (first | refine blk_drewN ?_ _ | refine blk_drew ?_ | refine blk_alloc ?_ _)); exact BK11002.out) : P := h
theorem za16 {P : Prop} (h : P := by (with_reducible repeat (first | refine blk_drewN ?_ _ | refine blk_drew ?_ | refine blk_alloc ?_ _)); refine blk_put (cs := #[.int .i64 ((rd_T65 l0_2 x38_3).f0), .string ((rd_T65 l0_2 x38_3).f1), .slice none 0 0]) ?_ 2 _ rfl; (with_reducible repeat (first | refine blk_drewN ?_ _ | refine blk_drew ?_ | refine blk_alloc ?_ _)); refine blk_put (cs := #[.int .i64 ((rd_T65 l0_2 x38_3).f0), .string (⟨#[]⟩ : ByteArray), .slice none 0 0]) ?_ 1 _ rfl; (with_reducible repeat (first | refine blk_drewN ?_ _ | refine blk_drew ?_ | refine blk_alloc ?_ _)); refine blk_put (cs := #[.int .i64 0, .string (⟨#[]⟩ : ByteArray), .slice none 0 0]) ?_ 0 _ rfl; (with_reducible repeat (first | refine blk_drewN ?_ _ | refine blk_drew ?_ | refine blk_alloc ?_ _)); exact BK125005.out) : P := h
theorem za17 {P : Prop} (h : P := by have := HK1.out; omega) : P := h
theorem za18 {P : Prop} (h : P := by (with_reducible repeat (first | refine blk_drewN ?_ _ | refine blk_drew ?_ | refine blk_alloc ?_ _)); refine blk_far ?_ NB125001_125005.out _; (with_reducible repeat (first | refine blk_drewN ?_ _ | refine blk_drew ?_ | refine blk_alloc ?_ _)); refine blk_far ?_ NB125001_125005.out _; (with_reducible repeat (first | refine blk_drewN ?_ _ | refine blk_drew ?_ | refine blk_alloc ?_ _)); refine blk_far ?_ NB125001_125005.out _; (with_reducible repeat (first | refine blk_drewN ?_ _ | refine blk_drew ?_ | refine blk_alloc ?_ _)); exact BK125001.out) : P := h
theorem za19 {P : Prop} (h : P := by (with_reducible repeat (first | refine blk_drewN ?_ _ | refine blk_drew ?_ | refine blk_alloc ?_ _)); refine blk_far ?_ NB11003_11008.out _; (with_reducible repeat (first | refine blk_drewN ?_ _ | refine blk_drew ?_ | refine blk_alloc ?_ _)); refine blk_far ?_ NB11003_11008.out _; (with_reducible repeat (first | refine blk_drewN ?_ _ | refine blk_drew ?_ | refine blk_alloc ?_ _)); refine blk_far ?_ NB11003_11008.out _; (with_reducible repeat (first | refine blk_drewN ?_ _ | refine blk_drew ?_ | refine blk_alloc ?_ _)); exact BK11003.out) : P := h
theorem za20 {P : Prop} (h : P := by (with_reducible repeat (first | refine blk_drewN ?_ _ | refine blk_drew ?_ | refine blk_alloc ?_ _)); refine blk_far ?_ NB11002_11008.out _; (with_reducible repeat (first | refine blk_drewN ?_ _ | refine blk_drew ?_ | refine blk_alloc ?_ _)); refine blk_far ?_ NB11002_11008.out _; (with_reducible repeat (first | refine blk_drewN ?_ _ | refine blk_drew ?_ | refine blk_alloc ?_ _)); refine blk_far ?_ NB11002_11008.out _; (with_reducible repeat (first | refine blk_drewN ?_ _ | refine blk_drew ?_ | refine blk_alloc ?_ _)); exact BK11002.out) : P := h
theorem za21 {P : Prop} (h : P := by (with_reducible repeat (first | refine blk_drewN ?_ _ | refine blk_drew ?_ | refine blk_alloc ?_ _)); refine blk_far ?_ NB11001_11008.out _; (with_reducible repeat (first | refine blk_drewN ?_ _ | refine blk_drew ?_ | refine blk_alloc ?_ _)); refine blk_far ?_ NB11001_11008.out _; (with_reducible repeat (first | refine blk_drewN ?_ _ | refine blk_drew ?_ | refine blk_alloc ?_ _)); refine blk_far ?_ NB11001_11008.out _; (with_reducible repeat (first | refine blk_drewN ?_ _ | refine blk_drew ?_ | refine blk_alloc ?_ _)); exact BK11001.out) : P := h
theorem za22 {P : Prop} (h : P := by (with_reducible repeat (first | refine blk_drewN ?_ _ | refine blk_drew ?_ | refine blk_alloc ?_ _)); refine blk_far ?_ NB11001_11003.out _; (with_reducible repeat (first | refine blk_drewN ?_ _ | refine blk_drew ?_ | refine blk_alloc ?_ _)); refine blk_far ?_ NB11001_11003.out _; (with_reducible repeat (first | refine blk_drewN ?_ _ | refine blk_drew ?_ | refine blk_alloc ?_ _)); refine blk_far ?_ NB11001_11003.out _; (with_reducible repeat (first | refine blk_drewN ?_ _ | refine blk_drew ?_ | refine blk_alloc ?_ _)); exact BK11001.out) : P := h
theorem za23 {P : Prop} (h : P := by (with_reducible repeat (first | apply Kd.R_alloc | apply Kd.R_drewN | apply Kd.R_drew)); exact Kd.R_mono (Kd.R_far (p := ⟨gb11008, 2, none⟩) (Kd.R_far (p := ⟨gb11008, 1, none⟩) (Kd.R_far (p := ⟨gb11008, 0, none⟩) (Kd.R_mono HO_13.out (fun k_ hk => (⟨hk, hk.2⟩ : _ ∧ k_ ≠ gb11008))) (fun _ hk => hk.2) (.string ((rd_T32 t11004 x15_1).f0))) (fun _ hk => hk.2) (.string ((rd_T32 t11004 x15_1).f1))) (fun _ hk => hk.2) (.string ((rd_T32 t11004 x15_1).f2))) (fun _ hk => ⟨hk.1.1.1, ⟨hk.1.1.2, hk.1.2⟩⟩)) : P := h
theorem za24 {P : Prop} (h : P := by (with_reducible repeat (first | refine blk_drewN ?_ _ | refine blk_drew ?_ | refine blk_alloc ?_ _)); refine blk_put (cs := #[.string ((rd_T32 t11004 x15_1).f0), .string ((rd_T32 t11004 x15_1).f1), .string x11004002_1]) ?_ 2 _ rfl; (with_reducible repeat (first | refine blk_drewN ?_ _ | refine blk_drew ?_ | refine blk_alloc ?_ _)); refine blk_put (cs := #[.string ((rd_T32 t11004 x15_1).f0), .string x11004001_1, .string x11004002_1]) ?_ 1 _ rfl; (with_reducible repeat (first | refine blk_drewN ?_ _ | refine blk_drew ?_ | refine blk_alloc ?_ _)); refine blk_put (cs := #[.string x11004000_1, .string x11004001_1, .string x11004002_1]) ?_ 0 _ rfl; (with_reducible repeat (first | refine blk_drewN ?_ _ | refine blk_drew ?_ | refine blk_alloc ?_ _)); exact BK11003.out) : P := h
theorem za25 {P : Prop} (h : P := by have := HN.out; omega) : P := h
theorem za26 {P : Prop} (h : P := by first | omega | exact Nat.le_refl _) : P := h
theorem za27 {P : Prop} (h : P := by (with_reducible repeat (first | refine blk_drewN ?_ _ | refine blk_drew ?_ | refine blk_alloc ?_ _)); refine blk_far ?_ NB86002_86003.out _; (with_reducible repeat (first | refine blk_drewN ?_ _ | refine blk_drew ?_ | refine blk_alloc ?_ _)); refine blk_far ?_ NB86002_86003.out _; (with_reducible repeat (first | refine blk_drewN ?_ _ | refine blk_drew ?_ | refine blk_alloc ?_ _)); refine blk_far ?_ NB86002_86003.out _; (with_reducible repeat (first | refine blk_drewN ?_ _ | refine blk_drew ?_ | refine blk_alloc ?_ _)); exact BK86002.out) : P := h
theorem za28 {P : Prop} (h : P := by (with_reducible repeat (first | refine blk_drewN ?_ _ | refine blk_drew ?_ | refine blk_alloc ?_ _)); refine blk_far ?_ NB86001_86003.out _; (with_reducible repeat (first | refine blk_drewN ?_ _ | refine blk_drew ?_ | refine blk_alloc ?_ _)); refine blk_far ?_ NB86001_86003.out _; (with_reducible repeat (first | refine blk_drewN ?_ _ | refine blk_drew ?_ | refine blk_alloc ?_ _)); refine blk_far ?_ NB86001_86003.out _; (with_reducible repeat (first | refine blk_drewN ?_ _ | refine blk_drew ?_ | refine blk_alloc ?_ _)); exact BK86001.out) : P := h
theorem za29 {P : Prop} (h : P := by (with_reducible repeat (first | refine blk_drewN ?_ _ | refine blk_drew ?_ | refine blk_alloc ?_ _)); refine blk_put (cs := #[.int .i64 a0_0, .string (⟨#[]⟩ : ByteArray), .slice none 0 0]) ?_ 1 _ rfl; (with_reducible repeat (first | refine blk_drewN ?_ _ | refine blk_drew ?_ | refine blk_alloc ?_ _)); refine blk_put (cs := #[.int .i64 0, .string (⟨#[]⟩ : ByteArray), .slice none 0 0]) ?_ 0 _ rfl; (with_reducible repeat (first | refine blk_drewN ?_ _ | refine blk_drew ?_ | refine blk_alloc ?_ _)); exact BK120003.out) : P := h
theorem za30 {P : Prop} (h : P := by (with_reducible repeat (first | apply Kd.R_alloc | apply Kd.R_drewN | apply Kd.R_drew)); exact Kd.R_mono HO_3.out (fun _ hk => hk.2)) : P := h
theorem za31 {P : Prop} (h : P := by repeat (first | (with_reducible first | exact HK.out | apply Kept.alloc | apply Kept.drewN | apply Kept.drew | refine Kept.setCell ?_ (.inr GW38001.out) _) | exact HK.out)) : P := h
theorem za32 {P : Prop} (h : P := by (with_reducible repeat (first | apply Kd.R_alloc | apply Kd.R_drewN | apply Kd.R_drew)); exact Kd.R_mono (Kd.R_far (p := ⟨gb11003, 2, none⟩) (Kd.R_far (p := ⟨gb11003, 1, none⟩) (Kd.R_far (p := ⟨gb11003, 0, none⟩) (Kd.R_mono HO_13.out (fun k_ hk => (⟨hk, hk.2.1⟩ : _ ∧ k_ ≠ gb11003))) (fun _ hk => hk.2) (.string ((rd_T32 t11004 x15_1).f0))) (fun _ hk => hk.2) (.string ((rd_T32 t11004 x15_1).f1))) (fun _ hk => hk.2) (.string ((rd_T32 t11004 x15_1).f2))) (fun _ hk => ⟨hk.1.1, hk.1.2.1⟩)) : P := h
theorem za33 {P : Prop} (h : P := by have := HW.out; have := N3.out; omega) : P := h
theorem za34 {P : Prop} (h : P := by (with_reducible repeat (first | refine blk_drewN ?_ _ | refine blk_drew ?_ | refine blk_alloc ?_ _)); refine blk_far ?_ NB120002_120003.out _; (with_reducible repeat (first | refine blk_drewN ?_ _ | refine blk_drew ?_ | refine blk_alloc ?_ _)); refine blk_far ?_ NB120002_120003.out _; (with_reducible repeat (first | refine blk_drewN ?_ _ | refine blk_drew ?_ | refine blk_alloc ?_ _)); exact BK120002.out) : P := h
theorem za35 {P : Prop} (h : P := by (with_reducible repeat (first | apply Kd.R_alloc | apply Kd.R_drewN | apply Kd.R_drew)); exact (Kd.R_mono (Kd.R_far (p := ⟨gb5010, 2, none⟩) (Kd.R_far (p := ⟨gb5010, 1, none⟩) (Kd.R_far (p := ⟨gb5010, 0, none⟩) (Kd.R_types HO5005.out BK5010.out (by decide)) (fun _ hk => hk.2) (.string t5006)) (fun _ hk => hk.2) (.string t5007)) (fun _ hk => hk.2) (.string t5008)) (fun _ h_ => h_.1))) : P := h
theorem za36 {P : Prop} (h : P := by repeat (first | (with_reducible first | exact HK.out | apply Kept.alloc | apply Kept.drewN | apply Kept.drew) | exact HK.out)) : P := h
theorem za37 {P : Prop} (h : P := by repeat (first | (with_reducible first | exact HB.out | apply below_alloc | apply pw_below_drewN | apply below_drew1) | exact HB.out)) : P := h
theorem za38 {P : Prop} (h : P := by (with_reducible repeat (first | apply Kd.R_alloc | apply Kd.R_drewN | apply Kd.R_drew)); exact (Kd.R_mono (Kd.R_far (p := ⟨gb5014, 0, none⟩) (Kd.R_types HO5013.out BK5014.out (by decide)) (fun _ hk => hk.2) (.slice Ao26 t5011.length co26)) (fun _ h_ => h_.1))) : P := h
theorem za39 {P : Prop} (h : P := by have := HJ1.out; first | omega | exact Nat.le_refl _) : P := h
theorem za40 {P : Prop} (h : P := by first | rfl | (rw [e1]; done) | (rw [e2]; done) | (simp; done)) : P := h
theorem za41 {P : Prop} (h : P := by rw [← add_field _ _ 2 (by omega)]; exact hc 2 _ rfl) : P := h
theorem za42 {P : Prop} (h : P := by rw [← add_field _ _ 1 (by omega)]; exact hc 1 _ rfl) : P := h
theorem za43 {P : Prop} (h : P := by rw [e id (Nat.le_refl _) (by omega)]; exact h.1 i j) : P := h
theorem za44 {P : Prop} (h : P := by rw [bytesOf_length]; omega) : P := h
theorem za45 {P : Prop} (h : P := by repeat (first | exact HK.out | apply Kept.alloc | apply Kept.drewN | apply Kept.drew)) : P := h
theorem za46 {P : Prop} (h : P := by have := HK1.out; have := HK2.out; have := HK3.out; omega) : P := h
theorem za47 {P : Prop} (h : P := by have := HJ2.out; have := HJ8.out; have := HK3.out; omega) : P := h
theorem za48 {P : Prop} (h : P := by have := HQ.out; omega) : P := h
theorem za49 {P : Prop} (h : P := by repeat (first | exact B3.out | apply pw_below_drewN)) : P := h
theorem za50 {P : Prop} (h : P := by have := HK2.out; omega) : P := h
theorem za51 {P : Prop} (h : P := by have := G3.out; have := N3.out; omega) : P := h
theorem za52 {P : Prop} (h : P := by first | exact Kd.R_nil _ _ _ _ _ | exact Kd.N_nil _ _ _ _ _ | exact Kd.V_nil _ _ _ _ _ | exact Kd.Q_nil _ _ _ _ _ | exact Kd.S_nil _ _ _ _ _) : P := h
theorem za53 {P : Prop} (h : P := by (with_reducible repeat (first | apply Kd.R_alloc | apply Kd.R_drewN | apply Kd.R_drew)); exact Kd.R_mono HO5013.out (fun _ hk => trivial)) : P := h
theorem za54 {P : Prop} (h : P := by first | rfl | (simp; done)) : P := h
end Go.Proofs.YtffjfdoghofkdaaGreat
namespace Go.Proofs.YtffjfdoghofkdaaGreat.Ext
open Go.RowKit YtffjfdoghofkdaaGreatW.PrintWords
theorem blk1 {w:World} {g:Nat} {t:TypeId} {a0:Value} (h:w.heap[g]? = some (.cells #[a0] t (0,0))):w.cell? ⟨g,0,none⟩=some a0∧w.frozen? ⟨g,0,none⟩=false:=⟨(blk_cell h 0).trans rfl,blk_frozen h 0⟩
theorem blk3 {w:World} {g:Nat} {t:TypeId} {a0 a1 a2:Value} (h:w.heap[g]? = some (.cells #[a0,a1,a2] t (0,0))):w.cell? ⟨g,0,none⟩=some a0∧w.cell? ⟨g,1,none⟩=some a1∧w.cell? ⟨g,2,none⟩=some a2∧w.frozen? ⟨g,0,none⟩=false∧w.frozen? ⟨g,1,none⟩=false∧w.frozen? ⟨g,2,none⟩=false:=⟨(blk_cell h 0).trans rfl,(blk_cell h 1).trans rfl,(blk_cell h 2).trans rfl,blk_frozen h 0,blk_frozen h 1,blk_frozen h 2⟩
theorem blk4 {w:World} {g:Nat} {t:TypeId} {a0 a1 a2 a3:Value} (h:w.heap[g]? = some (.cells #[a0,a1,a2,a3] t (0,0))):w.cell? ⟨g,0,none⟩=some a0∧w.cell? ⟨g,1,none⟩=some a1∧w.cell? ⟨g,2,none⟩=some a2∧w.cell? ⟨g,3,none⟩=some a3∧w.frozen? ⟨g,0,none⟩=false∧w.frozen? ⟨g,1,none⟩=false∧w.frozen? ⟨g,2,none⟩=false∧w.frozen? ⟨g,3,none⟩=false:=⟨(blk_cell h 0).trans rfl,(blk_cell h 1).trans rfl,(blk_cell h 2).trans rfl,(blk_cell h 3).trans rfl,blk_frozen h 0,blk_frozen h 1,blk_frozen h 2,blk_frozen h 3⟩
theorem blk8 {w:World} {g:Nat} {t:TypeId} {a0 a1 a2 a3 a4 a5 a6 a7:Value} (h:w.heap[g]? = some (.cells #[a0,a1,a2,a3,a4,a5,a6,a7] t (0,0))):w.cell? ⟨g,0,none⟩=some a0∧w.cell? ⟨g,1,none⟩=some a1∧w.cell? ⟨g,2,none⟩=some a2∧w.cell? ⟨g,3,none⟩=some a3∧w.cell? ⟨g,4,none⟩=some a4∧w.cell? ⟨g,5,none⟩=some a5∧w.cell? ⟨g,6,none⟩=some a6∧w.cell? ⟨g,7,none⟩=some a7∧w.frozen? ⟨g,0,none⟩=false∧w.frozen? ⟨g,1,none⟩=false∧w.frozen? ⟨g,2,none⟩=false∧w.frozen? ⟨g,3,none⟩=false∧w.frozen? ⟨g,4,none⟩=false∧w.frozen? ⟨g,5,none⟩=false∧w.frozen? ⟨g,6,none⟩=false∧w.frozen? ⟨g,7,none⟩=false:=⟨(blk_cell h 0).trans rfl,(blk_cell h 1).trans rfl,(blk_cell h 2).trans rfl,(blk_cell h 3).trans rfl,(blk_cell h 4).trans rfl,(blk_cell h 5).trans rfl,(blk_cell h 6).trans rfl,(blk_cell h 7).trans rfl,blk_frozen h 0,blk_frozen h 1,blk_frozen h 2,blk_frozen h 3,blk_frozen h 4,blk_frozen h 5,blk_frozen h 6,blk_frozen h 7⟩
-- EXT strings.IndexByte
def strings_IndexByte.f (s:ByteArray) (c:Int):Option Int:=some (Lib.indexByte s.data.toList c.toNat.toUInt8)
theorem stringslite_run (s:ByteArray) (c:Int) (w:World) :
  Calls Tryz.prog 103 #[.string s,.int .u8 c] w fun e w'=>e = .returned (.int .i64 (Lib.indexByte s.data.toList c.toNat.toUInt8))∧w'=w:=by
 go_enter Tryz.func103,Tryz.ntmps103
 go_wp2
 rw [run_callFunc_extern Tryz.func131 (by kernel_rfl) (by kernel_rfl) (by kernel_rfl) (e:=Extern.BytealgIndexByte.indexByte) (by kernel_rfl),Lib.run_indexByteString]
 simp only [Result.andThen]
 rw [Oper.upon_value]
 go_wp2
 go_ret
 exact ⟨rfl,rfl⟩
theorem strings_IndexByte.calls (s:ByteArray) (c:Int) (r:Int) (w:World) (h:strings_IndexByte.f s c=some r) :
  Calls Tryz.prog 75 #[.string s,.int .u8 c] w fun e w'=>e = .returned (.int .i64 r)∧Drawn0 w w':=by
 obtain rfl:=zi h
 go_enter Tryz.func75,Tryz.ntmps75
 go_wp2_with (go_at_call 103;refine (stringslite_run _ _ _).mono ?_;rintro e w' ⟨rfl,rfl⟩)
 go_ret
 exact ⟨rfl,Drawn0.refl _⟩
end Go.Proofs.YtffjfdoghofkdaaGreat.Ext
namespace Go.Proofs.YtffjfdoghofkdaaGreat.A
open Go.RowKit YtffjfdoghofkdaaGreat.Ext YtffjfdoghofkdaaGreatW.PrintWords YtffjfdoghofkdaaGreatW.PrintLast YtffjfdoghofkdaaGreatW.PrintMore
attribute [local go_sem] max2_int min2_int max_two min_two max_three min_three max_four min_four
def errW:Option Int→Value
 | none => .nilIface
 | some c => .iface 0 (.int .i64 c)
theorem errW_none:errW none = .nilIface:=rfl
theorem errW_some (c:Int):errW (some c) = .iface 0 (.int .i64 c):=rfl
theorem info3:(Tryz.prog.info? 3).map (fun i=>(i.zero,i.size,i.bytes))=some (some (.int .i64 0),1,8):=by kernel_rfl
theorem info5:(Tryz.prog.info? 5).map (fun i=>(i.zero,i.size,i.bytes))=some (some (.int .u8 0),1,1):=by kernel_rfl
theorem info9:(Tryz.prog.info? 9).map (fun i=>(i.zero,i.size,i.bytes))=some (some (.string ⟨#[]⟩),1,16):=by kernel_rfl
theorem info32:(Tryz.prog.info? 32).map (fun i=>(i.zero,i.size,i.bytes))=some (some (.agg #[(.string ⟨#[]⟩),(.string ⟨#[]⟩),(.string ⟨#[]⟩)]),3,48):=by kernel_rfl
theorem info65:(Tryz.prog.info? 65).map (fun i=>(i.zero,i.size,i.bytes))=some (some (.agg #[(.int .i64 0),(.string ⟨#[]⟩),(.slice none 0 0)]),3,48):=by kernel_rfl
theorem info67:(Tryz.prog.info? 67).map (fun i=>(i.zero,i.size,i.bytes))=some (some (.agg #[(.int .i64 0),(.string ⟨#[]⟩),(.string ⟨#[]⟩),(.int .i64 0),(.string ⟨#[]⟩),(.slice none 0 0),(.slice none 0 0),(.int .i64 0)]),8,120):=by kernel_rfl
-- the values' own types
/-! #### struct type 65, nested in itself -/
structure S65 where
 f0:Int
 f1:ByteArray
 f2:(List S65)
def z65:S65:=⟨(0:Int),(⟨#[]⟩:ByteArray),([]:List S65)⟩
def F65 (d:Kd S65):Kd S65:=Kd.iso (Kd.pair (Kd.int .i64) (Kd.pair Kd.string (Kd.slice 65 d))) (fun x:S65=>(x.f0,x.f1,x.f2))
theorem mono65:Kd.Mono F65:=Kd.mono_iso _ (Kd.mono_pair (Kd.mono_const _) (Kd.mono_pair (Kd.mono_const _) (Kd.mono_slice 65 Kd.mono_id)))
theorem sub65:Kd.Sub F65 [65]:=Kd.sub_iso _ (Kd.sub_pair (Kd.sub_const _ (by decide)) (Kd.sub_pair (Kd.sub_const _ (by decide)) (Kd.sub_slice 65 (by decide) Kd.sub_id)))
theorem sz65:∀ n,(Kd.upto F65 3 [65] n).sz=3:=Kd.upto_sz (fun _=>rfl)
def k65:Kd S65:=Kd.fix F65 3 [65] sz65 (Kd.upto_E sub65)
theorem k65_heap:Kd.Heap k65:=Kd.heap_fix (fun _ h_=>Kd.heap_iso _ (Kd.heap_pair (Kd.heap_int .i64) (Kd.heap_pair Kd.heap_string (Kd.heap_slice 65 h_))))
theorem k65_open {w:World} {x:S65} {cs:List Value} (h:k65.K w x cs):∃ A2 c2,cs = [.int .i64 x.f0,.string x.f1,.slice A2 x.f2.length c2]∧x.f2.length≤c2∧k65.C w A2 x.f2.length x.f2:=by
 obtain ⟨n,h⟩:=h
 cases n with
 | zero=>exact h.elim
 | succ n =>
  obtain ⟨_,_,rfl,rfl,⟨_,_,rfl,rfl,⟨A2,c2,rfl,l2,g2⟩⟩⟩:=h
  exact ⟨A2,c2,rfl,l2,Kd.fix_C g2⟩
theorem k65_openM {w:World} {base:Nat} {ok:Nat→Prop} {x:S65} {cs:List Value} (h:k65.M w base ok x cs):∃ v2,cs = [.int .i64 x.f0,.string x.f1,v2]∧k65.R 65 w base ok v2 x.f2:=by
 obtain ⟨n,h⟩:=h
 cases n with
 | zero=>exact h.elim
 | succ n =>
  obtain ⟨_,_,rfl,rfl,⟨_,_,rfl,rfl,⟨v2,rfl,g2⟩⟩⟩:=h
  exact ⟨v2,rfl,Kd.fix_R g2⟩
theorem k65_mk (w:World) (x:S65) {A2:Option Addr} {c2:Nat} (l2:x.f2.length≤c2) (g2:k65.C w A2 x.f2.length x.f2):k65.K w x [.int .i64 x.f0,.string x.f1,.slice A2 x.f2.length c2]:=by
 obtain ⟨n2,q2⟩:=Kd.fix_C_back mono65 g2
 have r2:=Kd.upto_C_le mono65 sz65 (show n2≤n2 by omega) q2
 exact ⟨n2+1,⟨[.int .i64 x.f0],[.string x.f1,.slice A2 x.f2.length c2],rfl,rfl,⟨[.string x.f1],[.slice A2 x.f2.length c2],rfl,rfl,⟨A2,c2,rfl,l2,r2⟩⟩⟩⟩
theorem k65_mkM (w:World) (base:Nat) (ok:Nat→Prop) (x:S65) {v2:Value} (g2:k65.R 65 w base ok v2 x.f2):k65.M w base ok x [.int .i64 x.f0,.string x.f1,v2]:=by
 obtain ⟨n2,q2⟩:=Kd.fix_R_back mono65 g2
 have r2:=Kd.upto_R_le mono65 sz65 (show n2≤n2 by omega) q2
 exact ⟨n2+1,⟨[.int .i64 x.f0],[.string x.f1,v2],rfl,rfl,⟨[.string x.f1],[v2],rfl,rfl,⟨v2,rfl,r2⟩⟩⟩⟩
theorem k65_openF {W:World} {ok:Nat→Prop} {x:S65} {cs:List Value} (h:Kd.FK k65 W ok x cs):∃ A2 c2,cs = [.int .i64 x.f0,.string x.f1,.slice A2 x.f2.length c2]∧x.f2.length≤c2∧Kd.F k65 W ok A2 x.f2.length x.f2:=by
 obtain ⟨A2,c2,rfl,l2,_⟩:=k65_open (Kd.FK_now h)
 exact ⟨A2,c2,rfl,l2,(fun W' hW=>by obtain ⟨A2_,c2_,he,l2_,g2_⟩:=k65_open (h W' hW);injection (zi (show some (Value.slice A2 x.f2.length c2)=some (Value.slice A2_ x.f2.length c2_) from congrArg (fun l=>l[2]?) he)) with ha_ _ _;rw [ha_];exact g2_)⟩
theorem k65_mkF (W:World) (ok:Nat→Prop) (x:S65) {A2:Option Addr} {c2:Nat} (l2:x.f2.length≤c2) (g2:Kd.F k65 W ok A2 x.f2.length x.f2):Kd.FK k65 W ok x [.int .i64 x.f0,.string x.f1,.slice A2 x.f2.length c2]:=fun W2 hW=>k65_mk W2 x l2 (g2 W2 hW)
def rd_T65 (xs:List S65) (i:Int):S65:=xs.getD i.toNat z65
theorem at_T65 {w:World} {A:Option Addr} {n:Nat} {xs:List S65} (h:Kd.C k65 w A n xs) (i:Int) (h0:0≤i) (h1:i < n):∃ ad A2 c2,A=some ad∧w.cell? (ad.add (i.toNat * 3))=some (.int .i64 (rd_T65 xs i).f0)∧w.cell? ⟨(ad.add (i.toNat * 3)).block,(ad.add (i.toNat * 3)).off+1,none⟩=some (.string (rd_T65 xs i).f1)∧w.cell? ⟨(ad.add (i.toNat * 3)).block,(ad.add (i.toNat * 3)).off+2,none⟩=some (.slice A2 (rd_T65 xs i).f2.length c2)∧(rd_T65 xs i).f2.length≤c2∧k65.C w A2 (rd_T65 xs i).f2.length (rd_T65 xs i).f2:=by
 obtain ⟨ad,c,e,_,hK,hc0⟩:=Kd.C_get h z65 i h0 h1
 have hc:∀ j u,c[j]? = some u→w.cell? (ad.add (i.toNat * 3+j))=some u:=hc0
 obtain ⟨A2,c2,rfl,l2,g2⟩:=k65_open hK
 exact ⟨ad,A2,c2,e,hc 0 _ rfl,za42,za41,l2,g2⟩
def rd_L3 (xs:List (List Int)) (i:Int):(List Int):=xs.getD i.toNat ([]:List Int)
theorem at_L3 {w:World} {A:Option Addr} {n:Nat} {xs:List (List Int)} (h:Kd.C (Kd.slice 3 (Kd.int .i64)) w A n xs) (i:Int) (h0:0≤i) (h1:i < n):∃ ad A0 c0,A=some ad∧w.cell? (ad.add i.toNat)=some (.slice A0 (rd_L3 xs i).length c0)∧(rd_L3 xs i).length≤c0∧(Kd.int .i64).C w A0 (rd_L3 xs i).length (rd_L3 xs i):=by
 obtain ⟨ad,c,e,_,hK,hc0⟩:=Kd.C_get h ([]:List Int) i h0 h1
 have hc:∀ j u,c[j]? = some u→w.cell? (ad.add (i.toNat * 1+j))=some u:=hc0
 obtain ⟨A0,c0,rfl,l0,g0⟩:=hK
 exact ⟨ad,A0,c0,e,by have hq:=hc 0 _ rfl;rwa [Nat.mul_one,Nat.add_zero] at hq,l0,g0⟩
/-! #### struct type 67 -/
structure S67 where
 f0:Int
 f1:ByteArray
 f2:ByteArray
 f3:S65
 f4:(List Int)
 f5:Int
def z67:S67:=⟨(0:Int),(⟨#[]⟩:ByteArray),(⟨#[]⟩:ByteArray),z65,([]:List Int),(0:Int)⟩
def k67:Kd S67:=Kd.iso (Kd.pair (Kd.int .i64) (Kd.pair Kd.string (Kd.pair Kd.string (Kd.pair k65 (Kd.pair (Kd.slice 3 (Kd.int .i64)) (Kd.int .i64)))))) (fun x:S67=>(x.f0,x.f1,x.f2,x.f3,x.f4,x.f5))
theorem k67_heap:Kd.Heap k67:=Kd.heap_iso _ (Kd.heap_pair (Kd.heap_int .i64) (Kd.heap_pair Kd.heap_string (Kd.heap_pair Kd.heap_string (Kd.heap_pair k65_heap (Kd.heap_pair (Kd.heap_slice 3 (Kd.heap_int .i64)) (Kd.heap_int .i64))))))
theorem k67_open {w:World} {x:S67} {cs:List Value} (h:k67.K w x cs):∃ A5 c5 A6 c6,cs = [.int .i64 x.f0,.string x.f1,.string x.f2,.int .i64 x.f3.f0,.string x.f3.f1,.slice A5 x.f3.f2.length c5,.slice A6 x.f4.length c6,.int .i64 x.f5]∧x.f3.f2.length≤c5∧k65.C w A5 x.f3.f2.length x.f3.f2∧x.f4.length≤c6∧(Kd.int .i64).C w A6 x.f4.length x.f4:=by
 obtain ⟨_,_,rfl,rfl,⟨_,_,rfl,rfl,⟨_,_,rfl,rfl,⟨_,_,rfl,s3,⟨_,_,rfl,⟨A6,c6,rfl,l6,g6⟩,rfl⟩⟩⟩⟩⟩:=h
 obtain ⟨A5,c5,rfl,l5,g5⟩:=k65_open s3
 exact ⟨A5,c5,A6,c6,rfl,l5,g5,l6,g6⟩
theorem k67_openM {w:World} {base:Nat} {ok:Nat→Prop} {x:S67} {cs:List Value} (h:k67.M w base ok x cs):∃ v5 v6,cs = [.int .i64 x.f0,.string x.f1,.string x.f2,.int .i64 x.f3.f0,.string x.f3.f1,v5,v6,.int .i64 x.f5]∧k65.R 65 w base ok v5 x.f3.f2∧(Kd.int .i64).R 3 w base ok v6 x.f4:=by
 obtain ⟨_,_,rfl,rfl,⟨_,_,rfl,rfl,⟨_,_,rfl,rfl,⟨_,_,rfl,s3,⟨_,_,rfl,⟨v6,rfl,g6⟩,rfl⟩⟩⟩⟩⟩:=h
 obtain ⟨v5,rfl,g5⟩:=k65_openM s3
 exact ⟨v5,v6,rfl,g5,g6⟩
theorem k67_mk (w:World) (x:S67) {A5:Option Addr} {c5:Nat} (l5:x.f3.f2.length≤c5) (g5:k65.C w A5 x.f3.f2.length x.f3.f2) {A6:Option Addr} {c6:Nat} (l6:x.f4.length≤c6) (g6:(Kd.int .i64).C w A6 x.f4.length x.f4):k67.K w x [.int .i64 x.f0,.string x.f1,.string x.f2,.int .i64 x.f3.f0,.string x.f3.f1,.slice A5 x.f3.f2.length c5,.slice A6 x.f4.length c6,.int .i64 x.f5]:=⟨[.int .i64 x.f0],[.string x.f1,.string x.f2,.int .i64 x.f3.f0,.string x.f3.f1,.slice A5 x.f3.f2.length c5,.slice A6 x.f4.length c6,.int .i64 x.f5],rfl,rfl,⟨[.string x.f1],[.string x.f2,.int .i64 x.f3.f0,.string x.f3.f1,.slice A5 x.f3.f2.length c5,.slice A6 x.f4.length c6,.int .i64 x.f5],rfl,rfl,⟨[.string x.f2],[.int .i64 x.f3.f0,.string x.f3.f1,.slice A5 x.f3.f2.length c5,.slice A6 x.f4.length c6,.int .i64 x.f5],rfl,rfl,⟨[.int .i64 x.f3.f0,.string x.f3.f1,.slice A5 x.f3.f2.length c5],[.slice A6 x.f4.length c6,.int .i64 x.f5],rfl,(k65_mk w x.f3 l5 g5),⟨[.slice A6 x.f4.length c6],[.int .i64 x.f5],rfl,⟨A6,c6,rfl,l6,g6⟩,rfl⟩⟩⟩⟩⟩
theorem k67_mkM (w:World) (base:Nat) (ok:Nat→Prop) (x:S67) {v5:Value} (g5:k65.R 65 w base ok v5 x.f3.f2) {v6:Value} (g6:(Kd.int .i64).R 3 w base ok v6 x.f4):k67.M w base ok x [.int .i64 x.f0,.string x.f1,.string x.f2,.int .i64 x.f3.f0,.string x.f3.f1,v5,v6,.int .i64 x.f5]:=⟨[.int .i64 x.f0],[.string x.f1,.string x.f2,.int .i64 x.f3.f0,.string x.f3.f1,v5,v6,.int .i64 x.f5],rfl,rfl,⟨[.string x.f1],[.string x.f2,.int .i64 x.f3.f0,.string x.f3.f1,v5,v6,.int .i64 x.f5],rfl,rfl,⟨[.string x.f2],[.int .i64 x.f3.f0,.string x.f3.f1,v5,v6,.int .i64 x.f5],rfl,rfl,⟨[.int .i64 x.f3.f0,.string x.f3.f1,v5],[v6,.int .i64 x.f5],rfl,(k65_mkM w base ok x.f3 g5),⟨[v6],[.int .i64 x.f5],rfl,⟨v6,rfl,g6⟩,rfl⟩⟩⟩⟩⟩
theorem k67_openF {W:World} {ok:Nat→Prop} {x:S67} {cs:List Value} (h:Kd.FK k67 W ok x cs):∃ A5 c5 A6 c6,cs = [.int .i64 x.f0,.string x.f1,.string x.f2,.int .i64 x.f3.f0,.string x.f3.f1,.slice A5 x.f3.f2.length c5,.slice A6 x.f4.length c6,.int .i64 x.f5]∧x.f3.f2.length≤c5∧Kd.F k65 W ok A5 x.f3.f2.length x.f3.f2∧x.f4.length≤c6∧Kd.F (Kd.int .i64) W ok A6 x.f4.length x.f4:=by
 obtain ⟨A5,c5,A6,c6,rfl,l5,_,l6,_⟩:=k67_open (Kd.FK_now h)
 exact ⟨A5,c5,A6,c6,rfl,l5,(fun W' hW=>by obtain ⟨A5_,c5_,A6_,c6_,he,l5_,g5_,l6_,g6_⟩:=k67_open (h W' hW);injection (zi (show some (Value.slice A5 x.f3.f2.length c5)=some (Value.slice A5_ x.f3.f2.length c5_) from congrArg (fun l=>l[5]?) he)) with ha_ _ _;rw [ha_];exact g5_),l6,(fun W' hW=>by obtain ⟨A5_,c5_,A6_,c6_,he,l5_,g5_,l6_,g6_⟩:=k67_open (h W' hW);injection (zi (show some (Value.slice A6 x.f4.length c6)=some (Value.slice A6_ x.f4.length c6_) from congrArg (fun l=>l[6]?) he)) with ha_ _ _;rw [ha_];exact g6_)⟩
theorem k67_mkF (W:World) (ok:Nat→Prop) (x:S67) {A5:Option Addr} {c5:Nat} (l5:x.f3.f2.length≤c5) (g5:Kd.F k65 W ok A5 x.f3.f2.length x.f3.f2) {A6:Option Addr} {c6:Nat} (l6:x.f4.length≤c6) (g6:Kd.F (Kd.int .i64) W ok A6 x.f4.length x.f4):Kd.FK k67 W ok x [.int .i64 x.f0,.string x.f1,.string x.f2,.int .i64 x.f3.f0,.string x.f3.f1,.slice A5 x.f3.f2.length c5,.slice A6 x.f4.length c6,.int .i64 x.f5]:=fun W2 hW=>k67_mk W2 x l5 (g5 W2 hW) l6 (g6 W2 hW)
def rd_T67 (xs:List S67) (i:Int):S67:=xs.getD i.toNat z67
theorem at_T67 {w:World} {A:Option Addr} {n:Nat} {xs:List S67} (h:Kd.C k67 w A n xs) (i:Int) (h0:0≤i) (h1:i < n):∃ ad A5 c5 A6 c6,A=some ad∧w.cell? (ad.add (i.toNat * 8))=some (.int .i64 (rd_T67 xs i).f0)∧w.cell? ⟨(ad.add (i.toNat * 8)).block,(ad.add (i.toNat * 8)).off+1,none⟩=some (.string (rd_T67 xs i).f1)∧w.cell? ⟨(ad.add (i.toNat * 8)).block,(ad.add (i.toNat * 8)).off+2,none⟩=some (.string (rd_T67 xs i).f2)∧w.cell? ⟨(ad.add (i.toNat * 8)).block,(ad.add (i.toNat * 8)).off+3,none⟩=some (.int .i64 (rd_T67 xs i).f3.f0)∧w.cell? ⟨(ad.add (i.toNat * 8)).block,(ad.add (i.toNat * 8)).off+4,none⟩=some (.string (rd_T67 xs i).f3.f1)∧w.cell? ⟨(ad.add (i.toNat * 8)).block,(ad.add (i.toNat * 8)).off+5,none⟩=some (.slice A5 (rd_T67 xs i).f3.f2.length c5)∧w.cell? ⟨(ad.add (i.toNat * 8)).block,(ad.add (i.toNat * 8)).off+6,none⟩=some (.slice A6 (rd_T67 xs i).f4.length c6)∧w.cell? ⟨(ad.add (i.toNat * 8)).block,(ad.add (i.toNat * 8)).off+7,none⟩=some (.int .i64 (rd_T67 xs i).f5)∧(rd_T67 xs i).f3.f2.length≤c5∧k65.C w A5 (rd_T67 xs i).f3.f2.length (rd_T67 xs i).f3.f2∧(rd_T67 xs i).f4.length≤c6∧(Kd.int .i64).C w A6 (rd_T67 xs i).f4.length (rd_T67 xs i).f4:=by
 obtain ⟨ad,c,e,_,hK,hc0⟩:=Kd.C_get h z67 i h0 h1
 have hc:∀ j u,c[j]? = some u→w.cell? (ad.add (i.toNat * 8+j))=some u:=hc0
 obtain ⟨A5,c5,A6,c6,rfl,l5,g5,l6,g6⟩:=k67_open hK
 exact ⟨ad,A5,c5,A6,c6,e,hc 0 _ rfl,za42,za41,by rw [← add_field _ _ 3 (by omega)];exact hc 3 _ rfl,by rw [← add_field _ _ 4 (by omega)];exact hc 4 _ rfl,by rw [← add_field _ _ 5 (by omega)];exact hc 5 _ rfl,by rw [← add_field _ _ 6 (by omega)];exact hc 6 _ rfl,by rw [← add_field _ _ 7 (by omega)];exact hc 7 _ rfl,l5,g5,l6,g6⟩
/-! #### struct type 32 -/
structure S32 where
 f0:ByteArray
 f1:ByteArray
 f2:ByteArray
def z32:S32:=⟨(⟨#[]⟩:ByteArray),(⟨#[]⟩:ByteArray),(⟨#[]⟩:ByteArray)⟩
def k32:Kd S32:=Kd.iso (Kd.pair Kd.string (Kd.pair Kd.string Kd.string)) (fun x:S32=>(x.f0,x.f1,x.f2))
theorem k32_heap:Kd.Heap k32:=Kd.heap_iso _ (Kd.heap_pair Kd.heap_string (Kd.heap_pair Kd.heap_string Kd.heap_string))
theorem k32_open {w:World} {x:S32} {cs:List Value} (h:k32.K w x cs):cs = [.string x.f0,.string x.f1,.string x.f2]:=by
 obtain ⟨_,_,rfl,rfl,⟨_,_,rfl,rfl,rfl⟩⟩:=h
 exact rfl
theorem k32_openM {w:World} {base:Nat} {ok:Nat→Prop} {x:S32} {cs:List Value} (h:k32.M w base ok x cs):cs = [.string x.f0,.string x.f1,.string x.f2]:=by
 obtain ⟨_,_,rfl,rfl,⟨_,_,rfl,rfl,rfl⟩⟩:=h
 exact rfl
theorem k32_mk (w:World) (x:S32)  : k32.K w x [.string x.f0,.string x.f1,.string x.f2]:=⟨[.string x.f0],[.string x.f1,.string x.f2],rfl,rfl,⟨[.string x.f1],[.string x.f2],rfl,rfl,rfl⟩⟩
theorem k32_mkM (w:World) (base:Nat) (ok:Nat→Prop) (x:S32)  : k32.M w base ok x [.string x.f0,.string x.f1,.string x.f2]:=⟨[.string x.f0],[.string x.f1,.string x.f2],rfl,rfl,⟨[.string x.f1],[.string x.f2],rfl,rfl,rfl⟩⟩
theorem k32_mkF (W:World) (ok:Nat→Prop) (x:S32):Kd.FK k32 W ok x [.string x.f0,.string x.f1,.string x.f2]:=fun W2 _=>k32_mk W2 x
def rd_T32 (xs:List S32) (i:Int):S32:=xs.getD i.toNat z32
theorem at_T32 {w:World} {A:Option Addr} {n:Nat} {xs:List S32} (h:Kd.C k32 w A n xs) (i:Int) (h0:0≤i) (h1:i < n):∃ ad ,A=some ad∧w.cell? (ad.add (i.toNat * 3))=some (.string (rd_T32 xs i).f0)∧w.cell? ⟨(ad.add (i.toNat * 3)).block,(ad.add (i.toNat * 3)).off+1,none⟩=some (.string (rd_T32 xs i).f1)∧w.cell? ⟨(ad.add (i.toNat * 3)).block,(ad.add (i.toNat * 3)).off+2,none⟩=some (.string (rd_T32 xs i).f2):=by
 obtain ⟨ad,c,e,_,hK,hc0⟩:=Kd.C_get h z32 i h0 h1
 have hc:∀ j u,c[j]? = some u→w.cell? (ad.add (i.toNat * 3+j))=some u:=hc0
 obtain rfl:=k32_open hK
 exact ⟨ad,e,hc 0 _ rfl,za42,za41⟩
/-! #### struct type 101, nested in itself -/
structure S101 where
 f0:Int
 f1:ByteArray
 f2:(List S101)
def z101:S101:=⟨(0:Int),(⟨#[]⟩:ByteArray),([]:List S101)⟩
def F101 (d:Kd S101):Kd S101:=Kd.iso (Kd.pair (Kd.int .i64) (Kd.pair Kd.string (Kd.slice 101 d))) (fun x:S101=>(x.f0,x.f1,x.f2))
theorem mono101:Kd.Mono F101:=Kd.mono_iso _ (Kd.mono_pair (Kd.mono_const _) (Kd.mono_pair (Kd.mono_const _) (Kd.mono_slice 101 Kd.mono_id)))
theorem sub101:Kd.Sub F101 [101]:=Kd.sub_iso _ (Kd.sub_pair (Kd.sub_const _ (by decide)) (Kd.sub_pair (Kd.sub_const _ (by decide)) (Kd.sub_slice 101 (by decide) Kd.sub_id)))
theorem sz101:∀ n,(Kd.upto F101 3 [101] n).sz=3:=Kd.upto_sz (fun _=>rfl)
def k101:Kd S101:=Kd.fix F101 3 [101] sz101 (Kd.upto_E sub101)
theorem k101_heap:Kd.Heap k101:=Kd.heap_fix (fun _ h_=>Kd.heap_iso _ (Kd.heap_pair (Kd.heap_int .i64) (Kd.heap_pair Kd.heap_string (Kd.heap_slice 101 h_))))
theorem k101_open {w:World} {x:S101} {cs:List Value} (h:k101.K w x cs):∃ A2 c2,cs = [.int .i64 x.f0,.string x.f1,.slice A2 x.f2.length c2]∧x.f2.length≤c2∧k101.C w A2 x.f2.length x.f2:=by
 obtain ⟨n,h⟩:=h
 cases n with
 | zero=>exact h.elim
 | succ n =>
  obtain ⟨_,_,rfl,rfl,⟨_,_,rfl,rfl,⟨A2,c2,rfl,l2,g2⟩⟩⟩:=h
  exact ⟨A2,c2,rfl,l2,Kd.fix_C g2⟩
theorem k101_openM {w:World} {base:Nat} {ok:Nat→Prop} {x:S101} {cs:List Value} (h:k101.M w base ok x cs):∃ v2,cs = [.int .i64 x.f0,.string x.f1,v2]∧k101.R 101 w base ok v2 x.f2:=by
 obtain ⟨n,h⟩:=h
 cases n with
 | zero=>exact h.elim
 | succ n =>
  obtain ⟨_,_,rfl,rfl,⟨_,_,rfl,rfl,⟨v2,rfl,g2⟩⟩⟩:=h
  exact ⟨v2,rfl,Kd.fix_R g2⟩
theorem k101_mk (w:World) (x:S101) {A2:Option Addr} {c2:Nat} (l2:x.f2.length≤c2) (g2:k101.C w A2 x.f2.length x.f2):k101.K w x [.int .i64 x.f0,.string x.f1,.slice A2 x.f2.length c2]:=by
 obtain ⟨n2,q2⟩:=Kd.fix_C_back mono101 g2
 have r2:=Kd.upto_C_le mono101 sz101 (show n2≤n2 by omega) q2
 exact ⟨n2+1,⟨[.int .i64 x.f0],[.string x.f1,.slice A2 x.f2.length c2],rfl,rfl,⟨[.string x.f1],[.slice A2 x.f2.length c2],rfl,rfl,⟨A2,c2,rfl,l2,r2⟩⟩⟩⟩
theorem k101_mkM (w:World) (base:Nat) (ok:Nat→Prop) (x:S101) {v2:Value} (g2:k101.R 101 w base ok v2 x.f2):k101.M w base ok x [.int .i64 x.f0,.string x.f1,v2]:=by
 obtain ⟨n2,q2⟩:=Kd.fix_R_back mono101 g2
 have r2:=Kd.upto_R_le mono101 sz101 (show n2≤n2 by omega) q2
 exact ⟨n2+1,⟨[.int .i64 x.f0],[.string x.f1,v2],rfl,rfl,⟨[.string x.f1],[v2],rfl,rfl,⟨v2,rfl,r2⟩⟩⟩⟩
theorem k101_openF {W:World} {ok:Nat→Prop} {x:S101} {cs:List Value} (h:Kd.FK k101 W ok x cs):∃ A2 c2,cs = [.int .i64 x.f0,.string x.f1,.slice A2 x.f2.length c2]∧x.f2.length≤c2∧Kd.F k101 W ok A2 x.f2.length x.f2:=by
 obtain ⟨A2,c2,rfl,l2,_⟩:=k101_open (Kd.FK_now h)
 exact ⟨A2,c2,rfl,l2,(fun W' hW=>by obtain ⟨A2_,c2_,he,l2_,g2_⟩:=k101_open (h W' hW);injection (zi (show some (Value.slice A2 x.f2.length c2)=some (Value.slice A2_ x.f2.length c2_) from congrArg (fun l=>l[2]?) he)) with ha_ _ _;rw [ha_];exact g2_)⟩
theorem k101_mkF (W:World) (ok:Nat→Prop) (x:S101) {A2:Option Addr} {c2:Nat} (l2:x.f2.length≤c2) (g2:Kd.F k101 W ok A2 x.f2.length x.f2):Kd.FK k101 W ok x [.int .i64 x.f0,.string x.f1,.slice A2 x.f2.length c2]:=fun W2 hW=>k101_mk W2 x l2 (g2 W2 hW)
def rd_T101 (xs:List S101) (i:Int):S101:=xs.getD i.toNat z101
theorem at_T101 {w:World} {A:Option Addr} {n:Nat} {xs:List S101} (h:Kd.C k101 w A n xs) (i:Int) (h0:0≤i) (h1:i < n):∃ ad A2 c2,A=some ad∧w.cell? (ad.add (i.toNat * 3))=some (.int .i64 (rd_T101 xs i).f0)∧w.cell? ⟨(ad.add (i.toNat * 3)).block,(ad.add (i.toNat * 3)).off+1,none⟩=some (.string (rd_T101 xs i).f1)∧w.cell? ⟨(ad.add (i.toNat * 3)).block,(ad.add (i.toNat * 3)).off+2,none⟩=some (.slice A2 (rd_T101 xs i).f2.length c2)∧(rd_T101 xs i).f2.length≤c2∧k101.C w A2 (rd_T101 xs i).f2.length (rd_T101 xs i).f2:=by
 obtain ⟨ad,c,e,_,hK,hc0⟩:=Kd.C_get h z101 i h0 h1
 have hc:∀ j u,c[j]? = some u→w.cell? (ad.add (i.toNat * 3+j))=some u:=hc0
 obtain ⟨A2,c2,rfl,l2,g2⟩:=k101_open hK
 exact ⟨ad,A2,c2,e,hc 0 _ rfl,za42,za41,l2,g2⟩
/-! #### struct type 103 -/
structure S103 where
 f0:Int
 f1:ByteArray
 f2:ByteArray
 f3:S101
 f4:(List Int)
 f5:Int
def z103:S103:=⟨(0:Int),(⟨#[]⟩:ByteArray),(⟨#[]⟩:ByteArray),z101,([]:List Int),(0:Int)⟩
def k103:Kd S103:=Kd.iso (Kd.pair (Kd.int .i64) (Kd.pair Kd.string (Kd.pair Kd.string (Kd.pair k101 (Kd.pair (Kd.slice 3 (Kd.int .i64)) (Kd.int .i64)))))) (fun x:S103=>(x.f0,x.f1,x.f2,x.f3,x.f4,x.f5))
theorem k103_heap:Kd.Heap k103:=Kd.heap_iso _ (Kd.heap_pair (Kd.heap_int .i64) (Kd.heap_pair Kd.heap_string (Kd.heap_pair Kd.heap_string (Kd.heap_pair k101_heap (Kd.heap_pair (Kd.heap_slice 3 (Kd.heap_int .i64)) (Kd.heap_int .i64))))))
theorem k103_open {w:World} {x:S103} {cs:List Value} (h:k103.K w x cs):∃ A5 c5 A6 c6,cs = [.int .i64 x.f0,.string x.f1,.string x.f2,.int .i64 x.f3.f0,.string x.f3.f1,.slice A5 x.f3.f2.length c5,.slice A6 x.f4.length c6,.int .i64 x.f5]∧x.f3.f2.length≤c5∧k101.C w A5 x.f3.f2.length x.f3.f2∧x.f4.length≤c6∧(Kd.int .i64).C w A6 x.f4.length x.f4:=by
 obtain ⟨_,_,rfl,rfl,⟨_,_,rfl,rfl,⟨_,_,rfl,rfl,⟨_,_,rfl,s3,⟨_,_,rfl,⟨A6,c6,rfl,l6,g6⟩,rfl⟩⟩⟩⟩⟩:=h
 obtain ⟨A5,c5,rfl,l5,g5⟩:=k101_open s3
 exact ⟨A5,c5,A6,c6,rfl,l5,g5,l6,g6⟩
theorem k103_openM {w:World} {base:Nat} {ok:Nat→Prop} {x:S103} {cs:List Value} (h:k103.M w base ok x cs):∃ v5 v6,cs = [.int .i64 x.f0,.string x.f1,.string x.f2,.int .i64 x.f3.f0,.string x.f3.f1,v5,v6,.int .i64 x.f5]∧k101.R 101 w base ok v5 x.f3.f2∧(Kd.int .i64).R 3 w base ok v6 x.f4:=by
 obtain ⟨_,_,rfl,rfl,⟨_,_,rfl,rfl,⟨_,_,rfl,rfl,⟨_,_,rfl,s3,⟨_,_,rfl,⟨v6,rfl,g6⟩,rfl⟩⟩⟩⟩⟩:=h
 obtain ⟨v5,rfl,g5⟩:=k101_openM s3
 exact ⟨v5,v6,rfl,g5,g6⟩
theorem k103_mk (w:World) (x:S103) {A5:Option Addr} {c5:Nat} (l5:x.f3.f2.length≤c5) (g5:k101.C w A5 x.f3.f2.length x.f3.f2) {A6:Option Addr} {c6:Nat} (l6:x.f4.length≤c6) (g6:(Kd.int .i64).C w A6 x.f4.length x.f4):k103.K w x [.int .i64 x.f0,.string x.f1,.string x.f2,.int .i64 x.f3.f0,.string x.f3.f1,.slice A5 x.f3.f2.length c5,.slice A6 x.f4.length c6,.int .i64 x.f5]:=⟨[.int .i64 x.f0],[.string x.f1,.string x.f2,.int .i64 x.f3.f0,.string x.f3.f1,.slice A5 x.f3.f2.length c5,.slice A6 x.f4.length c6,.int .i64 x.f5],rfl,rfl,⟨[.string x.f1],[.string x.f2,.int .i64 x.f3.f0,.string x.f3.f1,.slice A5 x.f3.f2.length c5,.slice A6 x.f4.length c6,.int .i64 x.f5],rfl,rfl,⟨[.string x.f2],[.int .i64 x.f3.f0,.string x.f3.f1,.slice A5 x.f3.f2.length c5,.slice A6 x.f4.length c6,.int .i64 x.f5],rfl,rfl,⟨[.int .i64 x.f3.f0,.string x.f3.f1,.slice A5 x.f3.f2.length c5],[.slice A6 x.f4.length c6,.int .i64 x.f5],rfl,(k101_mk w x.f3 l5 g5),⟨[.slice A6 x.f4.length c6],[.int .i64 x.f5],rfl,⟨A6,c6,rfl,l6,g6⟩,rfl⟩⟩⟩⟩⟩
theorem k103_mkM (w:World) (base:Nat) (ok:Nat→Prop) (x:S103) {v5:Value} (g5:k101.R 101 w base ok v5 x.f3.f2) {v6:Value} (g6:(Kd.int .i64).R 3 w base ok v6 x.f4):k103.M w base ok x [.int .i64 x.f0,.string x.f1,.string x.f2,.int .i64 x.f3.f0,.string x.f3.f1,v5,v6,.int .i64 x.f5]:=⟨[.int .i64 x.f0],[.string x.f1,.string x.f2,.int .i64 x.f3.f0,.string x.f3.f1,v5,v6,.int .i64 x.f5],rfl,rfl,⟨[.string x.f1],[.string x.f2,.int .i64 x.f3.f0,.string x.f3.f1,v5,v6,.int .i64 x.f5],rfl,rfl,⟨[.string x.f2],[.int .i64 x.f3.f0,.string x.f3.f1,v5,v6,.int .i64 x.f5],rfl,rfl,⟨[.int .i64 x.f3.f0,.string x.f3.f1,v5],[v6,.int .i64 x.f5],rfl,(k101_mkM w base ok x.f3 g5),⟨[v6],[.int .i64 x.f5],rfl,⟨v6,rfl,g6⟩,rfl⟩⟩⟩⟩⟩
theorem k103_openF {W:World} {ok:Nat→Prop} {x:S103} {cs:List Value} (h:Kd.FK k103 W ok x cs):∃ A5 c5 A6 c6,cs = [.int .i64 x.f0,.string x.f1,.string x.f2,.int .i64 x.f3.f0,.string x.f3.f1,.slice A5 x.f3.f2.length c5,.slice A6 x.f4.length c6,.int .i64 x.f5]∧x.f3.f2.length≤c5∧Kd.F k101 W ok A5 x.f3.f2.length x.f3.f2∧x.f4.length≤c6∧Kd.F (Kd.int .i64) W ok A6 x.f4.length x.f4:=by
 obtain ⟨A5,c5,A6,c6,rfl,l5,_,l6,_⟩:=k103_open (Kd.FK_now h)
 exact ⟨A5,c5,A6,c6,rfl,l5,(fun W' hW=>by obtain ⟨A5_,c5_,A6_,c6_,he,l5_,g5_,l6_,g6_⟩:=k103_open (h W' hW);injection (zi (show some (Value.slice A5 x.f3.f2.length c5)=some (Value.slice A5_ x.f3.f2.length c5_) from congrArg (fun l=>l[5]?) he)) with ha_ _ _;rw [ha_];exact g5_),l6,(fun W' hW=>by obtain ⟨A5_,c5_,A6_,c6_,he,l5_,g5_,l6_,g6_⟩:=k103_open (h W' hW);injection (zi (show some (Value.slice A6 x.f4.length c6)=some (Value.slice A6_ x.f4.length c6_) from congrArg (fun l=>l[6]?) he)) with ha_ _ _;rw [ha_];exact g6_)⟩
theorem k103_mkF (W:World) (ok:Nat→Prop) (x:S103) {A5:Option Addr} {c5:Nat} (l5:x.f3.f2.length≤c5) (g5:Kd.F k101 W ok A5 x.f3.f2.length x.f3.f2) {A6:Option Addr} {c6:Nat} (l6:x.f4.length≤c6) (g6:Kd.F (Kd.int .i64) W ok A6 x.f4.length x.f4):Kd.FK k103 W ok x [.int .i64 x.f0,.string x.f1,.string x.f2,.int .i64 x.f3.f0,.string x.f3.f1,.slice A5 x.f3.f2.length c5,.slice A6 x.f4.length c6,.int .i64 x.f5]:=fun W2 hW=>k103_mk W2 x l5 (g5 W2 hW) l6 (g6 W2 hW)
def rd_T103 (xs:List S103) (i:Int):S103:=xs.getD i.toNat z103
theorem at_T103 {w:World} {A:Option Addr} {n:Nat} {xs:List S103} (h:Kd.C k103 w A n xs) (i:Int) (h0:0≤i) (h1:i < n):∃ ad A5 c5 A6 c6,A=some ad∧w.cell? (ad.add (i.toNat * 8))=some (.int .i64 (rd_T103 xs i).f0)∧w.cell? ⟨(ad.add (i.toNat * 8)).block,(ad.add (i.toNat * 8)).off+1,none⟩=some (.string (rd_T103 xs i).f1)∧w.cell? ⟨(ad.add (i.toNat * 8)).block,(ad.add (i.toNat * 8)).off+2,none⟩=some (.string (rd_T103 xs i).f2)∧w.cell? ⟨(ad.add (i.toNat * 8)).block,(ad.add (i.toNat * 8)).off+3,none⟩=some (.int .i64 (rd_T103 xs i).f3.f0)∧w.cell? ⟨(ad.add (i.toNat * 8)).block,(ad.add (i.toNat * 8)).off+4,none⟩=some (.string (rd_T103 xs i).f3.f1)∧w.cell? ⟨(ad.add (i.toNat * 8)).block,(ad.add (i.toNat * 8)).off+5,none⟩=some (.slice A5 (rd_T103 xs i).f3.f2.length c5)∧w.cell? ⟨(ad.add (i.toNat * 8)).block,(ad.add (i.toNat * 8)).off+6,none⟩=some (.slice A6 (rd_T103 xs i).f4.length c6)∧w.cell? ⟨(ad.add (i.toNat * 8)).block,(ad.add (i.toNat * 8)).off+7,none⟩=some (.int .i64 (rd_T103 xs i).f5)∧(rd_T103 xs i).f3.f2.length≤c5∧k101.C w A5 (rd_T103 xs i).f3.f2.length (rd_T103 xs i).f3.f2∧(rd_T103 xs i).f4.length≤c6∧(Kd.int .i64).C w A6 (rd_T103 xs i).f4.length (rd_T103 xs i).f4:=by
 obtain ⟨ad,c,e,_,hK,hc0⟩:=Kd.C_get h z103 i h0 h1
 have hc:∀ j u,c[j]? = some u→w.cell? (ad.add (i.toNat * 8+j))=some u:=hc0
 obtain ⟨A5,c5,A6,c6,rfl,l5,g5,l6,g6⟩:=k103_open hK
 exact ⟨ad,A5,c5,A6,c6,e,hc 0 _ rfl,za42,za41,by rw [← add_field _ _ 3 (by omega)];exact hc 3 _ rfl,by rw [← add_field _ _ 4 (by omega)];exact hc 4 _ rfl,by rw [← add_field _ _ 5 (by omega)];exact hc 5 _ rfl,by rw [← add_field _ _ 6 (by omega)];exact hc 6 _ rfl,by rw [← add_field _ _ 7 (by omega)];exact hc 7 _ rfl,l5,g5,l6,g6⟩
def rd_L8 (xs:List (List (List Int))) (i:Int):(List (List Int)):=xs.getD i.toNat ([]:List (List Int))
theorem at_L8 {w:World} {A:Option Addr} {n:Nat} {xs:List (List (List Int))} (h:Kd.C (Kd.slice 59 (Kd.slice 3 (Kd.int .i64))) w A n xs) (i:Int) (h0:0≤i) (h1:i < n):∃ ad A0 c0,A=some ad∧w.cell? (ad.add i.toNat)=some (.slice A0 (rd_L8 xs i).length c0)∧(rd_L8 xs i).length≤c0∧(Kd.slice 3 (Kd.int .i64)).C w A0 (rd_L8 xs i).length (rd_L8 xs i):=by
 obtain ⟨ad,c,e,_,hK,hc0⟩:=Kd.C_get h ([]:List (List Int)) i h0 h1
 have hc:∀ j u,c[j]? = some u→w.cell? (ad.add (i.toNat * 1+j))=some u:=hc0
 obtain ⟨A0,c0,rfl,l0,g0⟩:=hK
 exact ⟨ad,A0,c0,e,by have hq:=hc 0 _ rfl;rwa [Nat.mul_one,Nat.add_zero] at hq,l0,g0⟩
def laws_szRegexSG.l0 (gF:Nat→Int→ByteArray→List (S101)→Int→Option (Int)):Nat→List (S101)→Int→Int→Option (Int)
 | 0,_,_,_=>none
 | k+1,x0,x1,x5=>if x5 < (x0.length:Int) then (if 0≤x5 then ((gF k ((rd_T101 x0 x5).f0) ((rd_T101 x0 x5).f1) ((rd_T101 x0 x5).f2) x1).bind fun t135002=>(if t135002 < 0 then (some (-1)) else (laws_szRegexSG.l0 gF k x0 t135002 (wrap64 (x5+1))))) else (none)) else (some x1)
def laws_szRegexSG.f (gF:Nat→Int→ByteArray→List (S101)→Int→Option (Int)) (k:Nat) (l0:List (S101)) (a1:Int):Option (Int):=if (wrap64 (a1 - (l0.length:Int))) < 0 then (some (-1)) else (laws_szRegexSG.l0 gF k l0 (wrap64 (a1 - (l0.length:Int))) 0)
theorem laws_szRegexSG.mono_l (gF:Nat→Int→ByteArray→List (S101)→Int→Option (Int)) (gM:∀ a0 a1 a2 a3 k,LeO (gF k a0 a1 a2 a3) (gF (k+1) a0 a1 a2 a3)):∀ k,(∀ y0 y1 y2,LeO (laws_szRegexSG.l0 gF k y0 y1 y2) (laws_szRegexSG.l0 gF (k+1) y0 y1 y2))
 | 0=>fun _ _ _ r h=>by simp [laws_szRegexSG.l0] at h
 | k+1=>by
  have ih0:=laws_szRegexSG.mono_l gF gM k
  ·intro y0 y1 y2
   unfold laws_szRegexSG.l0
   repeat' first
   | with_reducible first|exact ih0 _ _ _|exact gM _ _ _ _ _|exact LeO.refl _|exact LeO.none _|refine LeO.ite ?_ ?_|refine LeO.bind ?_ (fun _=>?_)
theorem laws_szRegexSG.mono (gF:Nat→Int→ByteArray→List (S101)→Int→Option (Int)) (gM:∀ a0 a1 a2 a3 k,LeO (gF k a0 a1 a2 a3) (gF (k+1) a0 a1 a2 a3)):∀ a0 a1 k,LeO (laws_szRegexSG.f gF k a0 a1) (laws_szRegexSG.f gF (k+1) a0 a1):=by
 intro a0 a1 k
 have ih0:=laws_szRegexSG.mono_l gF gM k
 unfold laws_szRegexSG.f
 repeat' first
  | with_reducible first|exact ih0 _ _ _|exact gM _ _ _ _ _|exact LeO.refl _|exact LeO.none _|refine LeO.ite ?_ ?_|refine LeO.bind ?_ (fun _=>?_)
theorem laws_szRegexSG.calls (gF:Nat→Int→ByteArray→List (S101)→Int→Option (Int)) (gC:∀ (k:Nat) (a0_0:Int) (a0_1:ByteArray) (A0_2:Option Addr) (c0_2:Nat) (l0_2:List (S101)) (a1:Int) (r:Int) (w:World) (hr0_2:Kd.C k101 w A0_2 l0_2.length l0_2) (hc0_2:l0_2.length≤c0_2) (h:gF k a0_0 a0_1 l0_2 a1=some r),Calls Tryz.prog 118 #[.agg #[.int .i64 a0_0,.string a0_1,.slice A0_2 l0_2.length c0_2],.int .i64 a1] w fun e w'=>e = .returned (.int .i64 r)∧Below w.heap.size w w') (k:Nat) (A0:Option Addr) (c0:Nat) (l0:List (S101)) (a1:Int) (r:Int) (w:World) (hr0:Kd.C k101 w A0 l0.length l0) (hc0:l0.length≤c0) (h:laws_szRegexSG.f gF k l0 a1=some r) :
  Calls Tryz.prog 135 #[.slice A0 l0.length c0,.int .i64 a1] w fun e w'=>e = .returned (.int .i64 r)∧Below w.heap.size w w':=by
 have hu101:=Tryz.underlying101
 have HR0:=zk hr0
 have HC0:=zk hc0
 clear hr0 hc0
 have HB:=zk (Below.refl w.heap.size w)
 have H:(if (wrap64 (a1 - (l0.length:Int))) < 0 then (some (-1)) else (laws_szRegexSG.l0 gF k l0 (wrap64 (a1 - (l0.length:Int))) 0))=some r:=h
 clear h
 by_cases c3:(wrap64 (a1 - (l0.length:Int))) < 0
 ·rw [if_pos c3] at H
  have c3b0:decide ((wrap64 (a1 - (l0.length:Int))) < 0)=true:=decide_eq_true c3
  have c3w:decide ((IntKind.i64.wrap (a1 - (l0.length:Int))) < 0)=true:=by simp only [i64_w];exact c3b0
  clear c3
  obtain rfl:=zi H
  go_enter Tryz.func135,Tryz.ntmps135
  go_wp2
  go_ret
  exact ⟨za7,za4⟩
 ·rw [if_neg c3] at H
  have c3b0:decide ((wrap64 (a1 - (l0.length:Int))) < 0)=false:=decide_eq_false c3
  have c3w:decide ((IntKind.i64.wrap (a1 - (l0.length:Int))) < 0)=false:=by simp only [i64_w];exact c3b0
  clear c3
  have H':=zk H
  clear H
  go_enter Tryz.func135,Tryz.ntmps135
  go_wp2
  first|go_loopg [1,5] k (fun kq v1 v5 w'=>∃ (x1_1:Int) (x5_1:Int),v1 = .int .i64 x1_1∧v5 = .int .i64 x5_1∧Aside0 (laws_szRegexSG.l0 gF kq l0 x1_1 x5_1=some r)∧Aside0 (kq≤k)∧Aside0 (Below w.heap.size w w'))|(simp only [Act.put,zt,zv,zu];go_loopg [1,5] k (fun kq v1 v5 w'=>∃ (x1_1:Int) (x5_1:Int),v1 = .int .i64 x1_1∧v5 = .int .i64 x5_1∧Aside0 (laws_szRegexSG.l0 gF kq l0 x1_1 x5_1=some r)∧Aside0 (kq≤k)∧Aside0 (Below w.heap.size w w')))
  case atStart=>exact ⟨(wrap64 (a1 - (l0.length:Int))),(0),za8,za8,H',⟨Nat.le_refl _⟩,⟨za4⟩⟩
  case round =>
   clear H'
   try clear c3
   try clear c3b0
   obtain ⟨x1_1,x5_1,rfl,rfl,HA,HK1,HB⟩:=hrel
   cases gk with
   | zero=>exact absurd HA.out (by simp [laws_szRegexSG.l0])
   | succ k1 =>
    have H:=HA.out
    clear HA
    simp only [laws_szRegexSG.l0] at H
    by_cases c4:x5_1 < (l0.length:Int)
    rw [if_pos c4] at H
    have c4b0:decide (x5_1 < (l0.length:Int))=true:=decide_eq_true c4
    clear c4
    by_cases c5:0≤x5_1
    rw [if_pos c5] at H
    have c5b0:decide (0≤x5_1)=true:=decide_eq_true c5
    clear c5
    replace H:=zo H
    obtain ⟨t135002,A60,H⟩:=H
    replace H:(if t135002 < 0 then (some (-1)) else (laws_szRegexSG.l0 gF k1 l0 t135002 (wrap64 (x5_1+1))))=some r:=H
    have A6:=zk A60
    clear A60
    by_cases c7:t135002 < 0
    rw [if_pos c7] at H
    have c7b0:decide (t135002 < 0)=true:=decide_eq_true c7
    clear c7
    obtain rfl:=zi H
    have fin0_:=zk trivial
    rotate_left
    rw [if_neg c7] at H
    have c7b0:decide (t135002 < 0)=false:=decide_eq_false c7
    clear c7
    have H':=zk H
    clear H
    have fin1_:=zk trivial
    rotate_left
    · rw [if_neg c5] at H
      exact absurd H (by simp)
    · rw [if_neg c4] at H
      have c4b0:decide (x5_1 < (l0.length:Int))=false:=decide_eq_false c4
      clear c4
      obtain rfl:=zi H
      go_wp2
      go_ret
      exact ⟨za7,za4⟩
    all_goals
     have p135001:0≤(x5_1:Int):=of_decide_eq_true za9
     have q135001:x5_1 < (l0.length:Int):=of_decide_eq_true za9
     obtain ⟨ad135001,A135001_2,c135001_2,e135001,hx135001_0,hx135001_1,hx135001_2,hl135001_2,hi135001_2⟩:=at_T101 HR0.out x5_1 p135001 q135001
     cases e135001
     replace hx135001_0:=zx HB.out hx135001_0
     replace hx135001_1:=zx HB.out hx135001_1
     replace hx135001_2:=zx HB.out hx135001_2
     have HR135001_2:=zk hi135001_2
     have HC135001_2:=zk hl135001_2
     clear hi135001_2 hl135001_2
     replace p135001:=eq_true p135001
     replace q135001:=eq_true q135001
     go_wp2_with (((with_reducible refine gate_callee (f:=118) rfl ?_);refine goesL_ (some 23) rfl rfl Tryz.func118 (by kernel_rfl) rfl #[.agg #[.int .i64 ((rd_T101 l0 x5_1).f0),.string ((rd_T101 l0 x5_1).f1),.slice A135001_2 ((rd_T101 l0 x5_1).f2).length c135001_2],.int .i64 x1_1] rfl za5 ?_;(with_reducible refine (gC k1 ((rd_T101 l0 x5_1).f0) ((rd_T101 l0 x5_1).f1) _ _ ((rd_T101 l0 x5_1).f2) x1_1 t135002 _ ?side1 ?side2 A6.out).mono ?_);(case side1=>repeat (first|exact (Kd.C_below HR135001_2.out HB.out)|(with_reducible refine Kd.C_alloc ?_ _)|(with_reducible refine Kd.C_drewN ?_ _)|(with_reducible refine Kd.C_drew ?_)));(case side2=>exact HC135001_2.out);rintro e w8 ⟨rfl,hb⟩;refine ⟨_,rfl,?_⟩;have n0_:=zk (below_step za4 hb);clear HB;have HB:=n0_;clear n0_;(try clear hb);(try clear hb2);(try clear hk);(try clear hi)))
     first
     | (
       clear fin0_
       go_ret
       exact ⟨za7,za4⟩)
     | (
       clear fin1_
       go_roundg k1
       case measure=>have:=HK1.out;omega
       case rel=>exact ⟨(t135002),(wrap64 (x5_1+1)),za8,za8,H',⟨za17⟩,⟨za4⟩⟩)
theorem laws_szRegexSG.mono_lg (gF gF2:Nat→Int→ByteArray→List (S101)→Int→Option (Int)) (hg:∀ b0 b1 b2 b3 k,LeO (gF k b0 b1 b2 b3) (gF2 k b0 b1 b2 b3)):∀ k,(∀ y0 y1 y2,LeO (laws_szRegexSG.l0 gF k y0 y1 y2) (laws_szRegexSG.l0 gF2 k y0 y1 y2))
 | 0=>fun _ _ _ r h=>by simp [laws_szRegexSG.l0] at h
 | k+1=>by
  have ih0:=laws_szRegexSG.mono_lg gF gF2 hg k
  ·intro y0 y1 y2
   unfold laws_szRegexSG.l0
   repeat' first
   | (with_reducible exact ih0 _ _ _)
   | (with_reducible exact hg _ _ _ _ _)
   | (with_reducible exact LeO.refl _)
   | (with_reducible exact LeO.none _)
   | (with_reducible refine LeO.ite ?_ ?_)
   | (with_reducible refine LeO.bind ?_ (fun _=>?_))
   | exact hg _ _ _ _ _
theorem laws_szRegexSG.monog (gF gF2:Nat→Int→ByteArray→List (S101)→Int→Option (Int)) (hg:∀ b0 b1 b2 b3 k,LeO (gF k b0 b1 b2 b3) (gF2 k b0 b1 b2 b3)):∀ a0 a1 k,LeO (laws_szRegexSG.f gF k a0 a1) (laws_szRegexSG.f gF2 k a0 a1):=by
 intro a0 a1 k
 have ih0:=laws_szRegexSG.mono_lg gF gF2 hg k
 unfold laws_szRegexSG.f
 repeat' first
  | (with_reducible exact ih0 _ _ _)
  | (with_reducible exact hg _ _ _ _ _)
  | (with_reducible exact LeO.refl _)
  | (with_reducible exact LeO.none _)
  | (with_reducible refine LeO.ite ?_ ?_)
  | (with_reducible refine LeO.bind ?_ (fun _=>?_))
  | exact hg _ _ _ _ _
def laws_szRegexG.f (gF:Nat→Int→ByteArray→List (S101)→Int→Option (Int)) (k:Nat) (a0_0:Int) (a0_1:ByteArray) (l0_2:List (S101)) (a1:Int):Option (Int):=if (wrap64 (a1 - (a0_1.size:Int))) < 0 then (some (-1)) else ((laws_szRegexSG.f gF k l0_2 (wrap64 (a1 - (a0_1.size:Int)))).bind fun t118002=>(if t118002 < 0 then (some (-1)) else (some t118002)))
theorem laws_szRegexG.mono (gF:Nat→Int→ByteArray→List (S101)→Int→Option (Int)) (gM:∀ a0 a1 a2 a3 k,LeO (gF k a0 a1 a2 a3) (gF (k+1) a0 a1 a2 a3)):∀ a0 a1 a2 a3 k,LeO (laws_szRegexG.f gF k a0 a1 a2 a3) (laws_szRegexG.f gF (k+1) a0 a1 a2 a3):=by
 intro a0 a1 a2 a3 k
 unfold laws_szRegexG.f
 repeat' first
  | with_reducible first|exact laws_szRegexSG.mono gF gM _ _ _|exact LeO.refl _|exact LeO.none _|refine LeO.ite ?_ ?_|refine LeO.bind ?_ (fun _=>?_)
theorem laws_szRegexG.calls (gF:Nat→Int→ByteArray→List (S101)→Int→Option (Int)) (gC:∀ (k:Nat) (a0_0:Int) (a0_1:ByteArray) (A0_2:Option Addr) (c0_2:Nat) (l0_2:List (S101)) (a1:Int) (r:Int) (w:World) (hr0_2:Kd.C k101 w A0_2 l0_2.length l0_2) (hc0_2:l0_2.length≤c0_2) (h:gF k a0_0 a0_1 l0_2 a1=some r),Calls Tryz.prog 118 #[.agg #[.int .i64 a0_0,.string a0_1,.slice A0_2 l0_2.length c0_2],.int .i64 a1] w fun e w'=>e = .returned (.int .i64 r)∧Below w.heap.size w w') (k:Nat) (a0_0:Int) (a0_1:ByteArray) (A0_2:Option Addr) (c0_2:Nat) (l0_2:List (S101)) (a1:Int) (r:Int) (w:World) (hr0_2:Kd.C k101 w A0_2 l0_2.length l0_2) (hc0_2:l0_2.length≤c0_2) (h:laws_szRegexG.f gF k a0_0 a0_1 l0_2 a1=some r) :
   Calls Tryz.prog 118 #[.agg #[.int .i64 a0_0,.string a0_1,.slice A0_2 l0_2.length c0_2],.int .i64 a1] w fun e w'=>e = .returned (.int .i64 r)∧Below w.heap.size w w':=by
 have hu101:=Tryz.underlying101
 have HR0_2:=zk hr0_2
 have HC0_2:=zk hc0_2
 clear hr0_2 hc0_2
 have HB:=zk (Below.refl w.heap.size w)
 have H:(if (wrap64 (a1 - (a0_1.size:Int))) < 0 then (some (-1)) else ((laws_szRegexSG.f gF k l0_2 (wrap64 (a1 - (a0_1.size:Int)))).bind fun t118002=>(if t118002 < 0 then (some (-1)) else (some t118002))))=some r:=h
 clear h
 by_cases c3:(wrap64 (a1 - (a0_1.size:Int))) < 0
 rw [if_pos c3] at H
 have c3b0:decide ((wrap64 (a1 - (a0_1.size:Int))) < 0)=true:=decide_eq_true c3
 have c3w:decide ((IntKind.i64.wrap (a1 - (a0_1.size:Int))) < 0)=true:=by simp only [i64_w];exact c3b0
 clear c3
 rotate_left
 rw [if_neg c3] at H
 have c3b0:decide ((wrap64 (a1 - (a0_1.size:Int))) < 0)=false:=decide_eq_false c3
 have c3w:decide ((IntKind.i64.wrap (a1 - (a0_1.size:Int))) < 0)=false:=by simp only [i64_w];exact c3b0
 clear c3
 replace H:=zo H
 obtain ⟨t118002,A60,H⟩:=H
 replace H:(if t118002 < 0 then (some (-1)) else (some t118002))=some r:=H
 have A6:=zk A60
 clear A60
 by_cases c7:t118002 < 0
 rw [if_pos c7] at H
 have c7b0:decide (t118002 < 0)=true:=decide_eq_true c7
 clear c7
 rotate_left
 rw [if_neg c7] at H
 have c7b0:decide (t118002 < 0)=false:=decide_eq_false c7
 clear c7
 rotate_left
 all_goals
  obtain rfl:=zi H
  go_enter Tryz.func118,Tryz.ntmps118
  go_wp2_with (first|((with_reducible refine gate_dst (N:=2) rfl ?_);refine zE (N:=2) (cs:=#[.int .i64 a0_0,.string a0_1,.slice A0_2 l0_2.length c0_2]) (t:=101) ?_;intro gb118001 hg w11 hbox hb;have n0_:=zk (below_step za4 hb);have n1_:=zk (hbox);have n2_:=zk (zs (w:=w) hg za4);have n3_:=zk (zs (w:=w) hg za4);clear HB;have HB:=n0_;have BK118001:=n1_;have GW118001:=n2_;have GE118001:=n3_;clear n0_ n1_ n2_ n3_;clear hb hbox hg;obtain ⟨hcz12_0,hcz12_1,hcz12_2,hfz12_0,hfz12_1,hfz12_2⟩:=blk3 BK118001.out)|((with_reducible refine gate_callee (f:=135) rfl ?_);refine goesL_ (some 15) rfl rfl Tryz.func135 (by kernel_rfl) rfl #[.slice A0_2 l0_2.length c0_2,.int .i64 (wrap64 (a1 - (a0_1.size:Int)))] rfl za5 ?_;(with_reducible refine (laws_szRegexSG.calls gF gC k _ _ l0_2 (wrap64 (a1 - (a0_1.size:Int))) t118002 _ ?side1 ?side2 A6.out).mono ?_);(case side1=>repeat (first|exact (Kd.C_below HR0_2.out HB.out)|(with_reducible refine Kd.C_alloc ?_ _)|(with_reducible refine Kd.C_drewN ?_ _)|(with_reducible refine Kd.C_drew ?_)));(case side2=>exact HC0_2.out);rintro e w13 ⟨rfl,hb⟩;refine ⟨_,rfl,?_⟩;have n0_:=zk (zb BK118001.out hb);have n1_:=zk (below_step za4 hb);clear BK118001;clear HB;have BK118001:=n0_;have HB:=n1_;clear n0_ n1_;(try clear hb);(try clear hb2);(try clear hk);(try clear hi)))
  go_ret
  exact ⟨za7,za4⟩
theorem laws_szRegexG.monog (gF gF2:Nat→Int→ByteArray→List (S101)→Int→Option (Int)) (hg:∀ b0 b1 b2 b3 k,LeO (gF k b0 b1 b2 b3) (gF2 k b0 b1 b2 b3)):∀ a0 a1 a2 a3 k,LeO (laws_szRegexG.f gF k a0 a1 a2 a3) (laws_szRegexG.f gF2 k a0 a1 a2 a3):=by
 intro a0 a1 a2 a3 k
 unfold laws_szRegexG.f
 repeat' first
  | (with_reducible exact laws_szRegexSG.monog gF gF2 hg _ _ _)
  | (with_reducible exact LeO.refl _)
  | (with_reducible exact LeO.none _)
  | (with_reducible refine LeO.ite ?_ ?_)
  | (with_reducible refine LeO.bind ?_ (fun _=>?_))
  | exact laws_szRegexSG.monog gF gF2 hg _ _ _
def laws_szRegex.f:Nat→Int→ByteArray→List (S101)→Int→Option (Int)
 | 0,_,_,_,_=>none
 | K+1,a0_,a1_,a2_,a3_=>laws_szRegexG.f (fun _=>laws_szRegex.f K) K a0_ a1_ a2_ a3_
theorem laws_szRegex.mono:∀ a0 a1 a2 a3 k,LeO (laws_szRegex.f k a0 a1 a2 a3) (laws_szRegex.f (k+1) a0 a1 a2 a3):=by
 intro a0_ a1_ a2_ a3_ k
 induction k generalizing a0_ a1_ a2_ a3_ with
 | zero=>exact LeO.none _
 | succ K ih =>
  intro r h
  have h1:=laws_szRegexG.monog (fun _=>laws_szRegex.f K) (fun _=>laws_szRegex.f (K+1)) (fun a0_ a1_ a2_ a3_ k=>ih a0_ a1_ a2_ a3_) a0_ a1_ a2_ a3_ K r h
  exact laws_szRegexG.mono (fun _=>laws_szRegex.f (K+1)) (fun a0_ a1_ a2_ a3_ k=>LeO.refl _) a0_ a1_ a2_ a3_ K r h1
theorem laws_szRegex.calls (k:Nat) (a0_0:Int) (a0_1:ByteArray) (A0_2:Option Addr) (c0_2:Nat) (l0_2:List (S101)) (a1:Int) (r:Int) (w:World) (hr0_2:Kd.C k101 w A0_2 l0_2.length l0_2) (hc0_2:l0_2.length≤c0_2) (h:laws_szRegex.f k a0_0 a0_1 l0_2 a1=some r) :
  Calls Tryz.prog 118 #[.agg #[.int .i64 a0_0,.string a0_1,.slice A0_2 l0_2.length c0_2],.int .i64 a1] w fun e w'=>e = .returned (.int .i64 r)∧Below w.heap.size w w':=by
 induction k generalizing a0_0 a0_1 A0_2 c0_2 l0_2 a1 r w hr0_2 hc0_2 with
 | zero=>exact absurd h (by simp [laws_szRegex.f])
 | succ K ih=>exact laws_szRegexG.calls (fun _=>laws_szRegex.f K) (fun k a0_0 a0_1 A0_2 c0_2 l0_2 a1 r w hr0_2 hc0_2 h=>ih a0_0 a0_1 A0_2 c0_2 l0_2 a1 r w hr0_2 hc0_2 h) K a0_0 a0_1 A0_2 c0_2 l0_2 a1 r w hr0_2 hc0_2 h
def laws_szRegexS.f (k:Nat) (l0:List (S101)) (a1:Int):Option (Int):=laws_szRegexSG.f laws_szRegex.f k l0 a1
theorem laws_szRegexS.mono:∀ a0 a1 k,LeO (laws_szRegexS.f k a0 a1) (laws_szRegexS.f (k+1) a0 a1):=laws_szRegexSG.mono laws_szRegex.f laws_szRegex.mono
theorem laws_szRegexS.calls (k:Nat) (A0:Option Addr) (c0:Nat) (l0:List (S101)) (a1:Int) (r:Int) (w:World) (hr0:Kd.C k101 w A0 l0.length l0) (hc0:l0.length≤c0) (h:laws_szRegexS.f k l0 a1=some r) :
 Calls Tryz.prog 135 #[.slice A0 l0.length c0,.int .i64 a1] w fun e w'=>e = .returned (.int .i64 r)∧Below w.heap.size w w':=laws_szRegexSG.calls laws_szRegex.f laws_szRegex.calls k A0 c0 l0 a1 r w hr0 hc0 h
def laws_toRegexSG.l0 (gF:Nat→Int→ByteArray→List (S101)→Option (Int × ByteArray × (List (S65)))):Nat→List (S101)→List (S65)→Int→Option ((List (S65)))
 | 0,_,_,_=>none
 | k+1,x0,x3,x4=>if x4 < (x0.length:Int) then (if 0≤x4 then ((gF k ((rd_T101 x0 x4).f0) ((rd_T101 x0 x4).f1) ((rd_T101 x0 x4).f2)).bind fun bt136005=>(if x4 < (x3.length:Int) then (laws_toRegexSG.l0 gF k x0 (x3.set (x4:Int).toNat (⟨bt136005.1,bt136005.2.1,bt136005.2.2⟩:S65)) (wrap64 (x4+1))) else (none))) else (none)) else (some x3)
def laws_toRegexSG.f (gF:Nat→Int→ByteArray→List (S101)→Option (Int × ByteArray × (List (S65)))) (k:Nat) (l0:List (S101)):Option ((List (S65))):=if 0≤(l0.length:Int) then (if ((l0.length:Int):Int).toNat≤5864062014805 then (laws_toRegexSG.l0 gF k l0 (List.replicate ((l0.length:Int):Int).toNat z65) 0) else (none)) else (none)
theorem laws_toRegexSG.mono_l (gF:Nat→Int→ByteArray→List (S101)→Option (Int × ByteArray × (List (S65)))) (gM:∀ a0 a1 a2 k,LeO (gF k a0 a1 a2) (gF (k+1) a0 a1 a2)):∀ k,(∀ y0 y1 y2,LeO (laws_toRegexSG.l0 gF k y0 y1 y2) (laws_toRegexSG.l0 gF (k+1) y0 y1 y2))
 | 0=>fun _ _ _ r h=>by simp [laws_toRegexSG.l0] at h
 | k+1=>by
  have ih0:=laws_toRegexSG.mono_l gF gM k
  ·intro y0 y1 y2
   unfold laws_toRegexSG.l0
   repeat' first
   | with_reducible first|exact ih0 _ _ _|exact gM _ _ _ _|exact LeO.refl _|exact LeO.none _|refine LeO.ite ?_ ?_|refine LeO.bind ?_ (fun _=>?_)
theorem laws_toRegexSG.mono (gF:Nat→Int→ByteArray→List (S101)→Option (Int × ByteArray × (List (S65)))) (gM:∀ a0 a1 a2 k,LeO (gF k a0 a1 a2) (gF (k+1) a0 a1 a2)):∀ a0 k,LeO (laws_toRegexSG.f gF k a0) (laws_toRegexSG.f gF (k+1) a0):=by
 intro a0 k
 have ih0:=laws_toRegexSG.mono_l gF gM k
 unfold laws_toRegexSG.f
 repeat' first
  | with_reducible first|exact ih0 _ _ _|exact gM _ _ _ _|exact LeO.refl _|exact LeO.none _|refine LeO.ite ?_ ?_|refine LeO.bind ?_ (fun _=>?_)
theorem laws_toRegexSG.calls (gF:Nat→Int→ByteArray→List (S101)→Option (Int × ByteArray × (List (S65)))) (gC:∀ (k:Nat) (a0_0:Int) (a0_1:ByteArray) (A0_2:Option Addr) (c0_2:Nat) (l0_2:List (S101)) (r1:Int) (r2:ByteArray) (r3:List (S65)) (w:World) (hr0_2:Kd.C k101 w A0_2 l0_2.length l0_2) (hc0_2:l0_2.length≤c0_2) (h:gF k a0_0 a0_1 l0_2=some (r1,r2,r3)),Calls Tryz.prog 120 #[.agg #[.int .i64 a0_0,.string a0_1,.slice A0_2 l0_2.length c0_2]] w fun e w'=>∃ v2_:Value,e = .returned (.agg #[.int .i64 r1,.string r2,v2_])∧Kd.R k65 65 w' w.heap.size (fun _=>True) v2_ r3∧Below w.heap.size w w') (k:Nat) (A0:Option Addr) (c0:Nat) (l0:List (S101)) (r:List (S65)) (w:World) (hr0:Kd.C k101 w A0 l0.length l0) (hc0:l0.length≤c0) (h:laws_toRegexSG.f gF k l0=some r) :
  Calls Tryz.prog 136 #[.slice A0 l0.length c0] w fun e w'=>∃ v0_:Value,e = .returned (v0_)∧Kd.R k65 65 w' w.heap.size (fun _=>True) v0_ r∧Below w.heap.size w w':=by
 have hu101:=Tryz.underlying101
 have hu65:=Tryz.underlying65
 have HR0:=zk hr0
 have HC0:=zk hc0
 clear hr0 hc0
 have HB:=zk (Below.refl w.heap.size w)
 have H:(if 0≤(l0.length:Int) then (if ((l0.length:Int):Int).toNat≤5864062014805 then (laws_toRegexSG.l0 gF k l0 (List.replicate ((l0.length:Int):Int).toNat z65) 0) else (none)) else (none))=some r:=h
 clear h
 by_cases c2:0≤(l0.length:Int)
 rw [if_pos c2] at H
 have c2b0:=eq_true c2
 have c2b1:decide (0≤(l0.length:Int))=true:=decide_eq_true c2
 clear c2
 by_cases c3:((l0.length:Int):Int).toNat≤5864062014805
 ·rw [if_pos c3] at H
  have c3b0:=eq_true c3
  have c3b1:decide (((l0.length:Int):Int).toNat≤5864062014805)=true:=decide_eq_true c3
  clear c3
  obtain ⟨y136001,hy136001⟩:∃ y_:List (S65),y_=(List.replicate ((l0.length:Int):Int).toNat z65):=⟨_,rfl⟩
  replace H:(laws_toRegexSG.l0 gF k l0 y136001 0)=some r:=by first|(rw [hy136001];with_reducible exact H)|(have H2_:=(Option.bind_some _ _).symm.trans H;rw [hy136001];with_reducible exact H2_)|(have H2_:=(Option.bind_some _ _).symm.trans H;with_reducible exact H2_)|with_reducible exact H|(rw [hy136001];exact H)|exact H
  have Ny136001:=zk hy136001
  clear hy136001
  have H':=zk H
  clear H
  go_enter Tryz.func136,Tryz.ntmps136
  go_wp2_with (first|((with_reducible refine gate_dst (N:=7) rfl ?_);refine Kd.R_make k65 _ 65 rfl (N:=7) rfl 63 _ _ rfl (l0.length:Int) rfl rfl Tryz.underlying63 (.agg #[(.int .i64 0),(.string ⟨#[]⟩),(.slice none 0 0)]) 48 info65 rfl (by decide) (by omega) z65 (ok:=fun _=>True) (okp:=fun _=>True) (k65_mkM _ _ _ z65 (Kd.R_nil _ _ _ _ _)) (fun _ hk=>hk) trivial (of_decide_eq_true za9) (Nat.le_trans (Nat.mul_le_mul_right _ (of_decide_eq_true za9:(l0.length:Int).toNat≤5864062014805)) (by omega)) (Below.refl _ _) (Nat.le_refl _) ?_;intro v136002 w4 ho5 hb hg_ hnew_;clear hg_ hnew_;(first|rw [← Ny136001.out] at ho5|(simp only [Int.reduceToNat] at ho5;rw [← Ny136001.out] at ho5));have n0_:=zk (Kd.R_lower ho5 (below_size za4));have n1_:=zk (below_step za4 hb);clear HB;have HO136003:=n0_;have HB:=n1_;clear n0_ n1_;clear hb ho5))
  first|go_loopg [4] k (fun kq v4 w'=>∃ (x3_1:List (S65)) (x4_1:Int),v4 = .int .i64 x4_1∧Aside0 (laws_toRegexSG.l0 gF kq l0 x3_1 x4_1=some r)∧Aside0 (kq≤k)∧Aside0 (Kd.R k65 65 w' w.heap.size (fun _=>True) v136002 x3_1)∧Aside0 (Below w.heap.size w w'))|(simp only [Act.put,zt,zv,zu];go_loopg [4] k (fun kq v4 w'=>∃ (x3_1:List (S65)) (x4_1:Int),v4 = .int .i64 x4_1∧Aside0 (laws_toRegexSG.l0 gF kq l0 x3_1 x4_1=some r)∧Aside0 (kq≤k)∧Aside0 (Kd.R k65 65 w' w.heap.size (fun _=>True) v136002 x3_1)∧Aside0 (Below w.heap.size w w')))
  case atStart=>exact ⟨(y136001),(0),za8,H',⟨Nat.le_refl _⟩,⟨za1 HO136003.out⟩,⟨za4⟩⟩
  case round =>
   clear H'
   try clear c3
   try clear c3b0
   try clear c3b1
   obtain ⟨x3_1,x4_1,rfl,HA,HK1,HO_3,HB⟩:=hrel
   cases gk with
   | zero=>exact absurd HA.out (by simp [laws_toRegexSG.l0])
   | succ k1 =>
    have H:=HA.out
    clear HA
    simp only [laws_toRegexSG.l0] at H
    by_cases c6:x4_1 < (l0.length:Int)
    rw [if_pos c6] at H
    have c6b0:decide (x4_1 < (l0.length:Int))=true:=decide_eq_true c6
    clear c6
    by_cases c7:0≤x4_1
    rw [if_pos c7] at H
    have c7b0:decide (0≤x4_1)=true:=decide_eq_true c7
    clear c7
    replace H:=zo H
    obtain ⟨⟨t136005,t136006,t136007⟩,A80,H⟩:=H
    replace H:(if x4_1 < (x3_1.length:Int) then (laws_toRegexSG.l0 gF k1 l0 (x3_1.set (x4_1:Int).toNat (⟨t136005,t136006,t136007⟩:S65)) (wrap64 (x4_1+1))) else (none))=some r:=H
    have A8:=zk A80
    clear A80
    by_cases c9:x4_1 < (x3_1.length:Int)
    ·rw [if_pos c9] at H
     have c9b0:decide (x4_1 < (x3_1.length:Int))=true:=decide_eq_true c9
     clear c9
     obtain ⟨y136010,hy136010⟩:∃ y_:List (S65),y_=(x3_1.set (x4_1:Int).toNat (⟨t136005,t136006,t136007⟩:S65)):=⟨_,rfl⟩
     replace H:(laws_toRegexSG.l0 gF k1 l0 y136010 (wrap64 (x4_1+1)))=some r:=by first|(rw [hy136010];with_reducible exact H)|(have H2_:=(Option.bind_some _ _).symm.trans H;rw [hy136010];with_reducible exact H2_)|(have H2_:=(Option.bind_some _ _).symm.trans H;with_reducible exact H2_)|with_reducible exact H|(rw [hy136010];exact H)|exact H
     have Ny136010:=zk hy136010
     clear hy136010
     have H':=zk H
     clear H
     have p136004:0≤(x4_1:Int):=of_decide_eq_true za9
     have q136004:x4_1 < (l0.length:Int):=of_decide_eq_true za9
     obtain ⟨ad136004,A136004_2,c136004_2,e136004,hx136004_0,hx136004_1,hx136004_2,hl136004_2,hi136004_2⟩:=at_T101 HR0.out x4_1 p136004 q136004
     cases e136004
     replace hx136004_0:=zx HB.out hx136004_0
     replace hx136004_1:=zx HB.out hx136004_1
     replace hx136004_2:=zx HB.out hx136004_2
     have HR136004_2:=zk hi136004_2
     have HC136004_2:=zk hl136004_2
     clear hi136004_2 hl136004_2
     replace p136004:=eq_true p136004
     replace q136004:=eq_true q136004
     go_wp2_with (first|((with_reducible refine gate_callee (f:=120) rfl ?_);refine goesL_ (some 20) rfl rfl Tryz.func120 (by kernel_rfl) rfl #[.agg #[.int .i64 ((rd_T101 l0 x4_1).f0),.string ((rd_T101 l0 x4_1).f1),.slice A136004_2 ((rd_T101 l0 x4_1).f2).length c136004_2]] rfl za5 ?_;(with_reducible refine (gC k1 ((rd_T101 l0 x4_1).f0) ((rd_T101 l0 x4_1).f1) _ _ ((rd_T101 l0 x4_1).f2) t136005 t136006 t136007 _ ?side1 ?side2 A8.out).mono ?_);(case side1=>repeat (first|exact (Kd.C_below HR136004_2.out HB.out)|(with_reducible refine Kd.C_alloc ?_ _)|(with_reducible refine Kd.C_drewN ?_ _)|(with_reducible refine Kd.C_drew ?_)));(case side2=>exact HC136004_2.out);rintro e w11 ⟨v136008,rfl,ho0,hb⟩;refine ⟨_,rfl,?_⟩;have n0_:=zk (Kd.R_elder' (za1 HO_3.out) (Kd.R_base ho0) hb);have n1_:=zk (Kd.R_lower (Kd.R_new' ho0 (Kd.R_lt (za1 HO_3.out))) (below_size za4));have n2_:=zk (below_step za4 hb);clear HO_3;clear HB;have HO_3:=n0_;have HO136009:=n1_;have HB:=n2_;clear n0_ n1_ n2_;(try clear hb);(try clear hb2);(try clear hk);(try clear hi);(try clear ho0);have p10:0≤(x4_1:Int):=of_decide_eq_true za9;have q10:(x4_1:Int) < ((x3_1.length:Int):Int):=of_decide_eq_true za9;obtain ⟨go10,co10,eo10,gb10,gl10,cl10,HG10⟩:=Kd.R_form HO_3.out (by omega);(first|cases eo10|(injection eo10 with ea_ en_ ec_;(first|subst ea_|(injection ea_ with ea_;subst ea_));subst ec_;clear en_));have GB10:=zk gb10;have GG10:=zk HG10;clear gb10 gl10 HG10;obtain ⟨ce10,hcl10,hM10,hcc10,hfr10⟩:=Kd.R_elem HO_3.out z65 (x4_1:Int) p10 q10;obtain ⟨ve10_2,rfl,ge10_2⟩:=k65_openM hM10;have hx10_0:w11.cell? ⟨go10,(x4_1:Int).toNat * 3,none⟩=some (.int .i64 ((rd_T65 x3_1 x4_1).f0)):=hcc10 0 _ rfl;have hx10_1:w11.cell? ⟨go10,(x4_1:Int).toNat * 3+1,none⟩=some (.string ((rd_T65 x3_1 x4_1).f1)):=hcc10 1 _ rfl;have hx10_2:w11.cell? ⟨go10,(x4_1:Int).toNat * 3+2,none⟩=some (ve10_2):=hcc10 2 _ rfl;have hf10_0:w11.frozen? ⟨go10,(x4_1:Int).toNat * 3,none⟩=false:=hfr10 0;have hf10_1:w11.frozen? ⟨go10,(x4_1:Int).toNat * 3+1,none⟩=false:=hfr10 1;have hf10_2:w11.frozen? ⟨go10,(x4_1:Int).toNat * 3+2,none⟩=false:=hfr10 2;clear hcl10 hcc10 hfr10;(try clear hM10);replace p10:=eq_true p10;replace q10:=eq_true q10;have n_:=zk (Kd.R_mono (ok':=(fun k_=>some k_ ≠ (v136008:Value).ownBlock)) HO_3.out (fun k_ hk=>hk.2));clear HO_3;have HO_3:=n_;clear n_;have HX12:=zk (show Kd.R k65 65 w11 w.heap.size (fun _=>True) (.slice (some ⟨go10,0,none⟩) x3_1.length co10) x3_1 from (by (with_reducible repeat (first|apply Kd.R_alloc|apply Kd.R_drewN|apply Kd.R_drew));exact Kd.R_mono HO_3.out (fun _ hk=>trivial)));obtain ⟨ce12,hcl12,hM12,hcc12,hfr12⟩:=Kd.R_elem HX12.out z65 (x4_1:Int) (of_decide_eq_true za9) (by have h_:(x4_1:Int) < ((x3_1.length:Int):Int):=of_decide_eq_true za9;first|exact h_|(have e_:=(Kd.R_reads' HO_3.out).1;omega)|simpa using h_);obtain ⟨ve12_2,rfl,ge12_2⟩:=k65_openM hM12;have HP12:=Kd.R_seg HX12.out (x4_1:Int) (of_decide_eq_true za9) (by have h_:(x4_1:Int) < ((x3_1.length:Int):Int):=of_decide_eq_true za9;first|exact h_|(have e_:=(Kd.R_reads' HO_3.out).1;omega)|simpa using h_) (seg:=[.int .i64 t136005,.string t136006,v136008]) (j:=0) hcl12 hcc12 (show 3≤3 from by decide) (x':=(⟨t136005,t136006,t136007⟩:S65)) (k65_mkM _ _ _ (⟨t136005,t136006,t136007⟩:S65) (Kd.R_mono (HO136009.out) (fun k_ hk=>⟨trivial,fun e_=>(hk.2) (by rw [e_];rfl)⟩))) (fun _ hk=>hk);have hx12_0:=hcc12 0 _ rfl;(try simp only [show (k65).sz=3 from rfl,Nat.mul_one,Nat.add_zero] at hx12_0);have hf12_0:=hfr12 0;(try simp only [show (k65).sz=3 from rfl,Nat.mul_one,Nat.add_zero] at hf12_0);have hx12_1:=hcc12 1 _ rfl;(try simp only [show (k65).sz=3 from rfl,Nat.mul_one,Nat.add_zero] at hx12_1);have hf12_1:=hfr12 1;(try simp only [show (k65).sz=3 from rfl,Nat.mul_one,Nat.add_zero] at hf12_1);have hx12_2:=hcc12 2 _ rfl;(try simp only [show (k65).sz=3 from rfl,Nat.mul_one,Nat.add_zero] at hx12_2);have hf12_2:=hfr12 2;(try simp only [show (k65).sz=3 from rfl,Nat.mul_one,Nat.add_zero] at hf12_2);clear hcl12 hcc12 hfr12;(try clear hM12))|((with_reducible refine gate_store (t:=65) (p:=21) rfl ?_);refine store_event (t:=65) (p:=21) (v:=?vo_w13) (w1:=(((w11.setCell ⟨go10,(x4_1:Int).toNat * 3,none⟩ (.int .i64 t136005)).setCell ⟨go10,(x4_1:Int).toNat * 3+1,none⟩ (.string t136006)).setCell ⟨go10,(x4_1:Int).toNat * 3+2,none⟩ (v136008))) ?hg ?ho ?hn ?hr ?_;(case ho=>rfl);(case hg=>rfl);(case hn=>rfl);(case hr=>first|(go_simp;done)|(go_simp;rfl)|(obtain ⟨sA_,sc_,se_⟩:=Kd.R_slice HO136009.out;subst se_;first|(go_simp;done)|(go_simp;rfl)));intro w13 hw;have hg:w11.grownBy w13 (some go10):=(by rw [hw];exact HP12.2);have hp_:Kd.R k65 65 w13 w.heap.size (fun _=>True) (.slice (some ⟨go10,0,none⟩) x3_1.length co10) y136010:=(by rw [hw,Ny136010.out];exact HP12.1);clear HP12;have n0_:=zk (hp_);have n1_:=zk ((by rw [hw];exact below_set (below_set (below_set (HB.out) GB10.out) GB10.out) GB10.out:Below w.heap.size w w13));clear HO_3;clear HB;clear HO136009;have HO_3:=n0_;have HB:=n1_;clear n0_ n1_;clear hg hw hp_))
     go_roundg k1
     case measure=>have:=HK1.out;omega
     case rel=>exact ⟨(y136010),(wrap64 (x4_1+1)),za8,H',⟨za17⟩,⟨za1 HO_3.out⟩,⟨za4⟩⟩
    ·rw [if_neg c9] at H
     exact absurd H (by simp)
    ·rw [if_neg c7] at H
     exact absurd H (by simp)
    ·rw [if_neg c6] at H
     have c6b0:decide (x4_1 < (l0.length:Int))=false:=decide_eq_false c6
     clear c6
     obtain rfl:=zi H
     go_wp2
     go_ret
     exact ⟨_,za7,za1 HO_3.out,za4⟩
 ·rw [if_neg c3] at H
  exact absurd H (by simp)
 ·rw [if_neg c2] at H
  exact absurd H (by simp)
theorem laws_toRegexSG.mono_lg (gF gF2:Nat→Int→ByteArray→List (S101)→Option (Int × ByteArray × (List (S65)))) (hg:∀ b0 b1 b2 k,LeO (gF k b0 b1 b2) (gF2 k b0 b1 b2)):∀ k,(∀ y0 y1 y2,LeO (laws_toRegexSG.l0 gF k y0 y1 y2) (laws_toRegexSG.l0 gF2 k y0 y1 y2))
 | 0=>fun _ _ _ r h=>by simp [laws_toRegexSG.l0] at h
 | k+1=>by
  have ih0:=laws_toRegexSG.mono_lg gF gF2 hg k
  ·intro y0 y1 y2
   unfold laws_toRegexSG.l0
   repeat' first
   | (with_reducible exact ih0 _ _ _)
   | (with_reducible exact hg _ _ _ _)
   | (with_reducible exact LeO.refl _)
   | (with_reducible exact LeO.none _)
   | (with_reducible refine LeO.ite ?_ ?_)
   | (with_reducible refine LeO.bind ?_ (fun _=>?_))
   | exact hg _ _ _ _
theorem laws_toRegexSG.monog (gF gF2:Nat→Int→ByteArray→List (S101)→Option (Int × ByteArray × (List (S65)))) (hg:∀ b0 b1 b2 k,LeO (gF k b0 b1 b2) (gF2 k b0 b1 b2)):∀ a0 k,LeO (laws_toRegexSG.f gF k a0) (laws_toRegexSG.f gF2 k a0):=by
 intro a0 k
 have ih0:=laws_toRegexSG.mono_lg gF gF2 hg k
 unfold laws_toRegexSG.f
 repeat' first
  | (with_reducible exact ih0 _ _ _)
  | (with_reducible exact hg _ _ _ _)
  | (with_reducible exact LeO.refl _)
  | (with_reducible exact LeO.none _)
  | (with_reducible refine LeO.ite ?_ ?_)
  | (with_reducible refine LeO.bind ?_ (fun _=>?_))
  | exact hg _ _ _ _
def laws_toRegexG.f (gF:Nat→Int→ByteArray→List (S101)→Option (Int × ByteArray × (List (S65)))) (k:Nat) (a0_0:Int) (a0_1:ByteArray) (l0_2:List (S101)):Option (Int × ByteArray × (List (S65))):=(laws_toRegexSG.f gF k l0_2).bind fun t120004=>(some (a0_0,a0_1,t120004))
theorem laws_toRegexG.mono (gF:Nat→Int→ByteArray→List (S101)→Option (Int × ByteArray × (List (S65)))) (gM:∀ a0 a1 a2 k,LeO (gF k a0 a1 a2) (gF (k+1) a0 a1 a2)):∀ a0 a1 a2 k,LeO (laws_toRegexG.f gF k a0 a1 a2) (laws_toRegexG.f gF (k+1) a0 a1 a2):=by
 intro a0 a1 a2 k
 unfold laws_toRegexG.f
 repeat' first
  | with_reducible first|exact laws_toRegexSG.mono gF gM _ _|exact LeO.refl _|exact LeO.none _|refine LeO.ite ?_ ?_|refine LeO.bind ?_ (fun _=>?_)
theorem laws_toRegexG.calls (gF:Nat→Int→ByteArray→List (S101)→Option (Int × ByteArray × (List (S65)))) (gC:∀ (k:Nat) (a0_0:Int) (a0_1:ByteArray) (A0_2:Option Addr) (c0_2:Nat) (l0_2:List (S101)) (r1:Int) (r2:ByteArray) (r3:List (S65)) (w:World) (hr0_2:Kd.C k101 w A0_2 l0_2.length l0_2) (hc0_2:l0_2.length≤c0_2) (h:gF k a0_0 a0_1 l0_2=some (r1,r2,r3)),Calls Tryz.prog 120 #[.agg #[.int .i64 a0_0,.string a0_1,.slice A0_2 l0_2.length c0_2]] w fun e w'=>∃ v2_:Value,e = .returned (.agg #[.int .i64 r1,.string r2,v2_])∧Kd.R k65 65 w' w.heap.size (fun _=>True) v2_ r3∧Below w.heap.size w w') (k:Nat) (a0_0:Int) (a0_1:ByteArray) (A0_2:Option Addr) (c0_2:Nat) (l0_2:List (S101)) (r1:Int) (r2:ByteArray) (r3:List (S65)) (w:World) (hr0_2:Kd.C k101 w A0_2 l0_2.length l0_2) (hc0_2:l0_2.length≤c0_2) (h:laws_toRegexG.f gF k a0_0 a0_1 l0_2=some (r1,r2,r3)) :
  Calls Tryz.prog 120 #[.agg #[.int .i64 a0_0,.string a0_1,.slice A0_2 l0_2.length c0_2]] w fun e w'=>∃ v2_:Value,e = .returned (.agg #[.int .i64 r1,.string r2,v2_])∧Kd.R k65 65 w' w.heap.size (fun _=>True) v2_ r3∧Below w.heap.size w w':=by
 have hu101:=Tryz.underlying101
 have hu65:=Tryz.underlying65
 have HR0_2:=zk hr0_2
 have HC0_2:=zk hc0_2
 clear hr0_2 hc0_2
 have HB:=zk (Below.refl w.heap.size w)
 have H:((laws_toRegexSG.f gF k l0_2).bind fun t120004=>(some (a0_0,a0_1,t120004)))=some (r1,r2,r3):=h
 clear h
 replace H:=zo H
 obtain ⟨t120004,A20,H⟩:=H
 replace H:(some (a0_0,a0_1,t120004))=some (r1,r2,r3):=H
 have A2:=zk A20
 clear A20
 simp only [Option.some.injEq,Prod.mk.injEq] at H
 obtain ⟨rfl,rfl,rfl⟩:=H
 go_enter Tryz.func120,Tryz.ntmps120
 go_wp2_with (first|((with_reducible refine gate_dst (N:=1) rfl ?_);refine zE (N:=1) (cs:=#[.int .i64 a0_0,.string a0_1,.slice A0_2 l0_2.length c0_2]) (t:=101) ?_;intro gb120001 hg w3 hbox hb;have n0_:=zk (below_step za4 hb);have n1_:=zk (hbox);have n2_:=zk (zs (w:=w) hg za4);have n3_:=zk (zs (w:=w) hg za4);clear HB;have HB:=n0_;have BK120001:=n1_;have GW120001:=n2_;have GE120001:=n3_;clear n0_ n1_ n2_ n3_;clear hb hbox hg)|((with_reducible refine gate_dst (N:=2) rfl ?_);refine zE (N:=2) (cs:=#[.int .i64 0,.string (⟨#[]⟩:ByteArray),.slice none 0 0]) (t:=65) ?_;intro gb120002 hg w4 hbox hb;have n0_:=zk (zb BK120001.out hb);have n1_:=zk (below_step za4 hb);have n2_:=zk (hbox);have n3_:=zk (zs (w:=w) hg za4);have n4_:=zk (zs (w:=w) hg za4);have n5_:=zk ((by rw [hg];exact Nat.ne_of_lt (zl BK120001.out):gb120001 ≠ gb120002));have n6_:=zk ((by rw [hg];exact Nat.ne_of_gt (zl BK120001.out):gb120002 ≠ gb120001));clear BK120001;clear HB;have BK120001:=n0_;have HB:=n1_;have BK120002:=n2_;have GW120002:=n3_;have GE120002:=n4_;have NB120001_120002:=n5_;have NB120002_120001:=n6_;clear n0_ n1_ n2_ n3_ n4_ n5_ n6_;clear hb hbox hg)|((with_reducible refine gate_dst (N:=3) rfl ?_);refine zE (N:=3) (cs:=#[.int .i64 0,.string (⟨#[]⟩:ByteArray),.slice none 0 0]) (t:=65) ?_;intro gb120003 hg w5 hbox hb;have n0_:=zk (zb BK120001.out hb);have n1_:=zk (zb BK120002.out hb);have n2_:=zk (below_step za4 hb);have n3_:=zk (hbox);have n4_:=zk (zs (w:=w) hg za4);have n5_:=zk (zs (w:=w) hg za4);have n6_:=zk ((by rw [hg];exact Nat.ne_of_lt (zl BK120001.out):gb120001 ≠ gb120003));have n7_:=zk ((by rw [hg];exact Nat.ne_of_gt (zl BK120001.out):gb120003 ≠ gb120001));have n8_:=zk ((by rw [hg];exact Nat.ne_of_lt (zl BK120002.out):gb120002 ≠ gb120003));have n9_:=zk ((by rw [hg];exact Nat.ne_of_gt (zl BK120002.out):gb120003 ≠ gb120002));clear BK120001;clear BK120002;clear HB;have BK120001:=n0_;have BK120002:=n1_;have HB:=n2_;have BK120003:=n3_;have GW120003:=n4_;have GE120003:=n5_;have NB120001_120003:=n6_;have NB120003_120001:=n7_;have NB120002_120003:=n8_;have NB120003_120002:=n9_;clear n0_ n1_ n2_ n3_ n4_ n5_ n6_ n7_ n8_ n9_;clear hb hbox hg;have hnb6:=NB120001_120002.out;have hnc6:=NB120002_120001.out;have hnb7:=NB120001_120003.out;have hnc7:=NB120003_120001.out;obtain ⟨hcz8_0,hcz8_1,hcz8_2,hfz8_0,hfz8_1,hfz8_2⟩:=blk3 BK120001.out;have hnb9:=NB120003_120002.out;have hnc9:=NB120002_120003.out;obtain ⟨hcz10_0,hcz10_1,hcz10_2,hfz10_0,hfz10_1,hfz10_2⟩:=blk3 BK120003.out)|((with_reducible refine gate_callee (f:=136) rfl ?_);refine goesL_ (some 12) rfl rfl Tryz.func136 (by kernel_rfl) rfl #[.slice A0_2 l0_2.length c0_2] rfl za5 ?_;(with_reducible refine (laws_toRegexSG.calls gF gC k _ _ l0_2 t120004 _ ?side1 ?side2 A2.out).mono ?_);(case side1=>exact Kd.C_below HR0_2.out za4);(case side2=>exact HC0_2.out);rintro e w11 ⟨v120005,rfl,ho0,hb⟩;refine ⟨_,rfl,?_⟩;have n0_:=zk (Kd.R_lower (Kd.R_newB (Kd.R_newB ho0 (g:=gb120002) (o:=.cells #[.int .i64 0,.string (⟨#[]⟩:ByteArray),.slice none 0 0] 65 (0,0)) za34) (g:=gb120003) (o:=.cells #[.int .i64 a0_0,.string a0_1,.slice none 0 0] 65 (0,0)) za29) (below_size za4));have n1_:=zk (blk_below (g:=gb120001) (o:=.cells #[.int .i64 a0_0,.string a0_1,.slice A0_2 l0_2.length c0_2] 101 (0,0)) (by (with_reducible repeat (first|refine blk_drewN ?_ _|refine blk_drew ?_|refine blk_alloc ?_ _));refine blk_far ?_ NB120001_120003.out _;(with_reducible repeat (first|refine blk_drewN ?_ _|refine blk_drew ?_|refine blk_alloc ?_ _));refine blk_far ?_ NB120001_120003.out _;(with_reducible repeat (first|refine blk_drewN ?_ _|refine blk_drew ?_|refine blk_alloc ?_ _));exact BK120001.out) hb);have n2_:=zk (blk_below (g:=gb120002) (o:=.cells #[.int .i64 0,.string (⟨#[]⟩:ByteArray),.slice none 0 0] 65 (0,0)) za34 hb);have n3_:=zk (blk_below (g:=gb120003) (o:=.cells #[.int .i64 a0_0,.string a0_1,.slice none 0 0] 65 (0,0)) za29 hb);have n4_:=zk (below_step za4 hb);clear BK120001;clear BK120002;clear BK120003;clear HB;have HO120006:=n0_;have BK120001:=n1_;have BK120002:=n2_;have BK120003:=n3_;have HB:=n4_;clear n0_ n1_ n2_ n3_ n4_;(try clear hb);(try clear hb2);(try clear hk);(try clear hi);(try clear ho0);obtain ⟨Ao12,co12,eo12⟩:=Kd.R_slice HO120006.out;subst eo12;obtain ⟨hcz13_0,hcz13_1,hcz13_2,hfz13_0,hfz13_1,hfz13_2⟩:=blk3 BK120003.out;obtain ⟨hcz14_0,hcz14_1,hcz14_2,hfz14_0,hfz14_1,hfz14_2⟩:=blk3 BK120002.out))
 refine bodyPost_ret (results_cell_row rfl _ _ gb120002 65 #[.int .i64 a0_0,.string a0_1,.slice Ao12 t120004.length co12] (0,0) _ rfl (by (with_reducible repeat (first|refine blk_drewN ?_ _|refine blk_drew ?_|refine blk_alloc ?_ _));refine blk_put (cs:=#[.int .i64 a0_0,.string a0_1,.slice none 0 0]) ?_ 2 _ rfl;(with_reducible repeat (first|refine blk_drewN ?_ _|refine blk_drew ?_|refine blk_alloc ?_ _));refine blk_put (cs:=#[.int .i64 a0_0,.string (⟨#[]⟩:ByteArray),.slice none 0 0]) ?_ 1 _ rfl;(with_reducible repeat (first|refine blk_drewN ?_ _|refine blk_drew ?_|refine blk_alloc ?_ _));refine blk_put (cs:=#[.int .i64 0,.string (⟨#[]⟩:ByteArray),.slice none 0 0]) ?_ 0 _ rfl;(with_reducible repeat (first|refine blk_drewN ?_ _|refine blk_drew ?_|refine blk_alloc ?_ _));refine blk_far ?_ NB120002_120003.out _;(with_reducible repeat (first|refine blk_drewN ?_ _|refine blk_drew ?_|refine blk_alloc ?_ _));exact BK120002.out) Tryz.underlying65 rfl (by kernel_rfl)) rfl ?_
 exact ⟨_,za7,by (with_reducible repeat (first|apply Kd.R_alloc|apply Kd.R_drewN|apply Kd.R_drew));exact Kd.R_mono (Kd.R_far (p:=⟨gb120002,2,none⟩) (Kd.R_far (p:=⟨gb120002,1,none⟩) (Kd.R_far (p:=⟨gb120002,0,none⟩) (Kd.R_far (p:=⟨gb120003,2,none⟩) (Kd.R_mono (Kd.R_mono HO120006.out (fun k_ hk=>(⟨hk,hk.2⟩:_∧k_ ≠ gb120003))) (fun k_ hk=>(⟨hk,hk.1.1.2⟩:_∧k_ ≠ gb120002))) (fun _ hk=>hk.1.2) (.slice Ao12 t120004.length co12)) (fun _ hk=>hk.2) (.int .i64 a0_0)) (fun _ hk=>hk.2) (.string a0_1)) (fun _ hk=>hk.2) (.slice Ao12 t120004.length co12)) (fun _ hk=>trivial),za4⟩
theorem laws_toRegexG.monog (gF gF2:Nat→Int→ByteArray→List (S101)→Option (Int × ByteArray × (List (S65)))) (hg:∀ b0 b1 b2 k,LeO (gF k b0 b1 b2) (gF2 k b0 b1 b2)):∀ a0 a1 a2 k,LeO (laws_toRegexG.f gF k a0 a1 a2) (laws_toRegexG.f gF2 k a0 a1 a2):=by
 intro a0 a1 a2 k
 unfold laws_toRegexG.f
 repeat' first
  | (with_reducible exact laws_toRegexSG.monog gF gF2 hg _ _)
  | (with_reducible exact LeO.refl _)
  | (with_reducible exact LeO.none _)
  | (with_reducible refine LeO.ite ?_ ?_)
  | (with_reducible refine LeO.bind ?_ (fun _=>?_))
  | exact laws_toRegexSG.monog gF gF2 hg _ _
def laws_toRegex.f:Nat→Int→ByteArray→List (S101)→Option (Int × ByteArray × (List (S65)))
 | 0,_,_,_=>none
 | K+1,a0_,a1_,a2_=>laws_toRegexG.f (fun _=>laws_toRegex.f K) K a0_ a1_ a2_
theorem laws_toRegex.mono:∀ a0 a1 a2 k,LeO (laws_toRegex.f k a0 a1 a2) (laws_toRegex.f (k+1) a0 a1 a2):=by
 intro a0_ a1_ a2_ k
 induction k generalizing a0_ a1_ a2_ with
 | zero=>exact LeO.none _
 | succ K ih =>
  intro r h
  have h1:=laws_toRegexG.monog (fun _=>laws_toRegex.f K) (fun _=>laws_toRegex.f (K+1)) (fun a0_ a1_ a2_ k=>ih a0_ a1_ a2_) a0_ a1_ a2_ K r h
  exact laws_toRegexG.mono (fun _=>laws_toRegex.f (K+1)) (fun a0_ a1_ a2_ k=>LeO.refl _) a0_ a1_ a2_ K r h1
theorem laws_toRegex.calls (k:Nat) (a0_0:Int) (a0_1:ByteArray) (A0_2:Option Addr) (c0_2:Nat) (l0_2:List (S101)) (r1:Int) (r2:ByteArray) (r3:List (S65)) (w:World) (hr0_2:Kd.C k101 w A0_2 l0_2.length l0_2) (hc0_2:l0_2.length≤c0_2) (h:laws_toRegex.f k a0_0 a0_1 l0_2=some (r1,r2,r3)) :
  Calls Tryz.prog 120 #[.agg #[.int .i64 a0_0,.string a0_1,.slice A0_2 l0_2.length c0_2]] w fun e w'=>∃ v2_:Value,e = .returned (.agg #[.int .i64 r1,.string r2,v2_])∧Kd.R k65 65 w' w.heap.size (fun _=>True) v2_ r3∧Below w.heap.size w w':=by
 induction k generalizing a0_0 a0_1 A0_2 c0_2 l0_2 r1 r2 r3 w hr0_2 hc0_2 with
 | zero=>exact absurd h (by simp [laws_toRegex.f])
 | succ K ih=>exact laws_toRegexG.calls (fun _=>laws_toRegex.f K) (fun k a0_0 a0_1 A0_2 c0_2 l0_2 r1 r2 r3 w hr0_2 hc0_2 h=>ih a0_0 a0_1 A0_2 c0_2 l0_2 r1 r2 r3 w hr0_2 hc0_2 h) K a0_0 a0_1 A0_2 c0_2 l0_2 r1 r2 r3 w hr0_2 hc0_2 h
def laws_toRegexS.f (k:Nat) (l0:List (S101)):Option ((List (S65))):=laws_toRegexSG.f laws_toRegex.f k l0
theorem laws_toRegexS.mono:∀ a0 k,LeO (laws_toRegexS.f k a0) (laws_toRegexS.f (k+1) a0):=laws_toRegexSG.mono laws_toRegex.f laws_toRegex.mono
theorem laws_toRegexS.calls (k:Nat) (A0:Option Addr) (c0:Nat) (l0:List (S101)) (r:List (S65)) (w:World) (hr0:Kd.C k101 w A0 l0.length l0) (hc0:l0.length≤c0) (h:laws_toRegexS.f k l0=some r) :
 Calls Tryz.prog 136 #[.slice A0 l0.length c0] w fun e w'=>∃ v0_:Value,e = .returned (v0_)∧Kd.R k65 65 w' w.heap.size (fun _=>True) v0_ r∧Below w.heap.size w w':=laws_toRegexSG.calls laws_toRegex.f laws_toRegex.calls k A0 c0 l0 r w hr0 hc0 h
def laws_eqRegexSG.l0 (gF:Nat→Int→ByteArray→List (S65)→Int→ByteArray→List (S65)→Option (Bool)):Nat→List (S65)→List (S65)→Int→Option (Bool)
 | 0,_,_,_=>none
 | k+1,x0,x1,x5=>if x5 < (x0.length:Int) then (if 0≤x5 then (if x5 < (x1.length:Int) then ((gF k ((rd_T65 x0 x5).f0) ((rd_T65 x0 x5).f1) ((rd_T65 x0 x5).f2) ((rd_T65 x1 x5).f0) ((rd_T65 x1 x5).f1) ((rd_T65 x1 x5).f2)).bind fun t137003=>(if t137003=true then (laws_eqRegexSG.l0 gF k x0 x1 (wrap64 (x5+1))) else (some false))) else (none)) else (none)) else (some true)
def laws_eqRegexSG.f (gF:Nat→Int→ByteArray→List (S65)→Int→ByteArray→List (S65)→Option (Bool)) (k:Nat) (l0:List (S65)) (l1:List (S65)):Option (Bool):=if (l0.length:Int)=(l1.length:Int) then (laws_eqRegexSG.l0 gF k l0 l1 0) else (some false)
theorem laws_eqRegexSG.mono_l (gF:Nat→Int→ByteArray→List (S65)→Int→ByteArray→List (S65)→Option (Bool)) (gM:∀ a0 a1 a2 a3 a4 a5 k,LeO (gF k a0 a1 a2 a3 a4 a5) (gF (k+1) a0 a1 a2 a3 a4 a5)):∀ k,(∀ y0 y1 y2,LeO (laws_eqRegexSG.l0 gF k y0 y1 y2) (laws_eqRegexSG.l0 gF (k+1) y0 y1 y2))
 | 0=>fun _ _ _ r h=>by simp [laws_eqRegexSG.l0] at h
 | k+1=>by
  have ih0:=laws_eqRegexSG.mono_l gF gM k
  ·intro y0 y1 y2
   unfold laws_eqRegexSG.l0
   repeat' first
   | with_reducible first|exact ih0 _ _ _|exact gM _ _ _ _ _ _ _|exact LeO.refl _|exact LeO.none _|refine LeO.ite ?_ ?_|refine LeO.bind ?_ (fun _=>?_)
theorem laws_eqRegexSG.mono (gF:Nat→Int→ByteArray→List (S65)→Int→ByteArray→List (S65)→Option (Bool)) (gM:∀ a0 a1 a2 a3 a4 a5 k,LeO (gF k a0 a1 a2 a3 a4 a5) (gF (k+1) a0 a1 a2 a3 a4 a5)):∀ a0 a1 k,LeO (laws_eqRegexSG.f gF k a0 a1) (laws_eqRegexSG.f gF (k+1) a0 a1):=by
 intro a0 a1 k
 have ih0:=laws_eqRegexSG.mono_l gF gM k
 unfold laws_eqRegexSG.f
 repeat' first
  | with_reducible first|exact ih0 _ _ _|exact gM _ _ _ _ _ _ _|exact LeO.refl _|exact LeO.none _|refine LeO.ite ?_ ?_|refine LeO.bind ?_ (fun _=>?_)
def laws_eqRegexSG.T6:Bool × List (List Nat × List Nat):=(true,[([],[]),([],[]),([0,1],[0,1]),([2],[2]),([],[]),([],[]),([4,5],[4,5]),([6],[6]),([3,7],[3,7]),([8],[8])])
def laws_eqRegexSG.B6:List Nat:=[0,0,3,7,0,0,48,112,255,511]
theorem laws_eqRegexSG.tab6:rtab .any (opsOf Tryz.f137 6)=laws_eqRegexSG.T6:=by kernel_rfl
theorem laws_eqRegexSG.bits6:waitsOk laws_eqRegexSG.T6.2 laws_eqRegexSG.B6=true:=by kernel_rfl
theorem laws_eqRegexSG.calls (gF:Nat→Int→ByteArray→List (S65)→Int→ByteArray→List (S65)→Option (Bool)) (gC:∀ (k:Nat) (a0_0:Int) (a0_1:ByteArray) (A0_2:Option Addr) (c0_2:Nat) (l0_2:List (S65)) (a1_0:Int) (a1_1:ByteArray) (A1_2:Option Addr) (c1_2:Nat) (l1_2:List (S65)) (r:Bool) (w:World) (hr0_2:Kd.C k65 w A0_2 l0_2.length l0_2) (hc0_2:l0_2.length≤c0_2) (hr1_2:Kd.C k65 w A1_2 l1_2.length l1_2) (hc1_2:l1_2.length≤c1_2) (h:gF k a0_0 a0_1 l0_2 a1_0 a1_1 l1_2=some r),Calls Tryz.prog 122 #[.agg #[.int .i64 a0_0,.string a0_1,.slice A0_2 l0_2.length c0_2],.agg #[.int .i64 a1_0,.string a1_1,.slice A1_2 l1_2.length c1_2]] w fun e w'=>e = .returned (.bool r)∧Below w.heap.size w w') (k:Nat) (A0:Option Addr) (c0:Nat) (l0:List (S65)) (A1:Option Addr) (c1:Nat) (l1:List (S65)) (r:Bool) (w:World) (hr0:Kd.C k65 w A0 l0.length l0) (hc0:l0.length≤c0) (hr1:Kd.C k65 w A1 l1.length l1) (hc1:l1.length≤c1) (h:laws_eqRegexSG.f gF k l0 l1=some r) :
  Calls Tryz.prog 137 #[.slice A0 l0.length c0,.slice A1 l1.length c1] w fun e w'=>e = .returned (.bool r)∧Below w.heap.size w w':=by
 have hu65:=Tryz.underlying65
 have HR0:=zk hr0
 have HC0:=zk hc0
 clear hr0 hc0
 have HR1:=zk hr1
 have HC1:=zk hc1
 clear hr1 hc1
 have HB:=zk (Below.refl w.heap.size w)
 have H:(if (l0.length:Int)=(l1.length:Int) then (laws_eqRegexSG.l0 gF k l0 l1 0) else (some false))=some r:=h
 clear h
 by_cases c3:(l0.length:Int)=(l1.length:Int)
 ·rw [if_pos c3] at H
  have c3b0:((l0.length:Int) == (l1.length:Int))=true:=beq_iff_eq.mpr c3
  have c3b1:((l0.length:Int) != (l1.length:Int))=false:=bne_eq_false_iff_eq.mpr c3
  have c3b2:(l0.length == l1.length)=true:=by first|simpa using c3|(simp at c3 ⊢;omega)
  clear c3
  have H':=zk H
  clear H
  go_enter Tryz.func137,Tryz.ntmps137
  go_wp2
  first|go_loopg [5] k (fun kq v5 w'=>∃ (x5_1:Int),v5 = .int .i64 x5_1∧Aside0 (laws_eqRegexSG.l0 gF kq l0 l1 x5_1=some r)∧Aside0 (kq≤k)∧Aside0 (Below w.heap.size w w'))|(simp only [Act.put,zt,zv,zu];go_loopg [5] k (fun kq v5 w'=>∃ (x5_1:Int),v5 = .int .i64 x5_1∧Aside0 (laws_eqRegexSG.l0 gF kq l0 l1 x5_1=some r)∧Aside0 (kq≤k)∧Aside0 (Below w.heap.size w w')))
  case atStart=>exact ⟨(0),za8,H',⟨Nat.le_refl _⟩,⟨za4⟩⟩
  case round =>
   clear H'
   try clear c3
   try clear c3b0
   try clear c3b1
   try clear c3b2
   obtain ⟨x5_1,rfl,HA,HK1,HB⟩:=hrel
   cases gk with
   | zero=>exact absurd HA.out (by simp [laws_eqRegexSG.l0])
   | succ k1 =>
    have H:=HA.out
    clear HA
    simp only [laws_eqRegexSG.l0] at H
    by_cases c4:x5_1 < (l0.length:Int)
    rw [if_pos c4] at H
    have c4b0:decide (x5_1 < (l0.length:Int))=true:=decide_eq_true c4
    clear c4
    by_cases c5:0≤x5_1
    rw [if_pos c5] at H
    have c5b0:decide (0≤x5_1)=true:=decide_eq_true c5
    clear c5
    by_cases c6:x5_1 < (l1.length:Int)
    rw [if_pos c6] at H
    have c6b0:decide (x5_1 < (l1.length:Int))=true:=decide_eq_true c6
    clear c6
    replace H:=zo H
    obtain ⟨t137003,A70,H⟩:=H
    replace H:(if t137003=true then (laws_eqRegexSG.l0 gF k1 l0 l1 (wrap64 (x5_1+1))) else (some false))=some r:=H
    have A7:=zk A70
    clear A70
    by_cases c8:t137003=true
    ·subst c8
     have H1:(laws_eqRegexSG.l0 gF k1 l0 l1 (wrap64 (x5_1+1)))=some r:=by rw [if_pos rfl] at H;exact H
     clear H
     have H:=H1
     clear H1
     have H':=zk H
     clear H
     try go_wp2
     have n0_:=zk (below_drew1 HB.out)
     clear HB
     have HB:=n0_
     clear n0_
     have p137001:0≤(x5_1:Int):=of_decide_eq_true za9
     have q137001:x5_1 < (l0.length:Int):=of_decide_eq_true za9
     obtain ⟨ad137001,A137001_2,c137001_2,e137001,hx137001_0,hx137001_1,hx137001_2,hl137001_2,hi137001_2⟩:=at_T65 HR0.out x5_1 p137001 q137001
     have hw137001_2:=hx137001_2
     have hw137001_1:=hx137001_1
     have hw137001_0:=hx137001_0
     cases e137001
     replace hx137001_0:=zx HB.out hx137001_0
     replace hx137001_1:=zx HB.out hx137001_1
     replace hx137001_2:=zx HB.out hx137001_2
     have HR137001_2:=zk hi137001_2
     have HC137001_2:=zk hl137001_2
     clear hi137001_2 hl137001_2
     replace p137001:=eq_true p137001
     replace q137001:=eq_true q137001
     have p137002:0≤(x5_1:Int):=of_decide_eq_true za9
     have q137002:x5_1 < (l1.length:Int):=of_decide_eq_true za9
     obtain ⟨ad137002,A137002_2,c137002_2,e137002,hx137002_0,hx137002_1,hx137002_2,hl137002_2,hi137002_2⟩:=at_T65 HR1.out x5_1 p137002 q137002
     have hw137002_2:=hx137002_2
     have hw137002_1:=hx137002_1
     have hw137002_0:=hx137002_0
     cases e137002
     replace hx137002_0:=zx HB.out hx137002_0
     replace hx137002_1:=zx HB.out hx137002_1
     replace hx137002_2:=zx HB.out hx137002_2
     have HR137002_2:=zk hi137002_2
     have HC137002_2:=zk hl137002_2
     clear hi137002_2 hl137002_2
     replace p137002:=eq_true p137002
     replace q137002:=eq_true q137002
     refine start_ (n:=10) (S:=fun w'=>w'.cell? (ad137001.add ((x5_1).toNat * 3))=some (.int .i64 ((rd_T65 l0 x5_1).f0))∧w'.cell? ⟨(ad137001.add ((x5_1).toNat * 3)).block,(ad137001.add ((x5_1).toNat * 3)).off+1,none⟩=some (.string ((rd_T65 l0 x5_1).f1))∧w'.cell? ⟨(ad137001.add ((x5_1).toNat * 3)).block,(ad137001.add ((x5_1).toNat * 3)).off+2,none⟩=some (.slice A137001_2 ((rd_T65 l0 x5_1).f2).length c137001_2)∧w'.cell? (ad137002.add ((x5_1).toNat * 3))=some (.int .i64 ((rd_T65 l1 x5_1).f0))∧w'.cell? ⟨(ad137002.add ((x5_1).toNat * 3)).block,(ad137002.add ((x5_1).toNat * 3)).off+1,none⟩=some (.string ((rd_T65 l1 x5_1).f1))∧w'.cell? ⟨(ad137002.add ((x5_1).toNat * 3)).block,(ad137002.add ((x5_1).toNat * 3)).off+2,none⟩=some (.slice A137002_2 ((rd_T65 l1 x5_1).f2).length c137002_2)) (ds:=[]) #[false,false,false,false,false,false,false,false,false,false] (by kernel_rfl) rfl rfl ⟨((HB.out.cell (World.block_lt_of_cell? w _ hw137001_0)).trans hw137001_0),((HB.out.cell (World.block_lt_of_cell? w _ hw137001_1)).trans hw137001_1),((HB.out.cell (World.block_lt_of_cell? w _ hw137001_2)).trans hw137001_2),((HB.out.cell (World.block_lt_of_cell? w _ hw137002_0)).trans hw137002_0),((HB.out.cell (World.block_lt_of_cell? w _ hw137002_1)).trans hw137002_1),((HB.out.cell (World.block_lt_of_cell? w _ hw137002_2)).trans hw137002_2)⟩ (fun hHeld=>?_);refine with_tabW laws_eqRegexSG.tab6 laws_eqRegexSG.bits6 (fun HT_ HW_=>?_)
     generalize wr.drew=w9 at HB HR137001_2 HR137002_2 hx137001_0 hx137001_1 hx137001_2 hx137002_0 hx137002_1 hx137002_2 hHeld ⊢
     refine pure_ (i:=0) (N:=some 17) (v:=?_) (a':=?_) #[true,false,false,false,false,false,false,false,false,false] rfl rfl (any_of HT_.out (by kernel_rfl)) (fun _ _ _ h=>h) (Or.inl ⟨by rfl,?_⟩) ?_ ?_
     rotate_left
     ·intro w'
      go_simp
      first|with_reducible rfl|(rw [if_neg (by omega)];done)
     rotate_left
     ·simp only [Act.put,zt,zu,zv,i64_w,i32_w]
      rfl
     refine pure_ (i:=1) (N:=some 18) (v:=?_) (a':=?_) #[true,true,false,false,false,false,false,false,false,false] rfl rfl (any_of HT_.out (by kernel_rfl)) (fun _ _ _ h=>h) (Or.inl ⟨by rfl,?_⟩) ?_ ?_
     rotate_left
     ·intro w'
      go_simp
      first|with_reducible rfl|(rw [if_neg (by omega)];done)
     rotate_left
     ·simp only [Act.put,zt,zu,zv,i64_w,i32_w]
      rfl
     refine pure_ (i:=2) (N:=some 19) (v:=?_) (a':=?_) #[true,true,true,false,false,false,false,false,false,false] rfl rfl (any_of HT_.out (by kernel_rfl)) (fun _ _ _ h=>h) (Or.inl ⟨by rfl,?_⟩) ?_ ?_
     rotate_left
     ·intro w'
      go_simp
      first|with_reducible rfl|(rw [if_neg (by omega)];done)
     rotate_left
     ·simp only [Act.put,zt,zu,zv,i64_w,i32_w]
      rfl
     refine pure_ (i:=4) (N:=some 21) (v:=?_) (a':=?_) #[true,true,true,false,true,false,false,false,false,false] rfl rfl (any_of HT_.out (by kernel_rfl)) (fun _ _ _ h=>h) (Or.inl ⟨by rfl,?_⟩) ?_ ?_
     rotate_left
     ·intro w'
      go_simp
      first|with_reducible rfl|(rw [if_neg (by omega)];done)
     rotate_left
     ·simp only [Act.put,zt,zu,zv,i64_w,i32_w]
      rfl
     refine pure_ (i:=5) (N:=some 22) (v:=?_) (a':=?_) #[true,true,true,false,true,true,false,false,false,false] rfl rfl (any_of HT_.out (by kernel_rfl)) (fun _ _ _ h=>h) (Or.inl ⟨by rfl,?_⟩) ?_ ?_
     rotate_left
     ·intro w'
      go_simp
      first|with_reducible rfl|(rw [if_neg (by omega)];done)
     rotate_left
     ·simp only [Act.put,zt,zu,zv,i64_w,i32_w]
      rfl
     refine pure_ (i:=6) (N:=some 23) (v:=?_) (a':=?_) #[true,true,true,false,true,true,true,false,false,false] rfl rfl (any_of HT_.out (by kernel_rfl)) (fun _ _ _ h=>h) (Or.inl ⟨by rfl,?_⟩) ?_ ?_
     rotate_left
     ·intro w'
      go_simp
      first|with_reducible rfl|(rw [if_neg (by omega)];done)
     rotate_left
     ·simp only [Act.put,zt,zu,zv,i64_w,i32_w]
      rfl
     refine take_ (i:=3) (N:=some 20) (v:=?_) (a':=?_) #[true,true,true,true,true,true,true,false,false,false] rfl rfl (take_ofW HT_.out HW_.out (by kernel_rfl)) (fun _ _ _ h=>h) (Or.inl ⟨by rfl,?_⟩) hHeld ?_ ?_
     rotate_left
     ·rintro w' ⟨s0,s1,s2,s3,s4,s5⟩
      go_simp
      first|with_reducible rfl|(rw [if_neg (by omega)];done)
     rotate_left
     ·simp only [Act.put,zt,zu,zv,i64_w,i32_w]
      rfl
     refine take_ (i:=7) (N:=some 24) (v:=?_) (a':=?_) #[true,true,true,true,true,true,true,true,false,false] rfl rfl (take_ofW HT_.out HW_.out (by kernel_rfl)) (fun _ _ _ h=>h) (Or.inl ⟨by rfl,?_⟩) hHeld ?_ ?_
     rotate_left
     ·rintro w' ⟨s0,s1,s2,s3,s4,s5⟩
      go_simp
      first|with_reducible rfl|(rw [if_neg (by omega)];done)
     rotate_left
     ·simp only [Act.put,zt,zu,zv,i64_w,i32_w]
      rfl
     refine one_ (i:=8) (N:=some 25) #[true,true,true,true,true,true,true,true,true,false] rfl rfl (one_of HT_.out (by kernel_rfl)) (by decide) (fun K hK=>?_)
     refine goes_ Tryz.func122 (by kernel_rfl) rfl #[.agg #[.int .i64 ((rd_T65 l0 x5_1).f0),.string ((rd_T65 l0 x5_1).f1),.slice A137001_2 ((rd_T65 l0 x5_1).f2).length c137001_2],.agg #[.int .i64 ((rd_T65 l1 x5_1).f0),.string ((rd_T65 l1 x5_1).f1),.slice A137002_2 ((rd_T65 l1 x5_1).f2).length c137002_2]] (by rfl) rfl rfl za5 ?_
     with_reducible refine (gC k1 ((rd_T65 l0 x5_1).f0) ((rd_T65 l0 x5_1).f1) _ _ ((rd_T65 l0 x5_1).f2) ((rd_T65 l1 x5_1).f0) ((rd_T65 l1 x5_1).f1) _ _ ((rd_T65 l1 x5_1).f2) true _ ?side1 ?side2 ?side3 ?side4 A7.out).mono ?_
     (case side1=>repeat (first|exact (Kd.C_below HR137001_2.out HB.out)|(with_reducible refine Kd.C_alloc ?_ _)|(with_reducible refine Kd.C_drewN ?_ _)|(with_reducible refine Kd.C_drew ?_)))
     (case side2=>exact HC137001_2.out)
     (case side3=>repeat (first|exact (Kd.C_below HR137002_2.out HB.out)|(with_reducible refine Kd.C_alloc ?_ _)|(with_reducible refine Kd.C_drewN ?_ _)|(with_reducible refine Kd.C_drew ?_)))
     (case side4=>exact HC137002_2.out)
     rintro e w10 ⟨rfl,hb⟩
     refine ⟨_,rfl,?_⟩
     have n0_:=zk (below_step za4 hb)
     clear HB
     have HB:=n0_
     clear n0_
     (try clear hb)
     (try clear hb2)
     (try clear hk)
     (try clear hi)
     refine hK.out _ _ ⟨((HB.out.cell (World.block_lt_of_cell? w _ hw137001_0)).trans hw137001_0),((HB.out.cell (World.block_lt_of_cell? w _ hw137001_1)).trans hw137001_1),((HB.out.cell (World.block_lt_of_cell? w _ hw137001_2)).trans hw137001_2),((HB.out.cell (World.block_lt_of_cell? w _ hw137002_0)).trans hw137002_0),((HB.out.cell (World.block_lt_of_cell? w _ hw137002_1)).trans hw137002_1),((HB.out.cell (World.block_lt_of_cell? w _ hw137002_2)).trans hw137002_2)⟩ (fun hHeld=>?_)
     clear hK K
     refine norm_ (a':=?_) ?_ ?_
     rotate_left
     ·show Act.put _ (some 25) _=_
      simp only [Act.put,zt,zu,zv,i64_w,i32_w]
      rfl
     refine pure_ (i:=9) (N:=some 26) (v:=?_) (a':=?_) #[true,true,true,true,true,true,true,true,true,true] rfl rfl (any_of HT_.out (by kernel_rfl)) (fun _ _ _ h=>h) (Or.inl ⟨by rfl,?_⟩) ?_ ?_
     rotate_left
     ·intro w'
      go_simp
      first|with_reducible rfl|(rw [if_neg (by omega)];done)
     rotate_left
     ·simp only [Act.put,zt,zu,zv,i64_w,i32_w]
      rfl
     refine done_ (done_of HT_.out (by kernel_rfl)) ?_
     try go_wp2
     go_roundg k1
     case measure=>have:=HK1.out;omega
     case rel=>exact ⟨(wrap64 (x5_1+1)),za8,H',⟨za17⟩,⟨za4⟩⟩
    ·replace c8:=Bool.eq_false_iff.mpr c8
     subst c8
     have H1:(some false)=some r:=by rw [if_neg (show ¬ (false=true) by decide)] at H;exact H
     clear H
     have H:=H1
     clear H1
     obtain rfl:=zi H
     try go_wp2
     have n0_:=zk (below_drew1 HB.out)
     clear HB
     have HB:=n0_
     clear n0_
     have p137001:0≤(x5_1:Int):=of_decide_eq_true za9
     have q137001:x5_1 < (l0.length:Int):=of_decide_eq_true za9
     obtain ⟨ad137001,A137001_2,c137001_2,e137001,hx137001_0,hx137001_1,hx137001_2,hl137001_2,hi137001_2⟩:=at_T65 HR0.out x5_1 p137001 q137001
     have hw137001_2:=hx137001_2
     have hw137001_1:=hx137001_1
     have hw137001_0:=hx137001_0
     cases e137001
     replace hx137001_0:=zx HB.out hx137001_0
     replace hx137001_1:=zx HB.out hx137001_1
     replace hx137001_2:=zx HB.out hx137001_2
     have HR137001_2:=zk hi137001_2
     have HC137001_2:=zk hl137001_2
     clear hi137001_2 hl137001_2
     replace p137001:=eq_true p137001
     replace q137001:=eq_true q137001
     have p137002:0≤(x5_1:Int):=of_decide_eq_true za9
     have q137002:x5_1 < (l1.length:Int):=of_decide_eq_true za9
     obtain ⟨ad137002,A137002_2,c137002_2,e137002,hx137002_0,hx137002_1,hx137002_2,hl137002_2,hi137002_2⟩:=at_T65 HR1.out x5_1 p137002 q137002
     have hw137002_2:=hx137002_2
     have hw137002_1:=hx137002_1
     have hw137002_0:=hx137002_0
     cases e137002
     replace hx137002_0:=zx HB.out hx137002_0
     replace hx137002_1:=zx HB.out hx137002_1
     replace hx137002_2:=zx HB.out hx137002_2
     have HR137002_2:=zk hi137002_2
     have HC137002_2:=zk hl137002_2
     clear hi137002_2 hl137002_2
     replace p137002:=eq_true p137002
     replace q137002:=eq_true q137002
     refine start_ (n:=10) (S:=fun w'=>w'.cell? (ad137001.add ((x5_1).toNat * 3))=some (.int .i64 ((rd_T65 l0 x5_1).f0))∧w'.cell? ⟨(ad137001.add ((x5_1).toNat * 3)).block,(ad137001.add ((x5_1).toNat * 3)).off+1,none⟩=some (.string ((rd_T65 l0 x5_1).f1))∧w'.cell? ⟨(ad137001.add ((x5_1).toNat * 3)).block,(ad137001.add ((x5_1).toNat * 3)).off+2,none⟩=some (.slice A137001_2 ((rd_T65 l0 x5_1).f2).length c137001_2)∧w'.cell? (ad137002.add ((x5_1).toNat * 3))=some (.int .i64 ((rd_T65 l1 x5_1).f0))∧w'.cell? ⟨(ad137002.add ((x5_1).toNat * 3)).block,(ad137002.add ((x5_1).toNat * 3)).off+1,none⟩=some (.string ((rd_T65 l1 x5_1).f1))∧w'.cell? ⟨(ad137002.add ((x5_1).toNat * 3)).block,(ad137002.add ((x5_1).toNat * 3)).off+2,none⟩=some (.slice A137002_2 ((rd_T65 l1 x5_1).f2).length c137002_2)) (ds:=[]) #[false,false,false,false,false,false,false,false,false,false] (by kernel_rfl) rfl rfl ⟨((HB.out.cell (World.block_lt_of_cell? w _ hw137001_0)).trans hw137001_0),((HB.out.cell (World.block_lt_of_cell? w _ hw137001_1)).trans hw137001_1),((HB.out.cell (World.block_lt_of_cell? w _ hw137001_2)).trans hw137001_2),((HB.out.cell (World.block_lt_of_cell? w _ hw137002_0)).trans hw137002_0),((HB.out.cell (World.block_lt_of_cell? w _ hw137002_1)).trans hw137002_1),((HB.out.cell (World.block_lt_of_cell? w _ hw137002_2)).trans hw137002_2)⟩ (fun hHeld=>?_);refine with_tabW laws_eqRegexSG.tab6 laws_eqRegexSG.bits6 (fun HT_ HW_=>?_)
     generalize wr.drew=w11 at HB HR137001_2 HR137002_2 hx137001_0 hx137001_1 hx137001_2 hx137002_0 hx137002_1 hx137002_2 hHeld ⊢
     refine pure_ (i:=0) (N:=some 17) (v:=?_) (a':=?_) #[true,false,false,false,false,false,false,false,false,false] rfl rfl (any_of HT_.out (by kernel_rfl)) (fun _ _ _ h=>h) (Or.inl ⟨by rfl,?_⟩) ?_ ?_
     rotate_left
     ·intro w'
      go_simp
      first|with_reducible rfl|(rw [if_neg (by omega)];done)
     rotate_left
     ·simp only [Act.put,zt,zu,zv,i64_w,i32_w]
      rfl
     refine pure_ (i:=1) (N:=some 18) (v:=?_) (a':=?_) #[true,true,false,false,false,false,false,false,false,false] rfl rfl (any_of HT_.out (by kernel_rfl)) (fun _ _ _ h=>h) (Or.inl ⟨by rfl,?_⟩) ?_ ?_
     rotate_left
     ·intro w'
      go_simp
      first|with_reducible rfl|(rw [if_neg (by omega)];done)
     rotate_left
     ·simp only [Act.put,zt,zu,zv,i64_w,i32_w]
      rfl
     refine pure_ (i:=2) (N:=some 19) (v:=?_) (a':=?_) #[true,true,true,false,false,false,false,false,false,false] rfl rfl (any_of HT_.out (by kernel_rfl)) (fun _ _ _ h=>h) (Or.inl ⟨by rfl,?_⟩) ?_ ?_
     rotate_left
     ·intro w'
      go_simp
      first|with_reducible rfl|(rw [if_neg (by omega)];done)
     rotate_left
     ·simp only [Act.put,zt,zu,zv,i64_w,i32_w]
      rfl
     refine pure_ (i:=4) (N:=some 21) (v:=?_) (a':=?_) #[true,true,true,false,true,false,false,false,false,false] rfl rfl (any_of HT_.out (by kernel_rfl)) (fun _ _ _ h=>h) (Or.inl ⟨by rfl,?_⟩) ?_ ?_
     rotate_left
     ·intro w'
      go_simp
      first|with_reducible rfl|(rw [if_neg (by omega)];done)
     rotate_left
     ·simp only [Act.put,zt,zu,zv,i64_w,i32_w]
      rfl
     refine pure_ (i:=5) (N:=some 22) (v:=?_) (a':=?_) #[true,true,true,false,true,true,false,false,false,false] rfl rfl (any_of HT_.out (by kernel_rfl)) (fun _ _ _ h=>h) (Or.inl ⟨by rfl,?_⟩) ?_ ?_
     rotate_left
     ·intro w'
      go_simp
      first|with_reducible rfl|(rw [if_neg (by omega)];done)
     rotate_left
     ·simp only [Act.put,zt,zu,zv,i64_w,i32_w]
      rfl
     refine pure_ (i:=6) (N:=some 23) (v:=?_) (a':=?_) #[true,true,true,false,true,true,true,false,false,false] rfl rfl (any_of HT_.out (by kernel_rfl)) (fun _ _ _ h=>h) (Or.inl ⟨by rfl,?_⟩) ?_ ?_
     rotate_left
     ·intro w'
      go_simp
      first|with_reducible rfl|(rw [if_neg (by omega)];done)
     rotate_left
     ·simp only [Act.put,zt,zu,zv,i64_w,i32_w]
      rfl
     refine take_ (i:=3) (N:=some 20) (v:=?_) (a':=?_) #[true,true,true,true,true,true,true,false,false,false] rfl rfl (take_ofW HT_.out HW_.out (by kernel_rfl)) (fun _ _ _ h=>h) (Or.inl ⟨by rfl,?_⟩) hHeld ?_ ?_
     rotate_left
     ·rintro w' ⟨s0,s1,s2,s3,s4,s5⟩
      go_simp
      first|with_reducible rfl|(rw [if_neg (by omega)];done)
     rotate_left
     ·simp only [Act.put,zt,zu,zv,i64_w,i32_w]
      rfl
     refine take_ (i:=7) (N:=some 24) (v:=?_) (a':=?_) #[true,true,true,true,true,true,true,true,false,false] rfl rfl (take_ofW HT_.out HW_.out (by kernel_rfl)) (fun _ _ _ h=>h) (Or.inl ⟨by rfl,?_⟩) hHeld ?_ ?_
     rotate_left
     ·rintro w' ⟨s0,s1,s2,s3,s4,s5⟩
      go_simp
      first|with_reducible rfl|(rw [if_neg (by omega)];done)
     rotate_left
     ·simp only [Act.put,zt,zu,zv,i64_w,i32_w]
      rfl
     refine one_ (i:=8) (N:=some 25) #[true,true,true,true,true,true,true,true,true,false] rfl rfl (one_of HT_.out (by kernel_rfl)) (by decide) (fun K hK=>?_)
     refine goes_ Tryz.func122 (by kernel_rfl) rfl #[.agg #[.int .i64 ((rd_T65 l0 x5_1).f0),.string ((rd_T65 l0 x5_1).f1),.slice A137001_2 ((rd_T65 l0 x5_1).f2).length c137001_2],.agg #[.int .i64 ((rd_T65 l1 x5_1).f0),.string ((rd_T65 l1 x5_1).f1),.slice A137002_2 ((rd_T65 l1 x5_1).f2).length c137002_2]] (by rfl) rfl rfl za5 ?_
     with_reducible refine (gC k1 ((rd_T65 l0 x5_1).f0) ((rd_T65 l0 x5_1).f1) _ _ ((rd_T65 l0 x5_1).f2) ((rd_T65 l1 x5_1).f0) ((rd_T65 l1 x5_1).f1) _ _ ((rd_T65 l1 x5_1).f2) false _ ?side1 ?side2 ?side3 ?side4 A7.out).mono ?_
     (case side1=>repeat (first|exact (Kd.C_below HR137001_2.out HB.out)|(with_reducible refine Kd.C_alloc ?_ _)|(with_reducible refine Kd.C_drewN ?_ _)|(with_reducible refine Kd.C_drew ?_)))
     (case side2=>exact HC137001_2.out)
     (case side3=>repeat (first|exact (Kd.C_below HR137002_2.out HB.out)|(with_reducible refine Kd.C_alloc ?_ _)|(with_reducible refine Kd.C_drewN ?_ _)|(with_reducible refine Kd.C_drew ?_)))
     (case side4=>exact HC137002_2.out)
     rintro e w12 ⟨rfl,hb⟩
     refine ⟨_,rfl,?_⟩
     have n0_:=zk (below_step za4 hb)
     clear HB
     have HB:=n0_
     clear n0_
     (try clear hb)
     (try clear hb2)
     (try clear hk)
     (try clear hi)
     refine hK.out _ _ ⟨((HB.out.cell (World.block_lt_of_cell? w _ hw137001_0)).trans hw137001_0),((HB.out.cell (World.block_lt_of_cell? w _ hw137001_1)).trans hw137001_1),((HB.out.cell (World.block_lt_of_cell? w _ hw137001_2)).trans hw137001_2),((HB.out.cell (World.block_lt_of_cell? w _ hw137002_0)).trans hw137002_0),((HB.out.cell (World.block_lt_of_cell? w _ hw137002_1)).trans hw137002_1),((HB.out.cell (World.block_lt_of_cell? w _ hw137002_2)).trans hw137002_2)⟩ (fun hHeld=>?_)
     clear hK K
     refine norm_ (a':=?_) ?_ ?_
     rotate_left
     ·show Act.put _ (some 25) _=_
      simp only [Act.put,zt,zu,zv,i64_w,i32_w]
      rfl
     refine pure_ (i:=9) (N:=some 26) (v:=?_) (a':=?_) #[true,true,true,true,true,true,true,true,true,true] rfl rfl (any_of HT_.out (by kernel_rfl)) (fun _ _ _ h=>h) (Or.inl ⟨by rfl,?_⟩) ?_ ?_
     rotate_left
     ·intro w'
      go_simp
      first|with_reducible rfl|(rw [if_neg (by omega)];done)
     rotate_left
     ·simp only [Act.put,zt,zu,zv,i64_w,i32_w]
      rfl
     refine done_ (done_of HT_.out (by kernel_rfl)) ?_
     try go_wp2
     go_ret
     exact ⟨za7,za4⟩
    ·rw [if_neg c6] at H
     exact absurd H (by simp)
    ·rw [if_neg c5] at H
     exact absurd H (by simp)
    ·rw [if_neg c4] at H
     have c4b0:decide (x5_1 < (l0.length:Int))=false:=decide_eq_false c4
     clear c4
     obtain rfl:=zi H
     go_wp2
     go_ret
     exact ⟨za7,za4⟩
 ·rw [if_neg c3] at H
  have c3b0:((l0.length:Int) == (l1.length:Int))=false:=beq_eq_false_iff_ne.mpr c3
  have c3b1:((l0.length:Int) != (l1.length:Int))=true:=bne_iff_ne.mpr c3
  have c3b2:(l0.length == l1.length)=false:=by first|simpa using c3|(simp at c3 ⊢;omega)
  obtain rfl:=zi H
  go_enter Tryz.func137,Tryz.ntmps137
  go_wp2
  go_ret
  exact ⟨za7,za4⟩
theorem laws_eqRegexSG.mono_lg (gF gF2:Nat→Int→ByteArray→List (S65)→Int→ByteArray→List (S65)→Option (Bool)) (hg:∀ b0 b1 b2 b3 b4 b5 k,LeO (gF k b0 b1 b2 b3 b4 b5) (gF2 k b0 b1 b2 b3 b4 b5)):∀ k,(∀ y0 y1 y2,LeO (laws_eqRegexSG.l0 gF k y0 y1 y2) (laws_eqRegexSG.l0 gF2 k y0 y1 y2))
 | 0=>fun _ _ _ r h=>by simp [laws_eqRegexSG.l0] at h
 | k+1=>by
  have ih0:=laws_eqRegexSG.mono_lg gF gF2 hg k
  ·intro y0 y1 y2
   unfold laws_eqRegexSG.l0
   repeat' first
   | (with_reducible exact ih0 _ _ _)
   | (with_reducible exact hg _ _ _ _ _ _ _)
   | (with_reducible exact LeO.refl _)
   | (with_reducible exact LeO.none _)
   | (with_reducible refine LeO.ite ?_ ?_)
   | (with_reducible refine LeO.bind ?_ (fun _=>?_))
   | exact hg _ _ _ _ _ _ _
theorem laws_eqRegexSG.monog (gF gF2:Nat→Int→ByteArray→List (S65)→Int→ByteArray→List (S65)→Option (Bool)) (hg:∀ b0 b1 b2 b3 b4 b5 k,LeO (gF k b0 b1 b2 b3 b4 b5) (gF2 k b0 b1 b2 b3 b4 b5)):∀ a0 a1 k,LeO (laws_eqRegexSG.f gF k a0 a1) (laws_eqRegexSG.f gF2 k a0 a1):=by
 intro a0 a1 k
 have ih0:=laws_eqRegexSG.mono_lg gF gF2 hg k
 unfold laws_eqRegexSG.f
 repeat' first
  | (with_reducible exact ih0 _ _ _)
  | (with_reducible exact hg _ _ _ _ _ _ _)
  | (with_reducible exact LeO.refl _)
  | (with_reducible exact LeO.none _)
  | (with_reducible refine LeO.ite ?_ ?_)
  | (with_reducible refine LeO.bind ?_ (fun _=>?_))
  | exact hg _ _ _ _ _ _ _
def laws_eqRegexG.f (gF:Nat→Int→ByteArray→List (S65)→Int→ByteArray→List (S65)→Option (Bool)) (k:Nat) (a0_0:Int) (a0_1:ByteArray) (l0_2:List (S65)) (a1_0:Int) (a1_1:ByteArray) (l1_2:List (S65)):Option (Bool):=if a0_0=a1_0 then (if a0_1.toList=a1_1.toList then ((laws_eqRegexSG.f gF k l0_2 l1_2).bind fun t122003=>(if t122003=true then (some true) else (some false))) else (some false)) else (some false)
theorem laws_eqRegexG.mono (gF:Nat→Int→ByteArray→List (S65)→Int→ByteArray→List (S65)→Option (Bool)) (gM:∀ a0 a1 a2 a3 a4 a5 k,LeO (gF k a0 a1 a2 a3 a4 a5) (gF (k+1) a0 a1 a2 a3 a4 a5)):∀ a0 a1 a2 a3 a4 a5 k,LeO (laws_eqRegexG.f gF k a0 a1 a2 a3 a4 a5) (laws_eqRegexG.f gF (k+1) a0 a1 a2 a3 a4 a5):=by
 intro a0 a1 a2 a3 a4 a5 k
 unfold laws_eqRegexG.f
 repeat' first
  | with_reducible first|exact laws_eqRegexSG.mono gF gM _ _ _|exact LeO.refl _|exact LeO.none _|refine LeO.ite ?_ ?_|refine LeO.bind ?_ (fun _=>?_)
theorem laws_eqRegexG.calls (gF:Nat→Int→ByteArray→List (S65)→Int→ByteArray→List (S65)→Option (Bool)) (gC:∀ (k:Nat) (a0_0:Int) (a0_1:ByteArray) (A0_2:Option Addr) (c0_2:Nat) (l0_2:List (S65)) (a1_0:Int) (a1_1:ByteArray) (A1_2:Option Addr) (c1_2:Nat) (l1_2:List (S65)) (r:Bool) (w:World) (hr0_2:Kd.C k65 w A0_2 l0_2.length l0_2) (hc0_2:l0_2.length≤c0_2) (hr1_2:Kd.C k65 w A1_2 l1_2.length l1_2) (hc1_2:l1_2.length≤c1_2) (h:gF k a0_0 a0_1 l0_2 a1_0 a1_1 l1_2=some r),Calls Tryz.prog 122 #[.agg #[.int .i64 a0_0,.string a0_1,.slice A0_2 l0_2.length c0_2],.agg #[.int .i64 a1_0,.string a1_1,.slice A1_2 l1_2.length c1_2]] w fun e w'=>e = .returned (.bool r)∧Below w.heap.size w w') (k:Nat) (a0_0:Int) (a0_1:ByteArray) (A0_2:Option Addr) (c0_2:Nat) (l0_2:List (S65)) (a1_0:Int) (a1_1:ByteArray) (A1_2:Option Addr) (c1_2:Nat) (l1_2:List (S65)) (r:Bool) (w:World) (hr0_2:Kd.C k65 w A0_2 l0_2.length l0_2) (hc0_2:l0_2.length≤c0_2) (hr1_2:Kd.C k65 w A1_2 l1_2.length l1_2) (hc1_2:l1_2.length≤c1_2) (h:laws_eqRegexG.f gF k a0_0 a0_1 l0_2 a1_0 a1_1 l1_2=some r) :
   Calls Tryz.prog 122 #[.agg #[.int .i64 a0_0,.string a0_1,.slice A0_2 l0_2.length c0_2],.agg #[.int .i64 a1_0,.string a1_1,.slice A1_2 l1_2.length c1_2]] w fun e w'=>e = .returned (.bool r)∧Below w.heap.size w w':=by
 have hu65:=Tryz.underlying65
 have HR0_2:=zk hr0_2
 have HC0_2:=zk hc0_2
 clear hr0_2 hc0_2
 have HR1_2:=zk hr1_2
 have HC1_2:=zk hc1_2
 clear hr1_2 hc1_2
 have HB:=zk (Below.refl w.heap.size w)
 have H:(if a0_0=a1_0 then (if a0_1.toList=a1_1.toList then ((laws_eqRegexSG.f gF k l0_2 l1_2).bind fun t122003=>(if t122003=true then (some true) else (some false))) else (some false)) else (some false))=some r:=h
 clear h
 by_cases c3:a0_0=a1_0
 rw [if_pos c3] at H
 have c3b0:(a0_0 == a1_0)=true:=beq_iff_eq.mpr c3
 have c3b1:(a0_0 != a1_0)=false:=bne_eq_false_iff_eq.mpr c3
 clear c3
 by_cases c4:a0_1.toList=a1_1.toList
 rw [if_pos c4] at H
 have c4b0:(a0_1.toList == a1_1.toList)=true:=beq_iff_eq.mpr c4
 have c4b1:(a0_1.toList != a1_1.toList)=false:=bne_eq_false_iff_eq.mpr c4
 clear c4
 replace H:=zo H
 obtain ⟨t122003,A50,H⟩:=H
 replace H:(if t122003=true then (some true) else (some false))=some r:=H
 have A5:=zk A50
 clear A50
 by_cases c6:t122003=true
 subst c6
 have H1:(some true)=some r:=by rw [if_pos rfl] at H;exact H
 clear H
 have H:=H1
 clear H1
 rotate_left
 replace c6:=Bool.eq_false_iff.mpr c6
 subst c6
 have H1:(some false)=some r:=by rw [if_neg (show ¬ (false=true) by decide)] at H;exact H
 clear H
 have H:=H1
 clear H1
 rotate_left
 rw [if_neg c4] at H
 have c4b0:(a0_1.toList == a1_1.toList)=false:=beq_eq_false_iff_ne.mpr c4
 have c4b1:(a0_1.toList != a1_1.toList)=true:=bne_iff_ne.mpr c4
 rotate_left
 rw [if_neg c3] at H
 have c3b0:(a0_0 == a1_0)=false:=beq_eq_false_iff_ne.mpr c3
 have c3b1:(a0_0 != a1_0)=true:=bne_iff_ne.mpr c3
 rotate_left
 all_goals
  obtain rfl:=zi H
  go_enter Tryz.func122,Tryz.ntmps122
  go_wp2_with (first|((with_reducible refine gate_dst (N:=2) rfl ?_);refine zE (N:=2) (cs:=#[.int .i64 a0_0,.string a0_1,.slice A0_2 l0_2.length c0_2]) (t:=65) ?_;intro gb122001 hg w13 hbox hb;have n0_:=zk (below_step za4 hb);have n1_:=zk (hbox);have n2_:=zk (zs (w:=w) hg za4);have n3_:=zk (zs (w:=w) hg za4);clear HB;have HB:=n0_;have BK122001:=n1_;have GW122001:=n2_;have GE122001:=n3_;clear n0_ n1_ n2_ n3_;clear hb hbox hg)|((with_reducible refine gate_dst (N:=3) rfl ?_);refine zE (N:=3) (cs:=#[.int .i64 a1_0,.string a1_1,.slice A1_2 l1_2.length c1_2]) (t:=65) ?_;intro gb122002 hg w14 hbox hb;have n0_:=zk (zb BK122001.out hb);have n1_:=zk (below_step za4 hb);have n2_:=zk (hbox);have n3_:=zk (zs (w:=w) hg za4);have n4_:=zk (zs (w:=w) hg za4);have n5_:=zk ((by rw [hg];exact Nat.ne_of_lt (zl BK122001.out):gb122001 ≠ gb122002));have n6_:=zk ((by rw [hg];exact Nat.ne_of_gt (zl BK122001.out):gb122002 ≠ gb122001));clear BK122001;clear HB;have BK122001:=n0_;have HB:=n1_;have BK122002:=n2_;have GW122002:=n3_;have GE122002:=n4_;have NB122001_122002:=n5_;have NB122002_122001:=n6_;clear n0_ n1_ n2_ n3_ n4_ n5_ n6_;clear hb hbox hg;have hnb15:=NB122001_122002.out;have hnc15:=NB122002_122001.out;obtain ⟨hcz16_0,hcz16_1,hcz16_2,hfz16_0,hfz16_1,hfz16_2⟩:=blk3 BK122001.out;obtain ⟨hcz17_0,hcz17_1,hcz17_2,hfz17_0,hfz17_1,hfz17_2⟩:=blk3 BK122002.out)|((with_reducible refine gate_callee (f:=137) rfl ?_);refine goesL_ (some 19) rfl rfl Tryz.func137 (by kernel_rfl) rfl #[.slice A0_2 l0_2.length c0_2,.slice A1_2 l1_2.length c1_2] rfl za5 ?_;(with_reducible refine (laws_eqRegexSG.calls gF gC k _ _ l0_2 _ _ l1_2 _ _ ?side1 ?side2 ?side3 ?side4 A5.out).mono ?_);(case side1=>repeat (first|exact (Kd.C_below HR0_2.out HB.out)|(with_reducible refine Kd.C_alloc ?_ _)|(with_reducible refine Kd.C_drewN ?_ _)|(with_reducible refine Kd.C_drew ?_)));(case side2=>exact HC0_2.out);(case side3=>repeat (first|exact (Kd.C_below HR1_2.out HB.out)|(with_reducible refine Kd.C_alloc ?_ _)|(with_reducible refine Kd.C_drewN ?_ _)|(with_reducible refine Kd.C_drew ?_)));(case side4=>exact HC1_2.out);rintro e w18 ⟨rfl,hb⟩;refine ⟨_,rfl,?_⟩;have n0_:=zk (zb BK122001.out hb);have n1_:=zk (zb BK122002.out hb);have n2_:=zk (below_step za4 hb);clear BK122001;clear BK122002;clear HB;have BK122001:=n0_;have BK122002:=n1_;have HB:=n2_;clear n0_ n1_ n2_;(try clear hb);(try clear hb2);(try clear hk);(try clear hi)))
  go_ret
  exact ⟨za7,za4⟩
theorem laws_eqRegexG.monog (gF gF2:Nat→Int→ByteArray→List (S65)→Int→ByteArray→List (S65)→Option (Bool)) (hg:∀ b0 b1 b2 b3 b4 b5 k,LeO (gF k b0 b1 b2 b3 b4 b5) (gF2 k b0 b1 b2 b3 b4 b5)):∀ a0 a1 a2 a3 a4 a5 k,LeO (laws_eqRegexG.f gF k a0 a1 a2 a3 a4 a5) (laws_eqRegexG.f gF2 k a0 a1 a2 a3 a4 a5):=by
 intro a0 a1 a2 a3 a4 a5 k
 unfold laws_eqRegexG.f
 repeat' first
  | (with_reducible exact laws_eqRegexSG.monog gF gF2 hg _ _ _)
  | (with_reducible exact LeO.refl _)
  | (with_reducible exact LeO.none _)
  | (with_reducible refine LeO.ite ?_ ?_)
  | (with_reducible refine LeO.bind ?_ (fun _=>?_))
  | exact laws_eqRegexSG.monog gF gF2 hg _ _ _
def laws_eqRegex.f:Nat→Int→ByteArray→List (S65)→Int→ByteArray→List (S65)→Option (Bool)
 | 0,_,_,_,_,_,_=>none
 | K+1,a0_,a1_,a2_,a3_,a4_,a5_=>laws_eqRegexG.f (fun _=>laws_eqRegex.f K) K a0_ a1_ a2_ a3_ a4_ a5_
theorem laws_eqRegex.mono:∀ a0 a1 a2 a3 a4 a5 k,LeO (laws_eqRegex.f k a0 a1 a2 a3 a4 a5) (laws_eqRegex.f (k+1) a0 a1 a2 a3 a4 a5):=by
 intro a0_ a1_ a2_ a3_ a4_ a5_ k
 induction k generalizing a0_ a1_ a2_ a3_ a4_ a5_ with
 | zero=>exact LeO.none _
 | succ K ih =>
  intro r h
  have h1:=laws_eqRegexG.monog (fun _=>laws_eqRegex.f K) (fun _=>laws_eqRegex.f (K+1)) (fun a0_ a1_ a2_ a3_ a4_ a5_ k=>ih a0_ a1_ a2_ a3_ a4_ a5_) a0_ a1_ a2_ a3_ a4_ a5_ K r h
  exact laws_eqRegexG.mono (fun _=>laws_eqRegex.f (K+1)) (fun a0_ a1_ a2_ a3_ a4_ a5_ k=>LeO.refl _) a0_ a1_ a2_ a3_ a4_ a5_ K r h1
theorem laws_eqRegex.calls (k:Nat) (a0_0:Int) (a0_1:ByteArray) (A0_2:Option Addr) (c0_2:Nat) (l0_2:List (S65)) (a1_0:Int) (a1_1:ByteArray) (A1_2:Option Addr) (c1_2:Nat) (l1_2:List (S65)) (r:Bool) (w:World) (hr0_2:Kd.C k65 w A0_2 l0_2.length l0_2) (hc0_2:l0_2.length≤c0_2) (hr1_2:Kd.C k65 w A1_2 l1_2.length l1_2) (hc1_2:l1_2.length≤c1_2) (h:laws_eqRegex.f k a0_0 a0_1 l0_2 a1_0 a1_1 l1_2=some r) :
  Calls Tryz.prog 122 #[.agg #[.int .i64 a0_0,.string a0_1,.slice A0_2 l0_2.length c0_2],.agg #[.int .i64 a1_0,.string a1_1,.slice A1_2 l1_2.length c1_2]] w fun e w'=>e = .returned (.bool r)∧Below w.heap.size w w':=by
 induction k generalizing a0_0 a0_1 A0_2 c0_2 l0_2 a1_0 a1_1 A1_2 c1_2 l1_2 r w hr0_2 hc0_2 hr1_2 hc1_2 with
 | zero=>exact absurd h (by simp [laws_eqRegex.f])
 | succ K ih=>exact laws_eqRegexG.calls (fun _=>laws_eqRegex.f K) (fun k a0_0 a0_1 A0_2 c0_2 l0_2 a1_0 a1_1 A1_2 c1_2 l1_2 r w hr0_2 hc0_2 hr1_2 hc1_2 h=>ih a0_0 a0_1 A0_2 c0_2 l0_2 a1_0 a1_1 A1_2 c1_2 l1_2 r w hr0_2 hc0_2 hr1_2 hc1_2 h) K a0_0 a0_1 A0_2 c0_2 l0_2 a1_0 a1_1 A1_2 c1_2 l1_2 r w hr0_2 hc0_2 hr1_2 hc1_2 h
def laws_eqRegexS.f (k:Nat) (l0:List (S65)) (l1:List (S65)):Option (Bool):=laws_eqRegexSG.f laws_eqRegex.f k l0 l1
theorem laws_eqRegexS.mono:∀ a0 a1 k,LeO (laws_eqRegexS.f k a0 a1) (laws_eqRegexS.f (k+1) a0 a1):=laws_eqRegexSG.mono laws_eqRegex.f laws_eqRegex.mono
theorem laws_eqRegexS.calls (k:Nat) (A0:Option Addr) (c0:Nat) (l0:List (S65)) (A1:Option Addr) (c1:Nat) (l1:List (S65)) (r:Bool) (w:World) (hr0:Kd.C k65 w A0 l0.length l0) (hc0:l0.length≤c0) (hr1:Kd.C k65 w A1 l1.length l1) (hc1:l1.length≤c1) (h:laws_eqRegexS.f k l0 l1=some r) :
 Calls Tryz.prog 137 #[.slice A0 l0.length c0,.slice A1 l1.length c1] w fun e w'=>e = .returned (.bool r)∧Below w.heap.size w w':=laws_eqRegexSG.calls laws_eqRegex.f laws_eqRegex.calls k A0 c0 l0 A1 c1 l1 r w hr0 hc0 hr1 hc1 h
def laws_szIntS.f (l0:List Int) (a1:Int):Option (Int):=if (wrap64 (a1 - (l0.length:Int))) < 0 then (some (-1)) else (some (wrap64 (a1 - (l0.length:Int))))
theorem laws_szIntS.calls (A0:Option Addr) (c0:Nat) (l0:List Int) (a1:Int) (r:Int) (w:World) (hr0:Kd.C (Kd.int .i64) w A0 l0.length l0) (hc0:l0.length≤c0) (h:laws_szIntS.f l0 a1=some r) :
   Calls Tryz.prog 119 #[.slice A0 l0.length c0,.int .i64 a1] w fun e w'=>e = .returned (.int .i64 r)∧Drawn0 w w':=by
 have HR0:=zk hr0
 have HC0:=zk hc0
 clear hr0 hc0
 have H:(if (wrap64 (a1 - (l0.length:Int))) < 0 then (some (-1)) else (some (wrap64 (a1 - (l0.length:Int)))))=some r:=h
 clear h
 by_cases c3:(wrap64 (a1 - (l0.length:Int))) < 0
 rw [if_pos c3] at H
 have c3b0:decide ((wrap64 (a1 - (l0.length:Int))) < 0)=true:=decide_eq_true c3
 have c3w:decide ((IntKind.i64.wrap (a1 - (l0.length:Int))) < 0)=true:=by simp only [i64_w];exact c3b0
 rotate_left
 rw [if_neg c3] at H
 have c3b0:decide ((wrap64 (a1 - (l0.length:Int))) < 0)=false:=decide_eq_false c3
 have c3w:decide ((IntKind.i64.wrap (a1 - (l0.length:Int))) < 0)=false:=by simp only [i64_w];exact c3b0
 rotate_left
 all_goals
  clear c3
  obtain rfl:=zi H
  go_enter Tryz.func119,Tryz.ntmps119
  go_wp2
  go_ret
  exact ⟨za8,za11⟩
def laws_toIntS.l0:Nat→List Int→List Int→Int→Option (List Int)
 | 0,_,_,_=>none
 | k+1,x0,x3,x4=>if x4 < (x0.length:Int) then (if 0≤x4 then (if x4 < (x3.length:Int) then (laws_toIntS.l0 k x0 (x3.set (x4:Int).toNat (rd x0 x4)) (wrap64 (x4+1))) else (none)) else (none)) else (some x3)
def laws_toIntS.f (k:Nat) (l0:List Int):Option (List Int):=if 0≤(l0.length:Int) then (if ((l0.length:Int):Int).toNat≤35184372088832 then (laws_toIntS.l0 k l0 (List.replicate ((l0.length:Int):Int).toNat 0) 0) else (none)) else (none)
theorem laws_toIntS.mono_l:∀ k,(∀ y0 y1 y2,LeO (laws_toIntS.l0 k y0 y1 y2) (laws_toIntS.l0 (k+1) y0 y1 y2))
 | 0=>fun _ _ _ r h=>by simp [laws_toIntS.l0] at h
 | k+1=>by
  have ih0:=laws_toIntS.mono_l k
  ·intro y0 y1 y2
   unfold laws_toIntS.l0
   repeat' first
   | with_reducible first|exact ih0 _ _ _|exact LeO.refl _|exact LeO.none _|refine LeO.ite ?_ ?_|refine LeO.bind ?_ (fun _=>?_)
theorem laws_toIntS.mono:∀ a0 k,LeO (laws_toIntS.f k a0) (laws_toIntS.f (k+1) a0):=by
 intro a0 k
 have ih0:=laws_toIntS.mono_l k
 unfold laws_toIntS.f
 repeat' first
  | with_reducible first|exact ih0 _ _ _|exact LeO.refl _|exact LeO.none _|refine LeO.ite ?_ ?_|refine LeO.bind ?_ (fun _=>?_)
theorem laws_toIntS.calls (k:Nat) (A0:Option Addr) (c0:Nat) (l0:List Int) (r:List Int) (w:World) (hr0:Kd.C (Kd.int .i64) w A0 l0.length l0) (hc0:l0.length≤c0) (h:laws_toIntS.f k l0=some r) :
  Calls Tryz.prog 121 #[.slice A0 l0.length c0] w fun e w'=>∃ v0_:Value,e = .returned (v0_)∧Kd.R (Kd.int .i64) 3 w' w.heap.size (fun _=>True) v0_ r∧Below w.heap.size w w':=by
 have HR0:=zk hr0
 have HC0:=zk hc0
 clear hr0 hc0
 have HB:=zk (Below.refl w.heap.size w)
 have H:(if 0≤(l0.length:Int) then (if ((l0.length:Int):Int).toNat≤35184372088832 then (laws_toIntS.l0 k l0 (List.replicate ((l0.length:Int):Int).toNat 0) 0) else (none)) else (none))=some r:=h
 clear h
 by_cases c2:0≤(l0.length:Int)
 rw [if_pos c2] at H
 have c2b0:=eq_true c2
 have c2b1:decide (0≤(l0.length:Int))=true:=decide_eq_true c2
 clear c2
 by_cases c3:((l0.length:Int):Int).toNat≤35184372088832
 ·rw [if_pos c3] at H
  have c3b0:=eq_true c3
  have c3b1:decide (((l0.length:Int):Int).toNat≤35184372088832)=true:=decide_eq_true c3
  clear c3
  obtain ⟨y121001,hy121001⟩:∃ y_:List Int,y_=(List.replicate ((l0.length:Int):Int).toNat 0):=⟨_,rfl⟩
  replace H:(laws_toIntS.l0 k l0 y121001 0)=some r:=by first|(rw [hy121001];with_reducible exact H)|(have H2_:=(Option.bind_some _ _).symm.trans H;rw [hy121001];with_reducible exact H2_)|(have H2_:=(Option.bind_some _ _).symm.trans H;with_reducible exact H2_)|with_reducible exact H|(rw [hy121001];exact H)|exact H
  have Ny121001:=zk hy121001
  clear hy121001
  have H':=zk H
  clear H
  go_enter Tryz.func121,Tryz.ntmps121
  go_wp2_with (first|((with_reducible refine gate_dst (N:=7) rfl ?_);refine Kd.R_make (Kd.int .i64) _ 3 rfl (N:=7) rfl 59 _ _ rfl (l0.length:Int) rfl rfl Tryz.underlying59 (.int .i64 0) 8 info3 rfl (by decide) (by omega) 0 (ok:=fun _=>True) (okp:=fun _=>True) rfl (fun _ hk=>hk) trivial (of_decide_eq_true za9) (Nat.le_trans (Nat.mul_le_mul_right _ (of_decide_eq_true za9:(l0.length:Int).toNat≤35184372088832)) (by omega)) (Below.refl _ _) (Nat.le_refl _) ?_;intro v121002 w4 ho5 hb hg_ hnew_;clear hg_ hnew_;(first|rw [← Ny121001.out] at ho5|(simp only [Int.reduceToNat] at ho5;rw [← Ny121001.out] at ho5));have n0_:=zk (Kd.R_lower ho5 (below_size za4));have n1_:=zk (below_step za4 hb);clear HB;have HO121003:=n0_;have HB:=n1_;clear n0_ n1_;clear hb ho5))
  first|go_loopg [4] k (fun kq v4 w'=>∃ (x3_1:List Int) (x4_1:Int),v4 = .int .i64 x4_1∧Aside0 (laws_toIntS.l0 kq l0 x3_1 x4_1=some r)∧Aside0 (kq≤k)∧Aside0 (Kd.R (Kd.int .i64) 3 w' w.heap.size (fun _=>True) v121002 x3_1)∧Aside0 (Below w.heap.size w w'))|(simp only [Act.put,zt,zv,zu];go_loopg [4] k (fun kq v4 w'=>∃ (x3_1:List Int) (x4_1:Int),v4 = .int .i64 x4_1∧Aside0 (laws_toIntS.l0 kq l0 x3_1 x4_1=some r)∧Aside0 (kq≤k)∧Aside0 (Kd.R (Kd.int .i64) 3 w' w.heap.size (fun _=>True) v121002 x3_1)∧Aside0 (Below w.heap.size w w')))
  case atStart=>exact ⟨(y121001),(0),za8,H',⟨Nat.le_refl _⟩,⟨za1 HO121003.out⟩,⟨za4⟩⟩
  case round =>
   clear H'
   try clear c3
   try clear c3b0
   try clear c3b1
   obtain ⟨x3_1,x4_1,rfl,HA,HK1,HO_3,HB⟩:=hrel
   cases gk with
   | zero=>exact absurd HA.out (by simp [laws_toIntS.l0])
   | succ k1 =>
    have H:=HA.out
    clear HA
    simp only [laws_toIntS.l0] at H
    by_cases c6:x4_1 < (l0.length:Int)
    rw [if_pos c6] at H
    have c6b0:decide (x4_1 < (l0.length:Int))=true:=decide_eq_true c6
    clear c6
    by_cases c7:0≤x4_1
    rw [if_pos c7] at H
    have c7b0:decide (0≤x4_1)=true:=decide_eq_true c7
    clear c7
    by_cases c8:x4_1 < (x3_1.length:Int)
    ·rw [if_pos c8] at H
     have c8b0:decide (x4_1 < (x3_1.length:Int))=true:=decide_eq_true c8
     clear c8
     obtain ⟨y121005,hy121005⟩:∃ y_:List Int,y_=(x3_1.set (x4_1:Int).toNat (rd l0 x4_1)):=⟨_,rfl⟩
     replace H:(laws_toIntS.l0 k1 l0 y121005 (wrap64 (x4_1+1)))=some r:=by first|(rw [hy121005];with_reducible exact H)|(have H2_:=(Option.bind_some _ _).symm.trans H;rw [hy121005];with_reducible exact H2_)|(have H2_:=(Option.bind_some _ _).symm.trans H;with_reducible exact H2_)|with_reducible exact H|(rw [hy121005];exact H)|exact H
     have Ny121005:=zk hy121005
     clear hy121005
     have H':=zk H
     clear H
     have p121004:0≤(x4_1:Int):=of_decide_eq_true za9
     have q121004:x4_1 < (l0.length:Int):=of_decide_eq_true za9
     obtain ⟨ad121004,e121004,hx121004_0⟩:=Kd.at_int HR0.out x4_1 p121004 q121004
     cases e121004
     replace hx121004_0:=zx HB.out hx121004_0
     replace p121004:=eq_true p121004
     replace q121004:=eq_true q121004
     have p9:0≤(x4_1:Int):=of_decide_eq_true za9
     have q9:(x4_1:Int) < ((x3_1.length:Int):Int):=of_decide_eq_true za9
     obtain ⟨go9,co9,eo9,gb9,gl9,cl9,HG9⟩:=Kd.R_form HO_3.out (by omega)
     (first|cases eo9|(injection eo9 with ea_ en_ ec_;(first|subst ea_|(injection ea_ with ea_;subst ea_));subst ec_;clear en_))
     have GB9:=zk gb9
     have GG9:=zk HG9
     clear gb9 gl9 HG9
     obtain ⟨hx9_0,hf9_0⟩:=Kd.R_celln 0 HO_3.out (x4_1:Int) p9 q9
     replace p9:=eq_true p9
     replace q9:=eq_true q9
     have HP10:=Kd.R_putg HO_3.out (x4_1:Int) (rd l0 x4_1)
     go_wp2_with (first|((with_reducible refine gate_store (t:=3) (p:=20) rfl ?_);refine store_event (t:=3) (p:=20) (v:=?vo_w11) (w1:=(wr.setCell ⟨go9,(x4_1:Int).toNat,none⟩ (.int .i64 (rd l0 x4_1)))) ?hg ?ho ?hn ?hr ?_;(case ho=>rfl);(case hg=>rfl);(case hn=>rfl);(case hr=>first|(go_simp;done)|(go_simp;rfl));intro w11 hw;have hg:wr.grownBy w11 (some go9):=(by rw [hw];exact HP10.2);have hp_:Kd.R (Kd.int .i64) 3 w11 w.heap.size (fun _=>True) (.slice (some ⟨go9,0,none⟩) x3_1.length co9) y121005:=(by rw [hw,Ny121005.out];exact HP10.1);clear HP10;have n0_:=zk (hp_);have n1_:=zk ((by rw [hw];exact below_set (HB.out) GB9.out:Below w.heap.size w w11));clear HO_3;clear HB;have HO_3:=n0_;have HB:=n1_;clear n0_ n1_;clear hg hw hp_))
     go_roundg k1
     case measure=>have:=HK1.out;omega
     case rel=>exact ⟨(y121005),(wrap64 (x4_1+1)),za8,H',⟨za17⟩,⟨za1 HO_3.out⟩,⟨za4⟩⟩
    ·rw [if_neg c8] at H
     exact absurd H (by simp)
    ·rw [if_neg c7] at H
     exact absurd H (by simp)
    ·rw [if_neg c6] at H
     have c6b0:decide (x4_1 < (l0.length:Int))=false:=decide_eq_false c6
     clear c6
     obtain rfl:=zi H
     go_wp2
     go_ret
     exact ⟨_,za7,za1 HO_3.out,za4⟩
 ·rw [if_neg c3] at H
  exact absurd H (by simp)
 ·rw [if_neg c2] at H
  exact absurd H (by simp)
def laws_eqIntS.l0:Nat→List Int→List Int→Int→Option (Bool)
 | 0,_,_,_=>none
 | k+1,x0,x1,x5=>if x5 < (x0.length:Int) then (if 0≤x5 then (if x5 < (x1.length:Int) then (if (rd x0 x5)=(rd x1 x5) then (laws_eqIntS.l0 k x0 x1 (wrap64 (x5+1))) else (some false)) else (none)) else (none)) else (some true)
def laws_eqIntS.f (k:Nat) (l0:List Int) (l1:List Int):Option (Bool):=if (l0.length:Int)=(l1.length:Int) then (laws_eqIntS.l0 k l0 l1 0) else (some false)
theorem laws_eqIntS.mono_l:∀ k,(∀ y0 y1 y2,LeO (laws_eqIntS.l0 k y0 y1 y2) (laws_eqIntS.l0 (k+1) y0 y1 y2))
 | 0=>fun _ _ _ r h=>by simp [laws_eqIntS.l0] at h
 | k+1=>by
  have ih0:=laws_eqIntS.mono_l k
  ·intro y0 y1 y2
   unfold laws_eqIntS.l0
   repeat' first
   | with_reducible first|exact ih0 _ _ _|exact LeO.refl _|exact LeO.none _|refine LeO.ite ?_ ?_|refine LeO.bind ?_ (fun _=>?_)
theorem laws_eqIntS.mono:∀ a0 a1 k,LeO (laws_eqIntS.f k a0 a1) (laws_eqIntS.f (k+1) a0 a1):=by
 intro a0 a1 k
 have ih0:=laws_eqIntS.mono_l k
 unfold laws_eqIntS.f
 repeat' first
  | with_reducible first|exact ih0 _ _ _|exact LeO.refl _|exact LeO.none _|refine LeO.ite ?_ ?_|refine LeO.bind ?_ (fun _=>?_)
theorem laws_eqIntS.calls (k:Nat) (A0:Option Addr) (c0:Nat) (l0:List Int) (A1:Option Addr) (c1:Nat) (l1:List Int) (r:Bool) (w:World) (hr0:Kd.C (Kd.int .i64) w A0 l0.length l0) (hc0:l0.length≤c0) (hr1:Kd.C (Kd.int .i64) w A1 l1.length l1) (hc1:l1.length≤c1) (h:laws_eqIntS.f k l0 l1=some r) :
  Calls Tryz.prog 123 #[.slice A0 l0.length c0,.slice A1 l1.length c1] w fun e w'=>e = .returned (.bool r)∧Drawn0 w w':=by
 have HR0:=zk hr0
 have HC0:=zk hc0
 clear hr0 hc0
 have HR1:=zk hr1
 have HC1:=zk hc1
 clear hr1 hc1
 have H:(if (l0.length:Int)=(l1.length:Int) then (laws_eqIntS.l0 k l0 l1 0) else (some false))=some r:=h
 clear h
 by_cases c3:(l0.length:Int)=(l1.length:Int)
 ·rw [if_pos c3] at H
  have c3b0:((l0.length:Int) == (l1.length:Int))=true:=beq_iff_eq.mpr c3
  have c3b1:((l0.length:Int) != (l1.length:Int))=false:=bne_eq_false_iff_eq.mpr c3
  have c3b2:(l0.length == l1.length)=true:=by first|simpa using c3|(simp at c3 ⊢;omega)
  clear c3
  have H':=zk H
  clear H
  go_enter Tryz.func123,Tryz.ntmps123
  go_wp2
  repeat (go_quiet (fail);try go_wp2)
  first|go_loopg [5] k (fun kq v5 w'=>∃ (x5_1:Int),v5 = .int .i64 x5_1∧Aside0 (laws_eqIntS.l0 kq l0 l1 x5_1=some r)∧Aside0 (kq≤k)∧Drawn0 w w')|(simp only [Act.put,zt,zv,zu];go_loopg [5] k (fun kq v5 w'=>∃ (x5_1:Int),v5 = .int .i64 x5_1∧Aside0 (laws_eqIntS.l0 kq l0 l1 x5_1=some r)∧Aside0 (kq≤k)∧Drawn0 w w'))
  case atStart=>exact ⟨(0),za8,H',⟨Nat.le_refl _⟩,za11⟩
  case round =>
   clear H'
   try clear c3
   try clear c3b0
   try clear c3b1
   try clear c3b2
   obtain ⟨x5_1,rfl,HA,HK1,⟨m1,rfl⟩⟩:=hrel
   cases gk with
   | zero=>exact absurd HA.out (by simp [laws_eqIntS.l0])
   | succ k1 =>
    have H:=HA.out
    clear HA
    simp only [laws_eqIntS.l0] at H
    by_cases c4:x5_1 < (l0.length:Int)
    rw [if_pos c4] at H
    have c4b0:decide (x5_1 < (l0.length:Int))=true:=decide_eq_true c4
    clear c4
    by_cases c5:0≤x5_1
    rw [if_pos c5] at H
    have c5b0:decide (0≤x5_1)=true:=decide_eq_true c5
    clear c5
    by_cases c6:x5_1 < (l1.length:Int)
    rw [if_pos c6] at H
    have c6b0:decide (x5_1 < (l1.length:Int))=true:=decide_eq_true c6
    clear c6
    by_cases c7:(rd l0 x5_1)=(rd l1 x5_1)
    rw [if_pos c7] at H
    have c7b0:((rd l0 x5_1) == (rd l1 x5_1))=true:=beq_iff_eq.mpr c7
    have c7b1:((rd l0 x5_1) != (rd l1 x5_1))=false:=bne_eq_false_iff_eq.mpr c7
    clear c7
    have H':=zk H
    clear H
    have fin0_:=zk trivial
    rotate_left
    rw [if_neg c7] at H
    have c7b0:((rd l0 x5_1) == (rd l1 x5_1))=false:=beq_eq_false_iff_ne.mpr c7
    have c7b1:((rd l0 x5_1) != (rd l1 x5_1))=true:=bne_iff_ne.mpr c7
    obtain rfl:=zi H
    have fin1_:=zk trivial
    rotate_left
    · rw [if_neg c6] at H
      exact absurd H (by simp)
    · rw [if_neg c5] at H
      exact absurd H (by simp)
    · rw [if_neg c4] at H
      have c4b0:decide (x5_1 < (l0.length:Int))=false:=decide_eq_false c4
      clear c4
      obtain rfl:=zi H
      go_wp2
      repeat (go_quiet (fail);try go_wp2)
      go_ret
      exact ⟨za8,za11⟩
    all_goals
     have p123001:0≤(x5_1:Int):=of_decide_eq_true za9
     have q123001:x5_1 < (l0.length:Int):=of_decide_eq_true za9
     obtain ⟨ad123001,e123001,hx123001_0⟩:=Kd.at_int HR0.out x5_1 p123001 q123001
     cases e123001
     replace p123001:=eq_true p123001
     replace q123001:=eq_true q123001
     have p123002:0≤(x5_1:Int):=of_decide_eq_true za9
     have q123002:x5_1 < (l1.length:Int):=of_decide_eq_true za9
     obtain ⟨ad123002,e123002,hx123002_0⟩:=Kd.at_int HR1.out x5_1 p123002 q123002
     cases e123002
     replace p123002:=eq_true p123002
     replace q123002:=eq_true q123002
     go_wp2
     repeat (go_quiet (fail);try go_wp2)
     first
     | (
       clear fin0_
       go_roundg k1
       case measure=>have:=HK1.out;omega
       case rel=>exact ⟨(wrap64 (x5_1+1)),za8,H',⟨za17⟩,za11⟩)
     | (
       clear fin1_
       go_ret
       exact ⟨za8,za11⟩)
 ·rw [if_neg c3] at H
  have c3b0:((l0.length:Int) == (l1.length:Int))=false:=beq_eq_false_iff_ne.mpr c3
  have c3b1:((l0.length:Int) != (l1.length:Int))=true:=bne_iff_ne.mpr c3
  have c3b2:(l0.length == l1.length)=false:=by first|simpa using c3|(simp at c3 ⊢;omega)
  obtain rfl:=zi H
  go_enter Tryz.func123,Tryz.ntmps123
  go_wp2
  repeat (go_quiet (fail);try go_wp2)
  go_ret
  exact ⟨za8,za11⟩
def laws_szConstraint.f (k:Nat) (a0_0:Int) (a0_1:ByteArray) (a0_2:ByteArray) (a0_3:Int) (a0_4:ByteArray) (l0_5:List (S101)) (l0_6:List Int) (a0_7:Int) (a1:Int):Option (Int):=if (wrap64 (a1 - (a0_1.size:Int))) < 0 then (some (-1)) else (if (wrap64 ((wrap64 (a1 - (a0_1.size:Int))) - (a0_2.size:Int))) < 0 then (some (-1)) else ((laws_szRegex.f k a0_3 a0_4 l0_5 (wrap64 ((wrap64 (a1 - (a0_1.size:Int))) - (a0_2.size:Int)))).bind fun t85002=>(if t85002 < 0 then (some (-1)) else ((laws_szIntS.f l0_6 t85002).bind fun t85003=>(if t85003 < 0 then (some (-1)) else (some t85003))))))
theorem laws_szConstraint.mono:∀ a0 a1 a2 a3 a4 a5 a6 a7 a8 k,LeO (laws_szConstraint.f k a0 a1 a2 a3 a4 a5 a6 a7 a8) (laws_szConstraint.f (k+1) a0 a1 a2 a3 a4 a5 a6 a7 a8):=by
 intro a0 a1 a2 a3 a4 a5 a6 a7 a8 k
 unfold laws_szConstraint.f
 repeat' first
  | with_reducible first|exact laws_szRegex.mono _ _ _ _ _|exact LeO.refl _|exact LeO.none _|refine LeO.ite ?_ ?_|refine LeO.bind ?_ (fun _=>?_)
theorem laws_szConstraint.calls (k:Nat) (a0_0:Int) (a0_1:ByteArray) (a0_2:ByteArray) (a0_3:Int) (a0_4:ByteArray) (A0_5:Option Addr) (c0_5:Nat) (l0_5:List (S101)) (A0_6:Option Addr) (c0_6:Nat) (l0_6:List Int) (a0_7:Int) (a1:Int) (r:Int) (w:World) (hr0_5:Kd.C k101 w A0_5 l0_5.length l0_5) (hc0_5:l0_5.length≤c0_5) (hr0_6:Kd.C (Kd.int .i64) w A0_6 l0_6.length l0_6) (hc0_6:l0_6.length≤c0_6) (h:laws_szConstraint.f k a0_0 a0_1 a0_2 a0_3 a0_4 l0_5 l0_6 a0_7 a1=some r) :
   Calls Tryz.prog 85 #[.agg #[.int .i64 a0_0,.string a0_1,.string a0_2,.int .i64 a0_3,.string a0_4,.slice A0_5 l0_5.length c0_5,.slice A0_6 l0_6.length c0_6,.int .i64 a0_7],.int .i64 a1] w fun e w'=>e = .returned (.int .i64 r)∧Below w.heap.size w w':=by
 have hu103:=Tryz.underlying103
 have hu101:=Tryz.underlying101
 have HR0_5:=zk hr0_5
 have HC0_5:=zk hc0_5
 clear hr0_5 hc0_5
 have HR0_6:=zk hr0_6
 have HC0_6:=zk hc0_6
 clear hr0_6 hc0_6
 have HB:=zk (Below.refl w.heap.size w)
 have H:(if (wrap64 (a1 - (a0_1.size:Int))) < 0 then (some (-1)) else (if (wrap64 ((wrap64 (a1 - (a0_1.size:Int))) - (a0_2.size:Int))) < 0 then (some (-1)) else ((laws_szRegex.f k a0_3 a0_4 l0_5 (wrap64 ((wrap64 (a1 - (a0_1.size:Int))) - (a0_2.size:Int)))).bind fun t85002=>(if t85002 < 0 then (some (-1)) else ((laws_szIntS.f l0_6 t85002).bind fun t85003=>(if t85003 < 0 then (some (-1)) else (some t85003)))))))=some r:=h
 clear h
 by_cases c3:(wrap64 (a1 - (a0_1.size:Int))) < 0
 rw [if_pos c3] at H
 have c3b0:decide ((wrap64 (a1 - (a0_1.size:Int))) < 0)=true:=decide_eq_true c3
 have c3w:decide ((IntKind.i64.wrap (a1 - (a0_1.size:Int))) < 0)=true:=by simp only [i64_w];exact c3b0
 clear c3
 rotate_left
 rw [if_neg c3] at H
 have c3b0:decide ((wrap64 (a1 - (a0_1.size:Int))) < 0)=false:=decide_eq_false c3
 have c3w:decide ((IntKind.i64.wrap (a1 - (a0_1.size:Int))) < 0)=false:=by simp only [i64_w];exact c3b0
 clear c3
 by_cases c6:(wrap64 ((wrap64 (a1 - (a0_1.size:Int))) - (a0_2.size:Int))) < 0
 rw [if_pos c6] at H
 have c6b0:decide ((wrap64 ((wrap64 (a1 - (a0_1.size:Int))) - (a0_2.size:Int))) < 0)=true:=decide_eq_true c6
 have c6w:decide ((IntKind.i64.wrap ((IntKind.i64.wrap (a1 - (a0_1.size:Int))) - (a0_2.size:Int))) < 0)=true:=by simp only [i64_w];exact c6b0
 clear c6
 rotate_left
 rw [if_neg c6] at H
 have c6b0:decide ((wrap64 ((wrap64 (a1 - (a0_1.size:Int))) - (a0_2.size:Int))) < 0)=false:=decide_eq_false c6
 have c6w:decide ((IntKind.i64.wrap ((IntKind.i64.wrap (a1 - (a0_1.size:Int))) - (a0_2.size:Int))) < 0)=false:=by simp only [i64_w];exact c6b0
 clear c6
 replace H:=zo H
 obtain ⟨t85002,A90,H⟩:=H
 replace H:(if t85002 < 0 then (some (-1)) else ((laws_szIntS.f l0_6 t85002).bind fun t85003=>(if t85003 < 0 then (some (-1)) else (some t85003))))=some r:=H
 have A9:=zk A90
 clear A90
 by_cases c10:t85002 < 0
 rw [if_pos c10] at H
 have c10b0:decide (t85002 < 0)=true:=decide_eq_true c10
 clear c10
 rotate_left
 rw [if_neg c10] at H
 have c10b0:decide (t85002 < 0)=false:=decide_eq_false c10
 clear c10
 replace H:=zo H
 obtain ⟨t85003,A140,H⟩:=H
 replace H:(if t85003 < 0 then (some (-1)) else (some t85003))=some r:=H
 have A14:=zk A140
 clear A140
 by_cases c15:t85003 < 0
 rw [if_pos c15] at H
 have c15b0:decide (t85003 < 0)=true:=decide_eq_true c15
 clear c15
 rotate_left
 rw [if_neg c15] at H
 have c15b0:decide (t85003 < 0)=false:=decide_eq_false c15
 clear c15
 rotate_left
 all_goals
  obtain rfl:=zi H
  go_enter Tryz.func85,Tryz.ntmps85
  go_wp2_with (first|((with_reducible refine gate_dst (N:=2) rfl ?_);refine zE (N:=2) (cs:=#[.int .i64 a0_0,.string a0_1,.string a0_2,.int .i64 a0_3,.string a0_4,.slice A0_5 l0_5.length c0_5,.slice A0_6 l0_6.length c0_6,.int .i64 a0_7]) (t:=103) ?_;intro gb85001 hg w16 hbox hb;have n0_:=zk (below_step za4 hb);have n1_:=zk (hbox);have n2_:=zk (zs (w:=w) hg za4);have n3_:=zk (zs (w:=w) hg za4);clear HB;have HB:=n0_;have BK85001:=n1_;have GW85001:=n2_;have GE85001:=n3_;clear n0_ n1_ n2_ n3_;clear hb hbox hg;obtain ⟨hcz17_0,hcz17_1,hcz17_2,hcz17_3,hcz17_4,hcz17_5,hcz17_6,hcz17_7,hfz17_0,hfz17_1,hfz17_2,hfz17_3,hfz17_4,hfz17_5,hfz17_6,hfz17_7⟩:=blk8 BK85001.out)|((with_reducible refine gate_callee (f:=118) rfl ?_);refine goesL_ (some 22) rfl rfl Tryz.func118 (by kernel_rfl) rfl #[.agg #[.int .i64 a0_3,.string a0_4,.slice A0_5 l0_5.length c0_5],.int .i64 (wrap64 ((wrap64 (a1 - (a0_1.size:Int))) - (a0_2.size:Int)))] rfl za5 ?_;(with_reducible refine (laws_szRegex.calls k a0_3 a0_4 _ _ l0_5 (wrap64 ((wrap64 (a1 - (a0_1.size:Int))) - (a0_2.size:Int))) t85002 _ ?side1 ?side2 A9.out).mono ?_);(case side1=>repeat (first|exact (Kd.C_below HR0_5.out HB.out)|(with_reducible refine Kd.C_alloc ?_ _)|(with_reducible refine Kd.C_drewN ?_ _)|(with_reducible refine Kd.C_drew ?_)));(case side2=>exact HC0_5.out);rintro e w18 ⟨rfl,hb⟩;refine ⟨_,rfl,?_⟩;have n0_:=zk (zb BK85001.out hb);have n1_:=zk (below_step za4 hb);clear BK85001;clear HB;have BK85001:=n0_;have HB:=n1_;clear n0_ n1_;(try clear hb);(try clear hb2);(try clear hk);(try clear hi);obtain ⟨hcz19_0,hcz19_1,hcz19_2,hcz19_3,hcz19_4,hcz19_5,hcz19_6,hcz19_7,hfz19_0,hfz19_1,hfz19_2,hfz19_3,hfz19_4,hfz19_5,hfz19_6,hfz19_7⟩:=blk8 BK85001.out)|((with_reducible refine gate_callee (f:=119) rfl ?_);refine goesL_ (some 28) rfl rfl Tryz.func119 (by kernel_rfl) rfl #[.slice A0_6 l0_6.length c0_6,.int .i64 t85002] rfl za5 ?_;(with_reducible refine (laws_szIntS.calls _ _ l0_6 t85002 t85003 _ ?side1 ?side2 A14.out).mono ?_);(case side1=>repeat (first|exact (Kd.C_below HR0_6.out HB.out)|(with_reducible refine Kd.C_alloc ?_ _)|(with_reducible refine Kd.C_drewN ?_ _)|(with_reducible refine Kd.C_drew ?_)));(case side2=>exact HC0_6.out);rintro e w' ⟨rfl,⟨nd,rfl⟩⟩;refine ⟨_,rfl,?_⟩))
  go_ret
  exact ⟨za7,za4⟩
def laws_szConstraintS.l0:Nat→List (S103)→Int→Int→Option (Int)
 | 0,_,_,_=>none
 | k+1,x0,x1,x5=>if x5 < (x0.length:Int) then (if 0≤x5 then ((laws_szConstraint.f k ((rd_T103 x0 x5).f0) ((rd_T103 x0 x5).f1) ((rd_T103 x0 x5).f2) ((rd_T103 x0 x5).f3.f0) ((rd_T103 x0 x5).f3.f1) ((rd_T103 x0 x5).f3.f2) ((rd_T103 x0 x5).f4) ((rd_T103 x0 x5).f5) x1).bind fun t55002=>(if t55002 < 0 then (some (-1)) else (laws_szConstraintS.l0 k x0 t55002 (wrap64 (x5+1))))) else (none)) else (some x1)
def laws_szConstraintS.f (k:Nat) (l0:List (S103)) (a1:Int):Option (Int):=if (wrap64 (a1 - (l0.length:Int))) < 0 then (some (-1)) else (laws_szConstraintS.l0 k l0 (wrap64 (a1 - (l0.length:Int))) 0)
theorem laws_szConstraintS.mono_l:∀ k,(∀ y0 y1 y2,LeO (laws_szConstraintS.l0 k y0 y1 y2) (laws_szConstraintS.l0 (k+1) y0 y1 y2))
 | 0=>fun _ _ _ r h=>by simp [laws_szConstraintS.l0] at h
 | k+1=>by
  have ih0:=laws_szConstraintS.mono_l k
  ·intro y0 y1 y2
   unfold laws_szConstraintS.l0
   repeat' first
   | with_reducible first|exact ih0 _ _ _|exact laws_szConstraint.mono _ _ _ _ _ _ _ _ _ _|exact LeO.refl _|exact LeO.none _|refine LeO.ite ?_ ?_|refine LeO.bind ?_ (fun _=>?_)
theorem laws_szConstraintS.mono:∀ a0 a1 k,LeO (laws_szConstraintS.f k a0 a1) (laws_szConstraintS.f (k+1) a0 a1):=by
 intro a0 a1 k
 have ih0:=laws_szConstraintS.mono_l k
 unfold laws_szConstraintS.f
 repeat' first
  | with_reducible first|exact ih0 _ _ _|exact laws_szConstraint.mono _ _ _ _ _ _ _ _ _ _|exact LeO.refl _|exact LeO.none _|refine LeO.ite ?_ ?_|refine LeO.bind ?_ (fun _=>?_)
theorem laws_szConstraintS.calls (k:Nat) (A0:Option Addr) (c0:Nat) (l0:List (S103)) (a1:Int) (r:Int) (w:World) (hr0:Kd.C k103 w A0 l0.length l0) (hc0:l0.length≤c0) (h:laws_szConstraintS.f k l0 a1=some r) :
  Calls Tryz.prog 55 #[.slice A0 l0.length c0,.int .i64 a1] w fun e w'=>e = .returned (.int .i64 r)∧Below w.heap.size w w':=by
 have hu103:=Tryz.underlying103
 have HR0:=zk hr0
 have HC0:=zk hc0
 clear hr0 hc0
 have HB:=zk (Below.refl w.heap.size w)
 have H:(if (wrap64 (a1 - (l0.length:Int))) < 0 then (some (-1)) else (laws_szConstraintS.l0 k l0 (wrap64 (a1 - (l0.length:Int))) 0))=some r:=h
 clear h
 by_cases c3:(wrap64 (a1 - (l0.length:Int))) < 0
 ·rw [if_pos c3] at H
  have c3b0:decide ((wrap64 (a1 - (l0.length:Int))) < 0)=true:=decide_eq_true c3
  have c3w:decide ((IntKind.i64.wrap (a1 - (l0.length:Int))) < 0)=true:=by simp only [i64_w];exact c3b0
  clear c3
  obtain rfl:=zi H
  go_enter Tryz.func55,Tryz.ntmps55
  go_wp2
  go_ret
  exact ⟨za7,za4⟩
 ·rw [if_neg c3] at H
  have c3b0:decide ((wrap64 (a1 - (l0.length:Int))) < 0)=false:=decide_eq_false c3
  have c3w:decide ((IntKind.i64.wrap (a1 - (l0.length:Int))) < 0)=false:=by simp only [i64_w];exact c3b0
  clear c3
  have H':=zk H
  clear H
  go_enter Tryz.func55,Tryz.ntmps55
  go_wp2
  first|go_loopg [1,5] k (fun kq v1 v5 w'=>∃ (x1_1:Int) (x5_1:Int),v1 = .int .i64 x1_1∧v5 = .int .i64 x5_1∧Aside0 (laws_szConstraintS.l0 kq l0 x1_1 x5_1=some r)∧Aside0 (kq≤k)∧Aside0 (Below w.heap.size w w'))|(simp only [Act.put,zt,zv,zu];go_loopg [1,5] k (fun kq v1 v5 w'=>∃ (x1_1:Int) (x5_1:Int),v1 = .int .i64 x1_1∧v5 = .int .i64 x5_1∧Aside0 (laws_szConstraintS.l0 kq l0 x1_1 x5_1=some r)∧Aside0 (kq≤k)∧Aside0 (Below w.heap.size w w')))
  case atStart=>exact ⟨(wrap64 (a1 - (l0.length:Int))),(0),za8,za8,H',⟨Nat.le_refl _⟩,⟨za4⟩⟩
  case round =>
   clear H'
   try clear c3
   try clear c3b0
   obtain ⟨x1_1,x5_1,rfl,rfl,HA,HK1,HB⟩:=hrel
   cases gk with
   | zero=>exact absurd HA.out (by simp [laws_szConstraintS.l0])
   | succ k1 =>
    have H:=HA.out
    clear HA
    simp only [laws_szConstraintS.l0] at H
    by_cases c4:x5_1 < (l0.length:Int)
    rw [if_pos c4] at H
    have c4b0:decide (x5_1 < (l0.length:Int))=true:=decide_eq_true c4
    clear c4
    by_cases c5:0≤x5_1
    rw [if_pos c5] at H
    have c5b0:decide (0≤x5_1)=true:=decide_eq_true c5
    clear c5
    replace H:=zo H
    obtain ⟨t55002,A60,H⟩:=H
    replace H:(if t55002 < 0 then (some (-1)) else (laws_szConstraintS.l0 k1 l0 t55002 (wrap64 (x5_1+1))))=some r:=H
    have A6:=zk A60
    clear A60
    by_cases c7:t55002 < 0
    rw [if_pos c7] at H
    have c7b0:decide (t55002 < 0)=true:=decide_eq_true c7
    clear c7
    obtain rfl:=zi H
    have fin0_:=zk trivial
    rotate_left
    rw [if_neg c7] at H
    have c7b0:decide (t55002 < 0)=false:=decide_eq_false c7
    clear c7
    have H':=zk H
    clear H
    have fin1_:=zk trivial
    rotate_left
    · rw [if_neg c5] at H
      exact absurd H (by simp)
    · rw [if_neg c4] at H
      have c4b0:decide (x5_1 < (l0.length:Int))=false:=decide_eq_false c4
      clear c4
      obtain rfl:=zi H
      go_wp2
      go_ret
      exact ⟨za7,za4⟩
    all_goals
     have p55001:0≤(x5_1:Int):=of_decide_eq_true za9
     have q55001:x5_1 < (l0.length:Int):=of_decide_eq_true za9
     obtain ⟨ad55001,A55001_5,c55001_5,A55001_6,c55001_6,e55001,hx55001_0,hx55001_1,hx55001_2,hx55001_3,hx55001_4,hx55001_5,hx55001_6,hx55001_7,hl55001_5,hi55001_5,hl55001_6,hi55001_6⟩:=at_T103 HR0.out x5_1 p55001 q55001
     cases e55001
     replace hx55001_0:=zx HB.out hx55001_0
     replace hx55001_1:=zx HB.out hx55001_1
     replace hx55001_2:=zx HB.out hx55001_2
     replace hx55001_3:=zx HB.out hx55001_3
     replace hx55001_4:=zx HB.out hx55001_4
     replace hx55001_5:=zx HB.out hx55001_5
     replace hx55001_6:=zx HB.out hx55001_6
     replace hx55001_7:=zx HB.out hx55001_7
     have HR55001_5:=zk hi55001_5
     have HC55001_5:=zk hl55001_5
     clear hi55001_5 hl55001_5
     have HR55001_6:=zk hi55001_6
     have HC55001_6:=zk hl55001_6
     clear hi55001_6 hl55001_6
     replace p55001:=eq_true p55001
     replace q55001:=eq_true q55001
     go_wp2_with (((with_reducible refine gate_callee (f:=85) rfl ?_);refine goesL_ (some 23) rfl rfl Tryz.func85 (by kernel_rfl) rfl #[.agg #[.int .i64 ((rd_T103 l0 x5_1).f0),.string ((rd_T103 l0 x5_1).f1),.string ((rd_T103 l0 x5_1).f2),.int .i64 ((rd_T103 l0 x5_1).f3.f0),.string ((rd_T103 l0 x5_1).f3.f1),.slice A55001_5 ((rd_T103 l0 x5_1).f3.f2).length c55001_5,.slice A55001_6 ((rd_T103 l0 x5_1).f4).length c55001_6,.int .i64 ((rd_T103 l0 x5_1).f5)],.int .i64 x1_1] rfl za5 ?_;(with_reducible refine (laws_szConstraint.calls k1 ((rd_T103 l0 x5_1).f0) ((rd_T103 l0 x5_1).f1) ((rd_T103 l0 x5_1).f2) ((rd_T103 l0 x5_1).f3.f0) ((rd_T103 l0 x5_1).f3.f1) _ _ ((rd_T103 l0 x5_1).f3.f2) _ _ ((rd_T103 l0 x5_1).f4) ((rd_T103 l0 x5_1).f5) x1_1 t55002 _ ?side1 ?side2 ?side3 ?side4 A6.out).mono ?_);(case side1=>repeat (first|exact (Kd.C_below HR55001_5.out HB.out)|(with_reducible refine Kd.C_alloc ?_ _)|(with_reducible refine Kd.C_drewN ?_ _)|(with_reducible refine Kd.C_drew ?_)));(case side2=>exact HC55001_5.out);(case side3=>repeat (first|exact (Kd.C_below HR55001_6.out HB.out)|(with_reducible refine Kd.C_alloc ?_ _)|(with_reducible refine Kd.C_drewN ?_ _)|(with_reducible refine Kd.C_drew ?_)));(case side4=>exact HC55001_6.out);rintro e w8 ⟨rfl,hb⟩;refine ⟨_,rfl,?_⟩;have n0_:=zk (below_step za4 hb);clear HB;have HB:=n0_;clear n0_;(try clear hb);(try clear hb2);(try clear hk);(try clear hi)))
     first
     | (
       clear fin0_
       go_ret
       exact ⟨za7,za4⟩)
     | (
       clear fin1_
       go_roundg k1
       case measure=>have:=HK1.out;omega
       case rel=>exact ⟨(t55002),(wrap64 (x5_1+1)),za8,za8,H',⟨za17⟩,⟨za4⟩⟩)
def laws_toConstraint.f (k:Nat) (a0_0:Int) (a0_1:ByteArray) (a0_2:ByteArray) (a0_3:Int) (a0_4:ByteArray) (l0_5:List (S101)) (l0_6:List Int) (a0_7:Int):Option (Int × ByteArray × ByteArray × Int × ByteArray × (List (S65)) × List Int × Int):=(laws_toRegex.f k a0_3 a0_4 l0_5).bind fun bt86004=>((laws_toIntS.f k l0_6).bind fun t86009=>(some (a0_0,a0_1,a0_2,bt86004.1,bt86004.2.1,bt86004.2.2,t86009,a0_7)))
theorem laws_toConstraint.mono:∀ a0 a1 a2 a3 a4 a5 a6 a7 k,LeO (laws_toConstraint.f k a0 a1 a2 a3 a4 a5 a6 a7) (laws_toConstraint.f (k+1) a0 a1 a2 a3 a4 a5 a6 a7):=by
 intro a0 a1 a2 a3 a4 a5 a6 a7 k
 unfold laws_toConstraint.f
 repeat' first
  | with_reducible first|exact laws_toIntS.mono _ _|exact laws_toRegex.mono _ _ _ _|exact LeO.refl _|exact LeO.none _|refine LeO.ite ?_ ?_|refine LeO.bind ?_ (fun _=>?_)
theorem laws_toConstraint.calls (k:Nat) (a0_0:Int) (a0_1:ByteArray) (a0_2:ByteArray) (a0_3:Int) (a0_4:ByteArray) (A0_5:Option Addr) (c0_5:Nat) (l0_5:List (S101)) (A0_6:Option Addr) (c0_6:Nat) (l0_6:List Int) (a0_7:Int) (r1:Int) (r2:ByteArray) (r3:ByteArray) (r4:Int) (r5:ByteArray) (r6:List (S65)) (r7:List Int) (r8:Int) (w:World) (hr0_5:Kd.C k101 w A0_5 l0_5.length l0_5) (hc0_5:l0_5.length≤c0_5) (hr0_6:Kd.C (Kd.int .i64) w A0_6 l0_6.length l0_6) (hc0_6:l0_6.length≤c0_6) (h:laws_toConstraint.f k a0_0 a0_1 a0_2 a0_3 a0_4 l0_5 l0_6 a0_7=some (r1,r2,r3,r4,r5,r6,r7,r8)) :
  Calls Tryz.prog 86 #[.agg #[.int .i64 a0_0,.string a0_1,.string a0_2,.int .i64 a0_3,.string a0_4,.slice A0_5 l0_5.length c0_5,.slice A0_6 l0_6.length c0_6,.int .i64 a0_7]] w fun e w'=>∃ v5_ v6_:Value,e = .returned (.agg #[.int .i64 r1,.string r2,.string r3,.int .i64 r4,.string r5,v5_,v6_,.int .i64 r8])∧Kd.R k65 65 w' w.heap.size (fun _=>True) v5_ r6∧Kd.R (Kd.int .i64) 3 w' w.heap.size (fun _=>True) v6_ r7∧Below w.heap.size w w':=by
 have hu103:=Tryz.underlying103
 have hu67:=Tryz.underlying67
 have hu101:=Tryz.underlying101
 have hu65:=Tryz.underlying65
 have HR0_5:=zk hr0_5
 have HC0_5:=zk hc0_5
 clear hr0_5 hc0_5
 have HR0_6:=zk hr0_6
 have HC0_6:=zk hc0_6
 clear hr0_6 hc0_6
 have HB:=zk (Below.refl w.heap.size w)
 have H:((laws_toRegex.f k a0_3 a0_4 l0_5).bind fun bt86004=>((laws_toIntS.f k l0_6).bind fun t86009=>(some (a0_0,a0_1,a0_2,bt86004.1,bt86004.2.1,bt86004.2.2,t86009,a0_7))))=some (r1,r2,r3,r4,r5,r6,r7,r8):=h
 clear h
 replace H:=zo H
 obtain ⟨⟨t86004,t86005,t86006⟩,A20,H⟩:=H
 replace H:((laws_toIntS.f k l0_6).bind fun t86009=>(some (a0_0,a0_1,a0_2,t86004,t86005,t86006,t86009,a0_7)))=some (r1,r2,r3,r4,r5,r6,r7,r8):=H
 have A2:=zk A20
 clear A20
 replace H:=zo H
 obtain ⟨t86009,A30,H⟩:=H
 replace H:(some (a0_0,a0_1,a0_2,t86004,t86005,t86006,t86009,a0_7))=some (r1,r2,r3,r4,r5,r6,r7,r8):=H
 have A3:=zk A30
 clear A30
 simp only [Option.some.injEq,Prod.mk.injEq] at H
 obtain ⟨rfl,rfl,rfl,rfl,rfl,rfl,rfl,rfl⟩:=H
 go_enter Tryz.func86,Tryz.ntmps86
 go_wp2_with (first|((with_reducible refine gate_dst (N:=1) rfl ?_);refine zE (N:=1) (cs:=#[.int .i64 a0_0,.string a0_1,.string a0_2,.int .i64 a0_3,.string a0_4,.slice A0_5 l0_5.length c0_5,.slice A0_6 l0_6.length c0_6,.int .i64 a0_7]) (t:=103) ?_;intro gb86001 hg w4 hbox hb;have n0_:=zk (below_step za4 hb);have n1_:=zk (hbox);have n2_:=zk (zs (w:=w) hg za4);have n3_:=zk (zs (w:=w) hg za4);clear HB;have HB:=n0_;have BK86001:=n1_;have GW86001:=n2_;have GE86001:=n3_;clear n0_ n1_ n2_ n3_;clear hb hbox hg)|((with_reducible refine gate_dst (N:=2) rfl ?_);refine zE (N:=2) (cs:=#[.int .i64 0,.string (⟨#[]⟩:ByteArray),.string (⟨#[]⟩:ByteArray),.int .i64 0,.string (⟨#[]⟩:ByteArray),.slice none 0 0,.slice none 0 0,.int .i64 0]) (t:=67) ?_;intro gb86002 hg w5 hbox hb;have n0_:=zk (zb BK86001.out hb);have n1_:=zk (below_step za4 hb);have n2_:=zk (hbox);have n3_:=zk (zs (w:=w) hg za4);have n4_:=zk (zs (w:=w) hg za4);have n5_:=zk ((by rw [hg];exact Nat.ne_of_lt (zl BK86001.out):gb86001 ≠ gb86002));have n6_:=zk ((by rw [hg];exact Nat.ne_of_gt (zl BK86001.out):gb86002 ≠ gb86001));clear BK86001;clear HB;have BK86001:=n0_;have HB:=n1_;have BK86002:=n2_;have GW86002:=n3_;have GE86002:=n4_;have NB86001_86002:=n5_;have NB86002_86001:=n6_;clear n0_ n1_ n2_ n3_ n4_ n5_ n6_;clear hb hbox hg)|((with_reducible refine gate_dst (N:=3) rfl ?_);refine zE (N:=3) (cs:=#[.int .i64 0,.string (⟨#[]⟩:ByteArray),.string (⟨#[]⟩:ByteArray),.int .i64 0,.string (⟨#[]⟩:ByteArray),.slice none 0 0,.slice none 0 0,.int .i64 0]) (t:=67) ?_;intro gb86003 hg w6 hbox hb;have n0_:=zk (zb BK86001.out hb);have n1_:=zk (zb BK86002.out hb);have n2_:=zk (below_step za4 hb);have n3_:=zk (hbox);have n4_:=zk (zs (w:=w) hg za4);have n5_:=zk (zs (w:=w) hg za4);have n6_:=zk ((by rw [hg];exact Nat.ne_of_lt (zl BK86001.out):gb86001 ≠ gb86003));have n7_:=zk ((by rw [hg];exact Nat.ne_of_gt (zl BK86001.out):gb86003 ≠ gb86001));have n8_:=zk ((by rw [hg];exact Nat.ne_of_lt (zl BK86002.out):gb86002 ≠ gb86003));have n9_:=zk ((by rw [hg];exact Nat.ne_of_gt (zl BK86002.out):gb86003 ≠ gb86002));clear BK86001;clear BK86002;clear HB;have BK86001:=n0_;have BK86002:=n1_;have HB:=n2_;have BK86003:=n3_;have GW86003:=n4_;have GE86003:=n5_;have NB86001_86003:=n6_;have NB86003_86001:=n7_;have NB86002_86003:=n8_;have NB86003_86002:=n9_;clear n0_ n1_ n2_ n3_ n4_ n5_ n6_ n7_ n8_ n9_;clear hb hbox hg;have hnb7:=NB86001_86002.out;have hnc7:=NB86002_86001.out;have hnb8:=NB86001_86003.out;have hnc8:=NB86003_86001.out;obtain ⟨hcz9_0,hcz9_1,hcz9_2,hcz9_3,hcz9_4,hcz9_5,hcz9_6,hcz9_7,hfz9_0,hfz9_1,hfz9_2,hfz9_3,hfz9_4,hfz9_5,hfz9_6,hfz9_7⟩:=blk8 BK86001.out;have hnb10:=NB86003_86002.out;have hnc10:=NB86002_86003.out;obtain ⟨hcz11_0,hcz11_1,hcz11_2,hcz11_3,hcz11_4,hcz11_5,hcz11_6,hcz11_7,hfz11_0,hfz11_1,hfz11_2,hfz11_3,hfz11_4,hfz11_5,hfz11_6,hfz11_7⟩:=blk8 BK86003.out)|((with_reducible refine gate_callee (f:=120) rfl ?_);refine goesL_ (some 15) rfl rfl Tryz.func120 (by kernel_rfl) rfl #[.agg #[.int .i64 a0_3,.string a0_4,.slice A0_5 l0_5.length c0_5]] rfl za5 ?_;(with_reducible refine (laws_toRegex.calls k a0_3 a0_4 _ _ l0_5 t86004 t86005 t86006 _ ?side1 ?side2 A2.out).mono ?_);(case side1=>exact Kd.C_below HR0_5.out za4);(case side2=>exact HC0_5.out);rintro e w12 ⟨v86007,rfl,ho0,hb⟩;refine ⟨_,rfl,?_⟩;have n0_:=zk (Kd.R_lower ho0 (below_size za4));have n1_:=zk (blk_below (g:=gb86001) (o:=.cells #[.int .i64 a0_0,.string a0_1,.string a0_2,.int .i64 a0_3,.string a0_4,.slice A0_5 l0_5.length c0_5,.slice A0_6 l0_6.length c0_6,.int .i64 a0_7] 103 (0,0)) za28 hb);have n2_:=zk (blk_below (g:=gb86002) (o:=.cells #[.int .i64 0,.string (⟨#[]⟩:ByteArray),.string (⟨#[]⟩:ByteArray),.int .i64 0,.string (⟨#[]⟩:ByteArray),.slice none 0 0,.slice none 0 0,.int .i64 0] 67 (0,0)) za27 hb);have n3_:=zk (blk_below (g:=gb86003) (o:=.cells #[.int .i64 a0_0,.string a0_1,.string a0_2,.int .i64 0,.string (⟨#[]⟩:ByteArray),.slice none 0 0,.slice none 0 0,.int .i64 0] 67 (0,0)) (by (with_reducible repeat (first|refine blk_drewN ?_ _|refine blk_drew ?_|refine blk_alloc ?_ _));refine blk_put (cs:=#[.int .i64 a0_0,.string a0_1,.string (⟨#[]⟩:ByteArray),.int .i64 0,.string (⟨#[]⟩:ByteArray),.slice none 0 0,.slice none 0 0,.int .i64 0]) ?_ 2 _ rfl;(with_reducible repeat (first|refine blk_drewN ?_ _|refine blk_drew ?_|refine blk_alloc ?_ _));refine blk_put (cs:=#[.int .i64 a0_0,.string (⟨#[]⟩:ByteArray),.string (⟨#[]⟩:ByteArray),.int .i64 0,.string (⟨#[]⟩:ByteArray),.slice none 0 0,.slice none 0 0,.int .i64 0]) ?_ 1 _ rfl;(with_reducible repeat (first|refine blk_drewN ?_ _|refine blk_drew ?_|refine blk_alloc ?_ _));refine blk_put (cs:=#[.int .i64 0,.string (⟨#[]⟩:ByteArray),.string (⟨#[]⟩:ByteArray),.int .i64 0,.string (⟨#[]⟩:ByteArray),.slice none 0 0,.slice none 0 0,.int .i64 0]) ?_ 0 _ rfl;(with_reducible repeat (first|refine blk_drewN ?_ _|refine blk_drew ?_|refine blk_alloc ?_ _));exact BK86003.out) hb);have n4_:=zk (below_step za4 hb);clear BK86001;clear BK86002;clear BK86003;clear HB;have HO86008:=n0_;have BK86001:=n1_;have BK86002:=n2_;have BK86003:=n3_;have HB:=n4_;clear n0_ n1_ n2_ n3_ n4_;(try clear hb);(try clear hb2);(try clear hk);(try clear hi);(try clear ho0);obtain ⟨hcz13_0,hcz13_1,hcz13_2,hcz13_3,hcz13_4,hcz13_5,hcz13_6,hcz13_7,hfz13_0,hfz13_1,hfz13_2,hfz13_3,hfz13_4,hfz13_5,hfz13_6,hfz13_7⟩:=blk8 BK86003.out;obtain ⟨Ao14,co14,eo14⟩:=Kd.R_slice HO86008.out;subst eo14;obtain ⟨hcz15_0,hcz15_1,hcz15_2,hcz15_3,hcz15_4,hcz15_5,hcz15_6,hcz15_7,hfz15_0,hfz15_1,hfz15_2,hfz15_3,hfz15_4,hfz15_5,hfz15_6,hfz15_7⟩:=blk8 BK86001.out)|((with_reducible refine gate_callee (f:=121) rfl ?_);refine goesL_ (some 19) rfl rfl Tryz.func121 (by kernel_rfl) rfl #[.slice A0_6 l0_6.length c0_6] rfl za5 ?_;(with_reducible refine (laws_toIntS.calls k _ _ l0_6 t86009 _ ?side1 ?side2 A3.out).mono ?_);(case side1=>exact Kd.C_below HR0_6.out za4);(case side2=>exact HC0_6.out);rintro e w16 ⟨v86010,rfl,ho0,hb⟩;refine ⟨_,rfl,?_⟩;have n0_:=zk (Kd.R_below (by (with_reducible repeat (first|apply Kd.R_alloc|apply Kd.R_drewN|apply Kd.R_drew));exact (Kd.R_mono (Kd.R_far (p:=⟨gb86003,5,none⟩) (Kd.R_far (p:=⟨gb86003,4,none⟩) (Kd.R_far (p:=⟨gb86003,3,none⟩) (Kd.R_types HO86008.out BK86003.out (by decide)) (fun _ hk=>hk.2) (.int .i64 t86004)) (fun _ hk=>hk.2) (.string t86005)) (fun _ hk=>hk.2) (.slice Ao14 t86006.length co14)) (fun _ h_=>h_.1))) hb);have n1_:=zk (Kd.R_lower ho0 (below_size za4));have n2_:=zk (blk_below (g:=gb86001) (o:=.cells #[.int .i64 a0_0,.string a0_1,.string a0_2,.int .i64 a0_3,.string a0_4,.slice A0_5 l0_5.length c0_5,.slice A0_6 l0_6.length c0_6,.int .i64 a0_7] 103 (0,0)) za28 hb);have n3_:=zk (blk_below (g:=gb86002) (o:=.cells #[.int .i64 0,.string (⟨#[]⟩:ByteArray),.string (⟨#[]⟩:ByteArray),.int .i64 0,.string (⟨#[]⟩:ByteArray),.slice none 0 0,.slice none 0 0,.int .i64 0] 67 (0,0)) za27 hb);have n4_:=zk (blk_below (g:=gb86003) (o:=.cells #[.int .i64 a0_0,.string a0_1,.string a0_2,.int .i64 t86004,.string t86005,.slice Ao14 t86006.length co14,.slice none 0 0,.int .i64 0] 67 (0,0)) (by (with_reducible repeat (first|refine blk_drewN ?_ _|refine blk_drew ?_|refine blk_alloc ?_ _));refine blk_put (cs:=#[.int .i64 a0_0,.string a0_1,.string a0_2,.int .i64 t86004,.string t86005,.slice none 0 0,.slice none 0 0,.int .i64 0]) ?_ 5 _ rfl;(with_reducible repeat (first|refine blk_drewN ?_ _|refine blk_drew ?_|refine blk_alloc ?_ _));refine blk_put (cs:=#[.int .i64 a0_0,.string a0_1,.string a0_2,.int .i64 t86004,.string (⟨#[]⟩:ByteArray),.slice none 0 0,.slice none 0 0,.int .i64 0]) ?_ 4 _ rfl;(with_reducible repeat (first|refine blk_drewN ?_ _|refine blk_drew ?_|refine blk_alloc ?_ _));refine blk_put (cs:=#[.int .i64 a0_0,.string a0_1,.string a0_2,.int .i64 0,.string (⟨#[]⟩:ByteArray),.slice none 0 0,.slice none 0 0,.int .i64 0]) ?_ 3 _ rfl;(with_reducible repeat (first|refine blk_drewN ?_ _|refine blk_drew ?_|refine blk_alloc ?_ _));exact BK86003.out) hb);have n5_:=zk (below_step za4 hb);clear HO86008;clear BK86001;clear BK86002;clear BK86003;clear HB;have HO86008:=n0_;have HO86011:=n1_;have BK86001:=n2_;have BK86002:=n3_;have BK86003:=n4_;have HB:=n5_;clear n0_ n1_ n2_ n3_ n4_ n5_;(try clear hb);(try clear hb2);(try clear hk);(try clear hi);(try clear ho0);obtain ⟨Ao17,co17,eo17⟩:=Kd.R_slice HO86011.out;subst eo17;obtain ⟨hcz18_0,hcz18_1,hcz18_2,hcz18_3,hcz18_4,hcz18_5,hcz18_6,hcz18_7,hfz18_0,hfz18_1,hfz18_2,hfz18_3,hfz18_4,hfz18_5,hfz18_6,hfz18_7⟩:=blk8 BK86003.out;obtain ⟨hcz19_0,hcz19_1,hcz19_2,hcz19_3,hcz19_4,hcz19_5,hcz19_6,hcz19_7,hfz19_0,hfz19_1,hfz19_2,hfz19_3,hfz19_4,hfz19_5,hfz19_6,hfz19_7⟩:=blk8 BK86001.out;obtain ⟨hcz20_0,hcz20_1,hcz20_2,hcz20_3,hcz20_4,hcz20_5,hcz20_6,hcz20_7,hfz20_0,hfz20_1,hfz20_2,hfz20_3,hfz20_4,hfz20_5,hfz20_6,hfz20_7⟩:=blk8 BK86002.out))
 refine bodyPost_ret (results_cell_row rfl _ _ gb86002 67 #[.int .i64 a0_0,.string a0_1,.string a0_2,.int .i64 t86004,.string t86005,.slice Ao14 t86006.length co14,.slice Ao17 t86009.length co17,.int .i64 a0_7] (0,0) _ rfl (by (with_reducible repeat (first|refine blk_drewN ?_ _|refine blk_drew ?_|refine blk_alloc ?_ _));refine blk_put (cs:=#[.int .i64 a0_0,.string a0_1,.string a0_2,.int .i64 t86004,.string t86005,.slice Ao14 t86006.length co14,.slice Ao17 t86009.length co17,.int .i64 0]) ?_ 7 _ rfl;(with_reducible repeat (first|refine blk_drewN ?_ _|refine blk_drew ?_|refine blk_alloc ?_ _));refine blk_put (cs:=#[.int .i64 a0_0,.string a0_1,.string a0_2,.int .i64 t86004,.string t86005,.slice Ao14 t86006.length co14,.slice none 0 0,.int .i64 0]) ?_ 6 _ rfl;(with_reducible repeat (first|refine blk_drewN ?_ _|refine blk_drew ?_|refine blk_alloc ?_ _));refine blk_put (cs:=#[.int .i64 a0_0,.string a0_1,.string a0_2,.int .i64 t86004,.string t86005,.slice none 0 0,.slice none 0 0,.int .i64 0]) ?_ 5 _ rfl;(with_reducible repeat (first|refine blk_drewN ?_ _|refine blk_drew ?_|refine blk_alloc ?_ _));refine blk_put (cs:=#[.int .i64 a0_0,.string a0_1,.string a0_2,.int .i64 t86004,.string (⟨#[]⟩:ByteArray),.slice none 0 0,.slice none 0 0,.int .i64 0]) ?_ 4 _ rfl;(with_reducible repeat (first|refine blk_drewN ?_ _|refine blk_drew ?_|refine blk_alloc ?_ _));refine blk_put (cs:=#[.int .i64 a0_0,.string a0_1,.string a0_2,.int .i64 0,.string (⟨#[]⟩:ByteArray),.slice none 0 0,.slice none 0 0,.int .i64 0]) ?_ 3 _ rfl;(with_reducible repeat (first|refine blk_drewN ?_ _|refine blk_drew ?_|refine blk_alloc ?_ _));refine blk_put (cs:=#[.int .i64 a0_0,.string a0_1,.string (⟨#[]⟩:ByteArray),.int .i64 0,.string (⟨#[]⟩:ByteArray),.slice none 0 0,.slice none 0 0,.int .i64 0]) ?_ 2 _ rfl;(with_reducible repeat (first|refine blk_drewN ?_ _|refine blk_drew ?_|refine blk_alloc ?_ _));refine blk_put (cs:=#[.int .i64 a0_0,.string (⟨#[]⟩:ByteArray),.string (⟨#[]⟩:ByteArray),.int .i64 0,.string (⟨#[]⟩:ByteArray),.slice none 0 0,.slice none 0 0,.int .i64 0]) ?_ 1 _ rfl;(with_reducible repeat (first|refine blk_drewN ?_ _|refine blk_drew ?_|refine blk_alloc ?_ _));refine blk_put (cs:=#[.int .i64 0,.string (⟨#[]⟩:ByteArray),.string (⟨#[]⟩:ByteArray),.int .i64 0,.string (⟨#[]⟩:ByteArray),.slice none 0 0,.slice none 0 0,.int .i64 0]) ?_ 0 _ rfl;(with_reducible repeat (first|refine blk_drewN ?_ _|refine blk_drew ?_|refine blk_alloc ?_ _));refine blk_far ?_ NB86002_86003.out _;(with_reducible repeat (first|refine blk_drewN ?_ _|refine blk_drew ?_|refine blk_alloc ?_ _));refine blk_far ?_ NB86002_86003.out _;(with_reducible repeat (first|refine blk_drewN ?_ _|refine blk_drew ?_|refine blk_alloc ?_ _));exact BK86002.out) Tryz.underlying67 rfl (by kernel_rfl)) rfl ?_
 exact ⟨_,_,za7,by (with_reducible repeat (first|apply Kd.R_alloc|apply Kd.R_drewN|apply Kd.R_drew));exact Kd.R_mono (Kd.R_far (p:=⟨gb86002,7,none⟩) (Kd.R_far (p:=⟨gb86002,6,none⟩) (Kd.R_far (p:=⟨gb86002,5,none⟩) (Kd.R_far (p:=⟨gb86002,4,none⟩) (Kd.R_far (p:=⟨gb86002,3,none⟩) (Kd.R_far (p:=⟨gb86002,2,none⟩) (Kd.R_far (p:=⟨gb86002,1,none⟩) (Kd.R_far (p:=⟨gb86002,0,none⟩) (Kd.R_far (p:=⟨gb86003,7,none⟩) (Kd.R_far (p:=⟨gb86003,6,none⟩) (Kd.R_types (Kd.R_types HO86008.out BK86003.out (by decide)) BK86002.out (by decide)) (fun _ hk=>hk.1.2) (.slice Ao17 t86009.length co17)) (fun _ hk=>hk.1.2) (.int .i64 a0_7)) (fun _ hk=>hk.2) (.int .i64 a0_0)) (fun _ hk=>hk.2) (.string a0_1)) (fun _ hk=>hk.2) (.string a0_2)) (fun _ hk=>hk.2) (.int .i64 t86004)) (fun _ hk=>hk.2) (.string t86005)) (fun _ hk=>hk.2) (.slice Ao14 t86006.length co14)) (fun _ hk=>hk.2) (.slice Ao17 t86009.length co17)) (fun _ hk=>hk.2) (.int .i64 a0_7)) (fun _ hk=>trivial),by (with_reducible repeat (first|apply Kd.R_alloc|apply Kd.R_drewN|apply Kd.R_drew));exact Kd.R_mono (Kd.R_far (p:=⟨gb86002,7,none⟩) (Kd.R_far (p:=⟨gb86002,6,none⟩) (Kd.R_far (p:=⟨gb86002,5,none⟩) (Kd.R_far (p:=⟨gb86002,4,none⟩) (Kd.R_far (p:=⟨gb86002,3,none⟩) (Kd.R_far (p:=⟨gb86002,2,none⟩) (Kd.R_far (p:=⟨gb86002,1,none⟩) (Kd.R_far (p:=⟨gb86002,0,none⟩) (Kd.R_far (p:=⟨gb86003,7,none⟩) (Kd.R_far (p:=⟨gb86003,6,none⟩) (Kd.R_types (Kd.R_types HO86011.out BK86003.out (by decide)) BK86002.out (by decide)) (fun _ hk=>hk.1.2) (.slice Ao17 t86009.length co17)) (fun _ hk=>hk.1.2) (.int .i64 a0_7)) (fun _ hk=>hk.2) (.int .i64 a0_0)) (fun _ hk=>hk.2) (.string a0_1)) (fun _ hk=>hk.2) (.string a0_2)) (fun _ hk=>hk.2) (.int .i64 t86004)) (fun _ hk=>hk.2) (.string t86005)) (fun _ hk=>hk.2) (.slice Ao14 t86006.length co14)) (fun _ hk=>hk.2) (.slice Ao17 t86009.length co17)) (fun _ hk=>hk.2) (.int .i64 a0_7)) (fun _ hk=>trivial),za4⟩
def laws_toConstraintS.l0:Nat→List (S103)→List (S67)→Int→Option ((List (S67)))
 | 0,_,_,_=>none
 | k+1,x0,x3,x4=>if x4 < (x0.length:Int) then (if 0≤x4 then ((laws_toConstraint.f k ((rd_T103 x0 x4).f0) ((rd_T103 x0 x4).f1) ((rd_T103 x0 x4).f2) ((rd_T103 x0 x4).f3.f0) ((rd_T103 x0 x4).f3.f1) ((rd_T103 x0 x4).f3.f2) ((rd_T103 x0 x4).f4) ((rd_T103 x0 x4).f5)).bind fun bt56005=>(if x4 < (x3.length:Int) then (laws_toConstraintS.l0 k x0 (x3.set (x4:Int).toNat (⟨bt56005.1,bt56005.2.1,bt56005.2.2.1,(⟨bt56005.2.2.2.1,bt56005.2.2.2.2.1,bt56005.2.2.2.2.2.1⟩:S65),bt56005.2.2.2.2.2.2.1,bt56005.2.2.2.2.2.2.2⟩:S67)) (wrap64 (x4+1))) else (none))) else (none)) else (some x3)
def laws_toConstraintS.f (k:Nat) (l0:List (S103)):Option ((List (S67))):=if 0≤(l0.length:Int) then (if ((l0.length:Int):Int).toNat≤2345624805922 then (laws_toConstraintS.l0 k l0 (List.replicate ((l0.length:Int):Int).toNat z67) 0) else (none)) else (none)
theorem laws_toConstraintS.mono_l:∀ k,(∀ y0 y1 y2,LeO (laws_toConstraintS.l0 k y0 y1 y2) (laws_toConstraintS.l0 (k+1) y0 y1 y2))
 | 0=>fun _ _ _ r h=>by simp [laws_toConstraintS.l0] at h
 | k+1=>by
  have ih0:=laws_toConstraintS.mono_l k
  ·intro y0 y1 y2
   unfold laws_toConstraintS.l0
   repeat' first
   | with_reducible first|exact ih0 _ _ _|exact laws_toConstraint.mono _ _ _ _ _ _ _ _ _|exact LeO.refl _|exact LeO.none _|refine LeO.ite ?_ ?_|refine LeO.bind ?_ (fun _=>?_)
theorem laws_toConstraintS.mono:∀ a0 k,LeO (laws_toConstraintS.f k a0) (laws_toConstraintS.f (k+1) a0):=by
 intro a0 k
 have ih0:=laws_toConstraintS.mono_l k
 unfold laws_toConstraintS.f
 repeat' first
  | with_reducible first|exact ih0 _ _ _|exact laws_toConstraint.mono _ _ _ _ _ _ _ _ _|exact LeO.refl _|exact LeO.none _|refine LeO.ite ?_ ?_|refine LeO.bind ?_ (fun _=>?_)
theorem laws_toConstraintS.calls (k:Nat) (A0:Option Addr) (c0:Nat) (l0:List (S103)) (r:List (S67)) (w:World) (hr0:Kd.C k103 w A0 l0.length l0) (hc0:l0.length≤c0) (h:laws_toConstraintS.f k l0=some r) :
  Calls Tryz.prog 56 #[.slice A0 l0.length c0] w fun e w'=>∃ v0_:Value,e = .returned (v0_)∧Kd.R k67 67 w' w.heap.size (fun _=>True) v0_ r∧Below w.heap.size w w':=by
 have hu103:=Tryz.underlying103
 have hu67:=Tryz.underlying67
 have HR0:=zk hr0
 have HC0:=zk hc0
 clear hr0 hc0
 have HB:=zk (Below.refl w.heap.size w)
 have H:(if 0≤(l0.length:Int) then (if ((l0.length:Int):Int).toNat≤2345624805922 then (laws_toConstraintS.l0 k l0 (List.replicate ((l0.length:Int):Int).toNat z67) 0) else (none)) else (none))=some r:=h
 clear h
 by_cases c2:0≤(l0.length:Int)
 rw [if_pos c2] at H
 have c2b0:=eq_true c2
 have c2b1:decide (0≤(l0.length:Int))=true:=decide_eq_true c2
 clear c2
 by_cases c3:((l0.length:Int):Int).toNat≤2345624805922
 ·rw [if_pos c3] at H
  have c3b0:=eq_true c3
  have c3b1:decide (((l0.length:Int):Int).toNat≤2345624805922)=true:=decide_eq_true c3
  clear c3
  obtain ⟨y56001,hy56001⟩:∃ y_:List (S67),y_=(List.replicate ((l0.length:Int):Int).toNat z67):=⟨_,rfl⟩
  replace H:(laws_toConstraintS.l0 k l0 y56001 0)=some r:=by first|(rw [hy56001];with_reducible exact H)|(have H2_:=(Option.bind_some _ _).symm.trans H;rw [hy56001];with_reducible exact H2_)|(have H2_:=(Option.bind_some _ _).symm.trans H;with_reducible exact H2_)|with_reducible exact H|(rw [hy56001];exact H)|exact H
  have Ny56001:=zk hy56001
  clear hy56001
  have H':=zk H
  clear H
  go_enter Tryz.func56,Tryz.ntmps56
  go_wp2_with (first|((with_reducible refine gate_dst (N:=7) rfl ?_);refine Kd.R_make k67 _ 67 rfl (N:=7) rfl 24 _ _ rfl (l0.length:Int) rfl rfl Tryz.underlying24 (.agg #[(.int .i64 0),(.string ⟨#[]⟩),(.string ⟨#[]⟩),(.int .i64 0),(.string ⟨#[]⟩),(.slice none 0 0),(.slice none 0 0),(.int .i64 0)]) 120 info67 rfl (by decide) (by omega) z67 (ok:=fun _=>True) (okp:=fun _=>True) (k67_mkM _ _ _ z67 (Kd.R_nil _ _ _ _ _) (Kd.R_nil _ _ _ _ _)) (fun _ hk=>hk) trivial (of_decide_eq_true za9) (Nat.le_trans (Nat.mul_le_mul_right _ (of_decide_eq_true za9:(l0.length:Int).toNat≤2345624805922)) (by omega)) (Below.refl _ _) (Nat.le_refl _) ?_;intro v56002 w4 ho5 hb hg_ hnew_;clear hg_ hnew_;(first|rw [← Ny56001.out] at ho5|(simp only [Int.reduceToNat] at ho5;rw [← Ny56001.out] at ho5));have n0_:=zk (Kd.R_lower ho5 (below_size za4));have n1_:=zk (below_step za4 hb);clear HB;have HO56003:=n0_;have HB:=n1_;clear n0_ n1_;clear hb ho5))
  first|go_loopg [4] k (fun kq v4 w'=>∃ (x3_1:List (S67)) (x4_1:Int),v4 = .int .i64 x4_1∧Aside0 (laws_toConstraintS.l0 kq l0 x3_1 x4_1=some r)∧Aside0 (kq≤k)∧Aside0 (Kd.R k67 67 w' w.heap.size (fun _=>True) v56002 x3_1)∧Aside0 (Below w.heap.size w w'))|(simp only [Act.put,zt,zv,zu];go_loopg [4] k (fun kq v4 w'=>∃ (x3_1:List (S67)) (x4_1:Int),v4 = .int .i64 x4_1∧Aside0 (laws_toConstraintS.l0 kq l0 x3_1 x4_1=some r)∧Aside0 (kq≤k)∧Aside0 (Kd.R k67 67 w' w.heap.size (fun _=>True) v56002 x3_1)∧Aside0 (Below w.heap.size w w')))
  case atStart=>exact ⟨(y56001),(0),za8,H',⟨Nat.le_refl _⟩,⟨za1 HO56003.out⟩,⟨za4⟩⟩
  case round =>
   clear H'
   try clear c3
   try clear c3b0
   try clear c3b1
   obtain ⟨x3_1,x4_1,rfl,HA,HK1,HO_3,HB⟩:=hrel
   cases gk with
   | zero=>exact absurd HA.out (by simp [laws_toConstraintS.l0])
   | succ k1 =>
    have H:=HA.out
    clear HA
    simp only [laws_toConstraintS.l0] at H
    by_cases c6:x4_1 < (l0.length:Int)
    rw [if_pos c6] at H
    have c6b0:decide (x4_1 < (l0.length:Int))=true:=decide_eq_true c6
    clear c6
    by_cases c7:0≤x4_1
    rw [if_pos c7] at H
    have c7b0:decide (0≤x4_1)=true:=decide_eq_true c7
    clear c7
    replace H:=zo H
    obtain ⟨⟨t56005,t56006,t56007,t56008,t56009,t56010,t56013,t56016⟩,A80,H⟩:=H
    replace H:(if x4_1 < (x3_1.length:Int) then (laws_toConstraintS.l0 k1 l0 (x3_1.set (x4_1:Int).toNat (⟨t56005,t56006,t56007,(⟨t56008,t56009,t56010⟩:S65),t56013,t56016⟩:S67)) (wrap64 (x4_1+1))) else (none))=some r:=H
    have A8:=zk A80
    clear A80
    by_cases c9:x4_1 < (x3_1.length:Int)
    ·rw [if_pos c9] at H
     have c9b0:decide (x4_1 < (x3_1.length:Int))=true:=decide_eq_true c9
     clear c9
     obtain ⟨y56017,hy56017⟩:∃ y_:List (S67),y_=(x3_1.set (x4_1:Int).toNat (⟨t56005,t56006,t56007,(⟨t56008,t56009,t56010⟩:S65),t56013,t56016⟩:S67)):=⟨_,rfl⟩
     replace H:(laws_toConstraintS.l0 k1 l0 y56017 (wrap64 (x4_1+1)))=some r:=by first|(rw [hy56017];with_reducible exact H)|(have H2_:=(Option.bind_some _ _).symm.trans H;rw [hy56017];with_reducible exact H2_)|(have H2_:=(Option.bind_some _ _).symm.trans H;with_reducible exact H2_)|with_reducible exact H|(rw [hy56017];exact H)|exact H
     have Ny56017:=zk hy56017
     clear hy56017
     have H':=zk H
     clear H
     have p56004:0≤(x4_1:Int):=of_decide_eq_true za9
     have q56004:x4_1 < (l0.length:Int):=of_decide_eq_true za9
     obtain ⟨ad56004,A56004_5,c56004_5,A56004_6,c56004_6,e56004,hx56004_0,hx56004_1,hx56004_2,hx56004_3,hx56004_4,hx56004_5,hx56004_6,hx56004_7,hl56004_5,hi56004_5,hl56004_6,hi56004_6⟩:=at_T103 HR0.out x4_1 p56004 q56004
     cases e56004
     replace hx56004_0:=zx HB.out hx56004_0
     replace hx56004_1:=zx HB.out hx56004_1
     replace hx56004_2:=zx HB.out hx56004_2
     replace hx56004_3:=zx HB.out hx56004_3
     replace hx56004_4:=zx HB.out hx56004_4
     replace hx56004_5:=zx HB.out hx56004_5
     replace hx56004_6:=zx HB.out hx56004_6
     replace hx56004_7:=zx HB.out hx56004_7
     have HR56004_5:=zk hi56004_5
     have HC56004_5:=zk hl56004_5
     clear hi56004_5 hl56004_5
     have HR56004_6:=zk hi56004_6
     have HC56004_6:=zk hl56004_6
     clear hi56004_6 hl56004_6
     replace p56004:=eq_true p56004
     replace q56004:=eq_true q56004
     go_wp2_with (first|((with_reducible refine gate_callee (f:=86) rfl ?_);refine goesL_ (some 20) rfl rfl Tryz.func86 (by kernel_rfl) rfl #[.agg #[.int .i64 ((rd_T103 l0 x4_1).f0),.string ((rd_T103 l0 x4_1).f1),.string ((rd_T103 l0 x4_1).f2),.int .i64 ((rd_T103 l0 x4_1).f3.f0),.string ((rd_T103 l0 x4_1).f3.f1),.slice A56004_5 ((rd_T103 l0 x4_1).f3.f2).length c56004_5,.slice A56004_6 ((rd_T103 l0 x4_1).f4).length c56004_6,.int .i64 ((rd_T103 l0 x4_1).f5)]] rfl za5 ?_;(with_reducible refine (laws_toConstraint.calls k1 ((rd_T103 l0 x4_1).f0) ((rd_T103 l0 x4_1).f1) ((rd_T103 l0 x4_1).f2) ((rd_T103 l0 x4_1).f3.f0) ((rd_T103 l0 x4_1).f3.f1) _ _ ((rd_T103 l0 x4_1).f3.f2) _ _ ((rd_T103 l0 x4_1).f4) ((rd_T103 l0 x4_1).f5) t56005 t56006 t56007 t56008 t56009 t56010 t56013 t56016 _ ?side1 ?side2 ?side3 ?side4 A8.out).mono ?_);(case side1=>repeat (first|exact (Kd.C_below HR56004_5.out HB.out)|(with_reducible refine Kd.C_alloc ?_ _)|(with_reducible refine Kd.C_drewN ?_ _)|(with_reducible refine Kd.C_drew ?_)));(case side2=>exact HC56004_5.out);(case side3=>repeat (first|exact (Kd.C_below HR56004_6.out HB.out)|(with_reducible refine Kd.C_alloc ?_ _)|(with_reducible refine Kd.C_drewN ?_ _)|(with_reducible refine Kd.C_drew ?_)));(case side4=>exact HC56004_6.out);rintro e w11 ⟨v56011,v56014,rfl,ho0,ho1,hb⟩;refine ⟨_,rfl,?_⟩;have n0_:=zk (Kd.R_mono (Kd.R_told (Kd.R_told (Kd.R_old (za1 HO_3.out) hb) (Kd.R_base ho0)) (Kd.R_base ho1)) (fun _ h_=>h_.1));have n1_:=zk (Kd.R_lower ho0 (below_size za4));have n2_:=zk (Kd.R_lower ho1 (below_size za4));have n3_:=zk (below_step za4 hb);clear HO_3;clear HB;have HO_3:=n0_;have HO56012:=n1_;have HO56015:=n2_;have HB:=n3_;clear n0_ n1_ n2_ n3_;(try clear hb);(try clear hb2);(try clear hk);(try clear hi);(try clear ho0);(try clear ho1);have p10:0≤(x4_1:Int):=of_decide_eq_true za9;have q10:(x4_1:Int) < ((x3_1.length:Int):Int):=of_decide_eq_true za9;obtain ⟨go10,co10,eo10,gb10,gl10,cl10,HG10⟩:=Kd.R_form HO_3.out (by omega);(first|cases eo10|(injection eo10 with ea_ en_ ec_;(first|subst ea_|(injection ea_ with ea_;subst ea_));subst ec_;clear en_));have GB10:=zk gb10;have GG10:=zk HG10;clear gb10 gl10 HG10;obtain ⟨ce10,hcl10,hM10,hcc10,hfr10⟩:=Kd.R_elem HO_3.out z67 (x4_1:Int) p10 q10;obtain ⟨ve10_5,ve10_6,rfl,ge10_5,ge10_6⟩:=k67_openM hM10;have hx10_0:w11.cell? ⟨go10,(x4_1:Int).toNat * 8,none⟩=some (.int .i64 ((rd_T67 x3_1 x4_1).f0)):=hcc10 0 _ rfl;have hx10_1:w11.cell? ⟨go10,(x4_1:Int).toNat * 8+1,none⟩=some (.string ((rd_T67 x3_1 x4_1).f1)):=hcc10 1 _ rfl;have hx10_2:w11.cell? ⟨go10,(x4_1:Int).toNat * 8+2,none⟩=some (.string ((rd_T67 x3_1 x4_1).f2)):=hcc10 2 _ rfl;have hx10_3:w11.cell? ⟨go10,(x4_1:Int).toNat * 8+3,none⟩=some (.int .i64 ((rd_T67 x3_1 x4_1).f3.f0)):=hcc10 3 _ rfl;have hx10_4:w11.cell? ⟨go10,(x4_1:Int).toNat * 8+4,none⟩=some (.string ((rd_T67 x3_1 x4_1).f3.f1)):=hcc10 4 _ rfl;have hx10_5:w11.cell? ⟨go10,(x4_1:Int).toNat * 8+5,none⟩=some (ve10_5):=hcc10 5 _ rfl;have hx10_6:w11.cell? ⟨go10,(x4_1:Int).toNat * 8+6,none⟩=some (ve10_6):=hcc10 6 _ rfl;have hx10_7:w11.cell? ⟨go10,(x4_1:Int).toNat * 8+7,none⟩=some (.int .i64 ((rd_T67 x3_1 x4_1).f5)):=hcc10 7 _ rfl;have hf10_0:w11.frozen? ⟨go10,(x4_1:Int).toNat * 8,none⟩=false:=hfr10 0;have hf10_1:w11.frozen? ⟨go10,(x4_1:Int).toNat * 8+1,none⟩=false:=hfr10 1;have hf10_2:w11.frozen? ⟨go10,(x4_1:Int).toNat * 8+2,none⟩=false:=hfr10 2;have hf10_3:w11.frozen? ⟨go10,(x4_1:Int).toNat * 8+3,none⟩=false:=hfr10 3;have hf10_4:w11.frozen? ⟨go10,(x4_1:Int).toNat * 8+4,none⟩=false:=hfr10 4;have hf10_5:w11.frozen? ⟨go10,(x4_1:Int).toNat * 8+5,none⟩=false:=hfr10 5;have hf10_6:w11.frozen? ⟨go10,(x4_1:Int).toNat * 8+6,none⟩=false:=hfr10 6;have hf10_7:w11.frozen? ⟨go10,(x4_1:Int).toNat * 8+7,none⟩=false:=hfr10 7;clear hcl10 hcc10 hfr10;(try clear hM10);replace p10:=eq_true p10;replace q10:=eq_true q10;have n_:=zk (Kd.R_mono (ok':=(fun k_=>some k_ ≠ (v56011:Value).ownBlock∧some k_ ≠ (v56014:Value).ownBlock)) HO_3.out (fun k_ hk=>⟨hk.1.2,hk.2⟩));clear HO_3;have HO_3:=n_;clear n_;have HX12:=zk (show Kd.R k67 67 w11 w.heap.size (fun _=>True) (.slice (some ⟨go10,0,none⟩) x3_1.length co10) x3_1 from (by (with_reducible repeat (first|apply Kd.R_alloc|apply Kd.R_drewN|apply Kd.R_drew));exact Kd.R_mono HO_3.out (fun _ hk=>trivial)));obtain ⟨ce12,hcl12,hM12,hcc12,hfr12⟩:=Kd.R_elem HX12.out z67 (x4_1:Int) (of_decide_eq_true za9) (by have h_:(x4_1:Int) < ((x3_1.length:Int):Int):=of_decide_eq_true za9;first|exact h_|(have e_:=(Kd.R_reads' HO_3.out).1;omega)|simpa using h_);obtain ⟨ve12_5,ve12_6,rfl,ge12_5,ge12_6⟩:=k67_openM hM12;have HP12:=Kd.R_seg HX12.out (x4_1:Int) (of_decide_eq_true za9) (by have h_:(x4_1:Int) < ((x3_1.length:Int):Int):=of_decide_eq_true za9;first|exact h_|(have e_:=(Kd.R_reads' HO_3.out).1;omega)|simpa using h_) (seg:=[.int .i64 t56005,.string t56006,.string t56007,.int .i64 t56008,.string t56009,v56011,v56014,.int .i64 t56016]) (j:=0) hcl12 hcc12 (show 8≤8 from by decide) (x':=(⟨t56005,t56006,t56007,(⟨t56008,t56009,t56010⟩:S65),t56013,t56016⟩:S67)) (k67_mkM _ _ _ (⟨t56005,t56006,t56007,(⟨t56008,t56009,t56010⟩:S65),t56013,t56016⟩:S67) (Kd.R_mono (Kd.R_apart' (HO56012.out) (Kd.R_typed HO_3.out) (by decide)) (fun k_ hk=>⟨trivial,fun e_=>(hk.2) (by rw [e_];rfl)⟩)) (Kd.R_mono (Kd.R_apart' (HO56015.out) (Kd.R_typed HO_3.out) (by decide)) (fun k_ hk=>⟨trivial,fun e_=>(hk.2) (by rw [e_];rfl)⟩))) (fun _ hk=>hk);have hx12_0:=hcc12 0 _ rfl;(try simp only [show (k67).sz=8 from rfl,Nat.mul_one,Nat.add_zero] at hx12_0);have hf12_0:=hfr12 0;(try simp only [show (k67).sz=8 from rfl,Nat.mul_one,Nat.add_zero] at hf12_0);have hx12_1:=hcc12 1 _ rfl;(try simp only [show (k67).sz=8 from rfl,Nat.mul_one,Nat.add_zero] at hx12_1);have hf12_1:=hfr12 1;(try simp only [show (k67).sz=8 from rfl,Nat.mul_one,Nat.add_zero] at hf12_1);have hx12_2:=hcc12 2 _ rfl;(try simp only [show (k67).sz=8 from rfl,Nat.mul_one,Nat.add_zero] at hx12_2);have hf12_2:=hfr12 2;(try simp only [show (k67).sz=8 from rfl,Nat.mul_one,Nat.add_zero] at hf12_2);have hx12_3:=hcc12 3 _ rfl;(try simp only [show (k67).sz=8 from rfl,Nat.mul_one,Nat.add_zero] at hx12_3);have hf12_3:=hfr12 3;(try simp only [show (k67).sz=8 from rfl,Nat.mul_one,Nat.add_zero] at hf12_3);have hx12_4:=hcc12 4 _ rfl;(try simp only [show (k67).sz=8 from rfl,Nat.mul_one,Nat.add_zero] at hx12_4);have hf12_4:=hfr12 4;(try simp only [show (k67).sz=8 from rfl,Nat.mul_one,Nat.add_zero] at hf12_4);have hx12_5:=hcc12 5 _ rfl;(try simp only [show (k67).sz=8 from rfl,Nat.mul_one,Nat.add_zero] at hx12_5);have hf12_5:=hfr12 5;(try simp only [show (k67).sz=8 from rfl,Nat.mul_one,Nat.add_zero] at hf12_5);have hx12_6:=hcc12 6 _ rfl;(try simp only [show (k67).sz=8 from rfl,Nat.mul_one,Nat.add_zero] at hx12_6);have hf12_6:=hfr12 6;(try simp only [show (k67).sz=8 from rfl,Nat.mul_one,Nat.add_zero] at hf12_6);have hx12_7:=hcc12 7 _ rfl;(try simp only [show (k67).sz=8 from rfl,Nat.mul_one,Nat.add_zero] at hx12_7);have hf12_7:=hfr12 7;(try simp only [show (k67).sz=8 from rfl,Nat.mul_one,Nat.add_zero] at hf12_7);clear hcl12 hcc12 hfr12;(try clear hM12))|((with_reducible refine gate_store (t:=67) (p:=21) rfl ?_);refine store_event (t:=67) (p:=21) (v:=?vo_w13) (w1:=((((((((w11.setCell ⟨go10,(x4_1:Int).toNat * 8,none⟩ (.int .i64 t56005)).setCell ⟨go10,(x4_1:Int).toNat * 8+1,none⟩ (.string t56006)).setCell ⟨go10,(x4_1:Int).toNat * 8+2,none⟩ (.string t56007)).setCell ⟨go10,(x4_1:Int).toNat * 8+3,none⟩ (.int .i64 t56008)).setCell ⟨go10,(x4_1:Int).toNat * 8+4,none⟩ (.string t56009)).setCell ⟨go10,(x4_1:Int).toNat * 8+5,none⟩ (v56011)).setCell ⟨go10,(x4_1:Int).toNat * 8+6,none⟩ (v56014)).setCell ⟨go10,(x4_1:Int).toNat * 8+7,none⟩ (.int .i64 t56016))) ?hg ?ho ?hn ?hr ?_;(case ho=>rfl);(case hg=>rfl);(case hn=>rfl);(case hr=>first|(go_simp;done)|(go_simp;rfl)|(obtain ⟨sA_,sc_,se_⟩:=Kd.R_slice HO56012.out;subst se_;first|(go_simp;done)|(go_simp;rfl))|(obtain ⟨sA_,sc_,se_⟩:=Kd.R_slice HO56015.out;subst se_;first|(go_simp;done)|(go_simp;rfl))|(obtain ⟨sA0_,sc0_,se0_⟩:=Kd.R_slice HO56012.out;subst se0_;obtain ⟨sA1_,sc1_,se1_⟩:=Kd.R_slice HO56015.out;subst se1_;first|(go_simp;done)|(go_simp;rfl)));intro w13 hw;have hg:w11.grownBy w13 (some go10):=(by rw [hw];exact HP12.2);have hp_:Kd.R k67 67 w13 w.heap.size (fun _=>True) (.slice (some ⟨go10,0,none⟩) x3_1.length co10) y56017:=(by rw [hw,Ny56017.out];exact HP12.1);clear HP12;have n0_:=zk (hp_);have n1_:=zk ((by rw [hw];exact below_set (below_set (below_set (below_set (below_set (below_set (below_set (below_set (HB.out) GB10.out) GB10.out) GB10.out) GB10.out) GB10.out) GB10.out) GB10.out) GB10.out:Below w.heap.size w w13));clear HO_3;clear HB;clear HO56012;clear HO56015;have HO_3:=n0_;have HB:=n1_;clear n0_ n1_;clear hg hw hp_))
     go_roundg k1
     case measure=>have:=HK1.out;omega
     case rel=>exact ⟨(y56017),(wrap64 (x4_1+1)),za8,H',⟨za17⟩,⟨za1 HO_3.out⟩,⟨za4⟩⟩
    ·rw [if_neg c9] at H
     exact absurd H (by simp)
    ·rw [if_neg c7] at H
     exact absurd H (by simp)
    ·rw [if_neg c6] at H
     have c6b0:decide (x4_1 < (l0.length:Int))=false:=decide_eq_false c6
     clear c6
     obtain rfl:=zi H
     go_wp2
     go_ret
     exact ⟨_,za7,za1 HO_3.out,za4⟩
 ·rw [if_neg c3] at H
  exact absurd H (by simp)
 ·rw [if_neg c2] at H
  exact absurd H (by simp)
def laws_eqConstraint.f (k:Nat) (a0_0:Int) (a0_1:ByteArray) (a0_2:ByteArray) (a0_3:Int) (a0_4:ByteArray) (l0_5:List (S65)) (l0_6:List Int) (a0_7:Int) (a1_0:Int) (a1_1:ByteArray) (a1_2:ByteArray) (a1_3:Int) (a1_4:ByteArray) (l1_5:List (S65)) (l1_6:List Int) (a1_7:Int):Option (Bool):=if a0_0=a1_0 then (if a0_1.toList=a1_1.toList then (if a0_2.toList=a1_2.toList then ((laws_eqRegex.f k a0_3 a0_4 l0_5 a1_3 a1_4 l1_5).bind fun t87003=>(if t87003=true then ((laws_eqIntS.f k l0_6 l1_6).bind fun t87004=>(if t87004=true then (if a0_7=a1_7 then (some true) else (some false)) else (some false))) else (some false))) else (some false)) else (some false)) else (some false)
theorem laws_eqConstraint.mono:∀ a0 a1 a2 a3 a4 a5 a6 a7 a8 a9 a10 a11 a12 a13 a14 a15 k,LeO (laws_eqConstraint.f k a0 a1 a2 a3 a4 a5 a6 a7 a8 a9 a10 a11 a12 a13 a14 a15) (laws_eqConstraint.f (k+1) a0 a1 a2 a3 a4 a5 a6 a7 a8 a9 a10 a11 a12 a13 a14 a15):=by
 intro a0 a1 a2 a3 a4 a5 a6 a7 a8 a9 a10 a11 a12 a13 a14 a15 k
 unfold laws_eqConstraint.f
 repeat' first
  | with_reducible first|exact laws_eqIntS.mono _ _ _|exact laws_eqRegex.mono _ _ _ _ _ _ _|exact LeO.refl _|exact LeO.none _|refine LeO.ite ?_ ?_|refine LeO.bind ?_ (fun _=>?_)
theorem laws_eqConstraint.calls (k:Nat) (a0_0:Int) (a0_1:ByteArray) (a0_2:ByteArray) (a0_3:Int) (a0_4:ByteArray) (A0_5:Option Addr) (c0_5:Nat) (l0_5:List (S65)) (A0_6:Option Addr) (c0_6:Nat) (l0_6:List Int) (a0_7:Int) (a1_0:Int) (a1_1:ByteArray) (a1_2:ByteArray) (a1_3:Int) (a1_4:ByteArray) (A1_5:Option Addr) (c1_5:Nat) (l1_5:List (S65)) (A1_6:Option Addr) (c1_6:Nat) (l1_6:List Int) (a1_7:Int) (r:Bool) (w:World) (hr0_5:Kd.C k65 w A0_5 l0_5.length l0_5) (hc0_5:l0_5.length≤c0_5) (hr0_6:Kd.C (Kd.int .i64) w A0_6 l0_6.length l0_6) (hc0_6:l0_6.length≤c0_6) (hr1_5:Kd.C k65 w A1_5 l1_5.length l1_5) (hc1_5:l1_5.length≤c1_5) (hr1_6:Kd.C (Kd.int .i64) w A1_6 l1_6.length l1_6) (hc1_6:l1_6.length≤c1_6) (h:laws_eqConstraint.f k a0_0 a0_1 a0_2 a0_3 a0_4 l0_5 l0_6 a0_7 a1_0 a1_1 a1_2 a1_3 a1_4 l1_5 l1_6 a1_7=some r) :
   Calls Tryz.prog 87 #[.agg #[.int .i64 a0_0,.string a0_1,.string a0_2,.int .i64 a0_3,.string a0_4,.slice A0_5 l0_5.length c0_5,.slice A0_6 l0_6.length c0_6,.int .i64 a0_7],.agg #[.int .i64 a1_0,.string a1_1,.string a1_2,.int .i64 a1_3,.string a1_4,.slice A1_5 l1_5.length c1_5,.slice A1_6 l1_6.length c1_6,.int .i64 a1_7]] w fun e w'=>e = .returned (.bool r)∧Below w.heap.size w w':=by
 have hu67:=Tryz.underlying67
 have hu65:=Tryz.underlying65
 have HR0_5:=zk hr0_5
 have HC0_5:=zk hc0_5
 clear hr0_5 hc0_5
 have HR0_6:=zk hr0_6
 have HC0_6:=zk hc0_6
 clear hr0_6 hc0_6
 have HR1_5:=zk hr1_5
 have HC1_5:=zk hc1_5
 clear hr1_5 hc1_5
 have HR1_6:=zk hr1_6
 have HC1_6:=zk hc1_6
 clear hr1_6 hc1_6
 have HB:=zk (Below.refl w.heap.size w)
 have H:(if a0_0=a1_0 then (if a0_1.toList=a1_1.toList then (if a0_2.toList=a1_2.toList then ((laws_eqRegex.f k a0_3 a0_4 l0_5 a1_3 a1_4 l1_5).bind fun t87003=>(if t87003=true then ((laws_eqIntS.f k l0_6 l1_6).bind fun t87004=>(if t87004=true then (if a0_7=a1_7 then (some true) else (some false)) else (some false))) else (some false))) else (some false)) else (some false)) else (some false))=some r:=h
 clear h
 by_cases c3:a0_0=a1_0
 rw [if_pos c3] at H
 have c3b0:(a0_0 == a1_0)=true:=beq_iff_eq.mpr c3
 have c3b1:(a0_0 != a1_0)=false:=bne_eq_false_iff_eq.mpr c3
 clear c3
 by_cases c4:a0_1.toList=a1_1.toList
 rw [if_pos c4] at H
 have c4b0:(a0_1.toList == a1_1.toList)=true:=beq_iff_eq.mpr c4
 have c4b1:(a0_1.toList != a1_1.toList)=false:=bne_eq_false_iff_eq.mpr c4
 clear c4
 by_cases c5:a0_2.toList=a1_2.toList
 rw [if_pos c5] at H
 have c5b0:(a0_2.toList == a1_2.toList)=true:=beq_iff_eq.mpr c5
 have c5b1:(a0_2.toList != a1_2.toList)=false:=bne_eq_false_iff_eq.mpr c5
 clear c5
 replace H:=zo H
 obtain ⟨t87003,A60,H⟩:=H
 replace H:(if t87003=true then ((laws_eqIntS.f k l0_6 l1_6).bind fun t87004=>(if t87004=true then (if a0_7=a1_7 then (some true) else (some false)) else (some false))) else (some false))=some r:=H
 have A6:=zk A60
 clear A60
 by_cases c7:t87003=true
 subst c7
 have H1:((laws_eqIntS.f k l0_6 l1_6).bind fun t87004=>(if t87004=true then (if a0_7=a1_7 then (some true) else (some false)) else (some false)))=some r:=by rw [if_pos rfl] at H;exact H
 clear H
 have H:=H1
 clear H1
 replace H:=zo H
 obtain ⟨t87004,A80,H⟩:=H
 replace H:(if t87004=true then (if a0_7=a1_7 then (some true) else (some false)) else (some false))=some r:=H
 have A8:=zk A80
 clear A80
 by_cases c9:t87004=true
 subst c9
 have H1:(if a0_7=a1_7 then (some true) else (some false))=some r:=by rw [if_pos rfl] at H;exact H
 clear H
 have H:=H1
 clear H1
 by_cases c10:a0_7=a1_7
 rw [if_pos c10] at H
 have c10b0:(a0_7 == a1_7)=true:=beq_iff_eq.mpr c10
 have c10b1:(a0_7 != a1_7)=false:=bne_eq_false_iff_eq.mpr c10
 clear c10
 rotate_left
 rw [if_neg c10] at H
 have c10b0:(a0_7 == a1_7)=false:=beq_eq_false_iff_ne.mpr c10
 have c10b1:(a0_7 != a1_7)=true:=bne_iff_ne.mpr c10
 rotate_left
 replace c9:=Bool.eq_false_iff.mpr c9
 subst c9
 have H1:(some false)=some r:=by rw [if_neg (show ¬ (false=true) by decide)] at H;exact H
 clear H
 have H:=H1
 clear H1
 rotate_left
 replace c7:=Bool.eq_false_iff.mpr c7
 subst c7
 have H1:(some false)=some r:=by rw [if_neg (show ¬ (false=true) by decide)] at H;exact H
 clear H
 have H:=H1
 clear H1
 rotate_left
 rw [if_neg c5] at H
 have c5b0:(a0_2.toList == a1_2.toList)=false:=beq_eq_false_iff_ne.mpr c5
 have c5b1:(a0_2.toList != a1_2.toList)=true:=bne_iff_ne.mpr c5
 rotate_left
 rw [if_neg c4] at H
 have c4b0:(a0_1.toList == a1_1.toList)=false:=beq_eq_false_iff_ne.mpr c4
 have c4b1:(a0_1.toList != a1_1.toList)=true:=bne_iff_ne.mpr c4
 rotate_left
 rw [if_neg c3] at H
 have c3b0:(a0_0 == a1_0)=false:=beq_eq_false_iff_ne.mpr c3
 have c3b1:(a0_0 != a1_0)=true:=bne_iff_ne.mpr c3
 rotate_left
 all_goals
  obtain rfl:=zi H
  go_enter Tryz.func87,Tryz.ntmps87
  go_wp2_with (first|((with_reducible refine gate_dst (N:=2) rfl ?_);refine zE (N:=2) (cs:=#[.int .i64 a0_0,.string a0_1,.string a0_2,.int .i64 a0_3,.string a0_4,.slice A0_5 l0_5.length c0_5,.slice A0_6 l0_6.length c0_6,.int .i64 a0_7]) (t:=67) ?_;intro gb87001 hg w11 hbox hb;have n0_:=zk (below_step za4 hb);have n1_:=zk (hbox);have n2_:=zk (zs (w:=w) hg za4);have n3_:=zk (zs (w:=w) hg za4);clear HB;have HB:=n0_;have BK87001:=n1_;have GW87001:=n2_;have GE87001:=n3_;clear n0_ n1_ n2_ n3_;clear hb hbox hg)|((with_reducible refine gate_dst (N:=3) rfl ?_);refine zE (N:=3) (cs:=#[.int .i64 a1_0,.string a1_1,.string a1_2,.int .i64 a1_3,.string a1_4,.slice A1_5 l1_5.length c1_5,.slice A1_6 l1_6.length c1_6,.int .i64 a1_7]) (t:=67) ?_;intro gb87002 hg w12 hbox hb;have n0_:=zk (zb BK87001.out hb);have n1_:=zk (below_step za4 hb);have n2_:=zk (hbox);have n3_:=zk (zs (w:=w) hg za4);have n4_:=zk (zs (w:=w) hg za4);have n5_:=zk ((by rw [hg];exact Nat.ne_of_lt (zl BK87001.out):gb87001 ≠ gb87002));have n6_:=zk ((by rw [hg];exact Nat.ne_of_gt (zl BK87001.out):gb87002 ≠ gb87001));clear BK87001;clear HB;have BK87001:=n0_;have HB:=n1_;have BK87002:=n2_;have GW87002:=n3_;have GE87002:=n4_;have NB87001_87002:=n5_;have NB87002_87001:=n6_;clear n0_ n1_ n2_ n3_ n4_ n5_ n6_;clear hb hbox hg;have hnb13:=NB87001_87002.out;have hnc13:=NB87002_87001.out;obtain ⟨hcz14_0,hcz14_1,hcz14_2,hcz14_3,hcz14_4,hcz14_5,hcz14_6,hcz14_7,hfz14_0,hfz14_1,hfz14_2,hfz14_3,hfz14_4,hfz14_5,hfz14_6,hfz14_7⟩:=blk8 BK87001.out;obtain ⟨hcz15_0,hcz15_1,hcz15_2,hcz15_3,hcz15_4,hcz15_5,hcz15_6,hcz15_7,hfz15_0,hfz15_1,hfz15_2,hfz15_3,hfz15_4,hfz15_5,hfz15_6,hfz15_7⟩:=blk8 BK87002.out)|((with_reducible refine gate_callee (f:=122) rfl ?_);refine goesL_ (some 24) rfl rfl Tryz.func122 (by kernel_rfl) rfl #[.agg #[.int .i64 a0_3,.string a0_4,.slice A0_5 l0_5.length c0_5],.agg #[.int .i64 a1_3,.string a1_4,.slice A1_5 l1_5.length c1_5]] rfl za5 ?_;(with_reducible refine (laws_eqRegex.calls k a0_3 a0_4 _ _ l0_5 a1_3 a1_4 _ _ l1_5 _ _ ?side1 ?side2 ?side3 ?side4 A6.out).mono ?_);(case side1=>repeat (first|exact (Kd.C_below HR0_5.out HB.out)|(with_reducible refine Kd.C_alloc ?_ _)|(with_reducible refine Kd.C_drewN ?_ _)|(with_reducible refine Kd.C_drew ?_)));(case side2=>exact HC0_5.out);(case side3=>repeat (first|exact (Kd.C_below HR1_5.out HB.out)|(with_reducible refine Kd.C_alloc ?_ _)|(with_reducible refine Kd.C_drewN ?_ _)|(with_reducible refine Kd.C_drew ?_)));(case side4=>exact HC1_5.out);rintro e w16 ⟨rfl,hb⟩;refine ⟨_,rfl,?_⟩;have n0_:=zk (zb BK87001.out hb);have n1_:=zk (zb BK87002.out hb);have n2_:=zk (below_step za4 hb);clear BK87001;clear BK87002;clear HB;have BK87001:=n0_;have BK87002:=n1_;have HB:=n2_;clear n0_ n1_ n2_;(try clear hb);(try clear hb2);(try clear hk);(try clear hi);obtain ⟨hcz17_0,hcz17_1,hcz17_2,hcz17_3,hcz17_4,hcz17_5,hcz17_6,hcz17_7,hfz17_0,hfz17_1,hfz17_2,hfz17_3,hfz17_4,hfz17_5,hfz17_6,hfz17_7⟩:=blk8 BK87001.out;obtain ⟨hcz18_0,hcz18_1,hcz18_2,hcz18_3,hcz18_4,hcz18_5,hcz18_6,hcz18_7,hfz18_0,hfz18_1,hfz18_2,hfz18_3,hfz18_4,hfz18_5,hfz18_6,hfz18_7⟩:=blk8 BK87002.out)|((with_reducible refine gate_callee (f:=123) rfl ?_);refine goesL_ (some 30) rfl rfl Tryz.func123 (by kernel_rfl) rfl #[.slice A0_6 l0_6.length c0_6,.slice A1_6 l1_6.length c1_6] rfl za5 ?_;(with_reducible refine (laws_eqIntS.calls k _ _ l0_6 _ _ l1_6 _ _ ?side1 ?side2 ?side3 ?side4 A8.out).mono ?_);(case side1=>repeat (first|exact (Kd.C_below HR0_6.out HB.out)|(with_reducible refine Kd.C_alloc ?_ _)|(with_reducible refine Kd.C_drewN ?_ _)|(with_reducible refine Kd.C_drew ?_)));(case side2=>exact HC0_6.out);(case side3=>repeat (first|exact (Kd.C_below HR1_6.out HB.out)|(with_reducible refine Kd.C_alloc ?_ _)|(with_reducible refine Kd.C_drewN ?_ _)|(with_reducible refine Kd.C_drew ?_)));(case side4=>exact HC1_6.out);rintro e w' ⟨rfl,⟨nd,rfl⟩⟩;refine ⟨_,rfl,?_⟩))
  go_ret
  exact ⟨za7,za4⟩
def laws_eqConstraintS.l0:Nat→List (S67)→List (S67)→Int→Option (Bool)
 | 0,_,_,_=>none
 | k+1,x0,x1,x5=>if x5 < (x0.length:Int) then (if 0≤x5 then (if x5 < (x1.length:Int) then ((laws_eqConstraint.f k ((rd_T67 x0 x5).f0) ((rd_T67 x0 x5).f1) ((rd_T67 x0 x5).f2) ((rd_T67 x0 x5).f3.f0) ((rd_T67 x0 x5).f3.f1) ((rd_T67 x0 x5).f3.f2) ((rd_T67 x0 x5).f4) ((rd_T67 x0 x5).f5) ((rd_T67 x1 x5).f0) ((rd_T67 x1 x5).f1) ((rd_T67 x1 x5).f2) ((rd_T67 x1 x5).f3.f0) ((rd_T67 x1 x5).f3.f1) ((rd_T67 x1 x5).f3.f2) ((rd_T67 x1 x5).f4) ((rd_T67 x1 x5).f5)).bind fun t57003=>(if t57003=true then (laws_eqConstraintS.l0 k x0 x1 (wrap64 (x5+1))) else (some false))) else (none)) else (none)) else (some true)
def laws_eqConstraintS.f (k:Nat) (l0:List (S67)) (l1:List (S67)):Option (Bool):=if (l0.length:Int)=(l1.length:Int) then (laws_eqConstraintS.l0 k l0 l1 0) else (some false)
theorem laws_eqConstraintS.mono_l:∀ k,(∀ y0 y1 y2,LeO (laws_eqConstraintS.l0 k y0 y1 y2) (laws_eqConstraintS.l0 (k+1) y0 y1 y2))
 | 0=>fun _ _ _ r h=>by simp [laws_eqConstraintS.l0] at h
 | k+1=>by
  have ih0:=laws_eqConstraintS.mono_l k
  ·intro y0 y1 y2
   unfold laws_eqConstraintS.l0
   repeat' first
   | with_reducible first|exact ih0 _ _ _|exact laws_eqConstraint.mono _ _ _ _ _ _ _ _ _ _ _ _ _ _ _ _ _|exact LeO.refl _|exact LeO.none _|refine LeO.ite ?_ ?_|refine LeO.bind ?_ (fun _=>?_)
theorem laws_eqConstraintS.mono:∀ a0 a1 k,LeO (laws_eqConstraintS.f k a0 a1) (laws_eqConstraintS.f (k+1) a0 a1):=by
 intro a0 a1 k
 have ih0:=laws_eqConstraintS.mono_l k
 unfold laws_eqConstraintS.f
 repeat' first
  | with_reducible first|exact ih0 _ _ _|exact laws_eqConstraint.mono _ _ _ _ _ _ _ _ _ _ _ _ _ _ _ _ _|exact LeO.refl _|exact LeO.none _|refine LeO.ite ?_ ?_|refine LeO.bind ?_ (fun _=>?_)
def laws_eqConstraintS.T6:Bool × List (List Nat × List Nat):=(true,[([],[]),([],[]),([0,1],[0,1]),([2],[2]),([],[]),([],[]),([4,5],[4,5]),([6],[6]),([3,7],[3,7]),([8],[8])])
def laws_eqConstraintS.B6:List Nat:=[0,0,3,7,0,0,48,112,255,511]
theorem laws_eqConstraintS.tab6:rtab .any (opsOf Tryz.f57 6)=laws_eqConstraintS.T6:=by kernel_rfl
theorem laws_eqConstraintS.bits6:waitsOk laws_eqConstraintS.T6.2 laws_eqConstraintS.B6=true:=by kernel_rfl
theorem laws_eqConstraintS.calls (k:Nat) (A0:Option Addr) (c0:Nat) (l0:List (S67)) (A1:Option Addr) (c1:Nat) (l1:List (S67)) (r:Bool) (w:World) (hr0:Kd.C k67 w A0 l0.length l0) (hc0:l0.length≤c0) (hr1:Kd.C k67 w A1 l1.length l1) (hc1:l1.length≤c1) (h:laws_eqConstraintS.f k l0 l1=some r) :
  Calls Tryz.prog 57 #[.slice A0 l0.length c0,.slice A1 l1.length c1] w fun e w'=>e = .returned (.bool r)∧Below w.heap.size w w':=by
 have hu67:=Tryz.underlying67
 have HR0:=zk hr0
 have HC0:=zk hc0
 clear hr0 hc0
 have HR1:=zk hr1
 have HC1:=zk hc1
 clear hr1 hc1
 have HB:=zk (Below.refl w.heap.size w)
 have H:(if (l0.length:Int)=(l1.length:Int) then (laws_eqConstraintS.l0 k l0 l1 0) else (some false))=some r:=h
 clear h
 by_cases c3:(l0.length:Int)=(l1.length:Int)
 ·rw [if_pos c3] at H
  have c3b0:((l0.length:Int) == (l1.length:Int))=true:=beq_iff_eq.mpr c3
  have c3b1:((l0.length:Int) != (l1.length:Int))=false:=bne_eq_false_iff_eq.mpr c3
  have c3b2:(l0.length == l1.length)=true:=by first|simpa using c3|(simp at c3 ⊢;omega)
  clear c3
  have H':=zk H
  clear H
  go_enter Tryz.func57,Tryz.ntmps57
  go_wp2
  first|go_loopg [5] k (fun kq v5 w'=>∃ (x5_1:Int),v5 = .int .i64 x5_1∧Aside0 (laws_eqConstraintS.l0 kq l0 l1 x5_1=some r)∧Aside0 (kq≤k)∧Aside0 (Below w.heap.size w w'))|(simp only [Act.put,zt,zv,zu];go_loopg [5] k (fun kq v5 w'=>∃ (x5_1:Int),v5 = .int .i64 x5_1∧Aside0 (laws_eqConstraintS.l0 kq l0 l1 x5_1=some r)∧Aside0 (kq≤k)∧Aside0 (Below w.heap.size w w')))
  case atStart=>exact ⟨(0),za8,H',⟨Nat.le_refl _⟩,⟨za4⟩⟩
  case round =>
   clear H'
   try clear c3
   try clear c3b0
   try clear c3b1
   try clear c3b2
   obtain ⟨x5_1,rfl,HA,HK1,HB⟩:=hrel
   cases gk with
   | zero=>exact absurd HA.out (by simp [laws_eqConstraintS.l0])
   | succ k1 =>
    have H:=HA.out
    clear HA
    simp only [laws_eqConstraintS.l0] at H
    by_cases c4:x5_1 < (l0.length:Int)
    rw [if_pos c4] at H
    have c4b0:decide (x5_1 < (l0.length:Int))=true:=decide_eq_true c4
    clear c4
    by_cases c5:0≤x5_1
    rw [if_pos c5] at H
    have c5b0:decide (0≤x5_1)=true:=decide_eq_true c5
    clear c5
    by_cases c6:x5_1 < (l1.length:Int)
    rw [if_pos c6] at H
    have c6b0:decide (x5_1 < (l1.length:Int))=true:=decide_eq_true c6
    clear c6
    replace H:=zo H
    obtain ⟨t57003,A70,H⟩:=H
    replace H:(if t57003=true then (laws_eqConstraintS.l0 k1 l0 l1 (wrap64 (x5_1+1))) else (some false))=some r:=H
    have A7:=zk A70
    clear A70
    by_cases c8:t57003=true
    subst c8
    have H1:(laws_eqConstraintS.l0 k1 l0 l1 (wrap64 (x5_1+1)))=some r:=by rw [if_pos rfl] at H;exact H
    clear H
    have H:=H1
    clear H1
    have H':=zk H
    clear H
    have fin1_:=zk trivial
    rotate_left
    replace c8:=Bool.eq_false_iff.mpr c8
    subst c8
    have H1:(some false)=some r:=by rw [if_neg (show ¬ (false=true) by decide)] at H;exact H
    clear H
    have H:=H1
    clear H1
    obtain rfl:=zi H
    have fin0_:=zk trivial
    rotate_left
    · rw [if_neg c6] at H
      exact absurd H (by simp)
    · rw [if_neg c5] at H
      exact absurd H (by simp)
    · rw [if_neg c4] at H
      have c4b0:decide (x5_1 < (l0.length:Int))=false:=decide_eq_false c4
      clear c4
      obtain rfl:=zi H
      go_wp2
      go_ret
      exact ⟨za7,za4⟩
    all_goals
     try go_wp2
     have n0_:=zk (below_drew1 HB.out)
     clear HB
     have HB:=n0_
     clear n0_
     have p57001:0≤(x5_1:Int):=of_decide_eq_true za9
     have q57001:x5_1 < (l0.length:Int):=of_decide_eq_true za9
     obtain ⟨ad57001,A57001_5,c57001_5,A57001_6,c57001_6,e57001,hx57001_0,hx57001_1,hx57001_2,hx57001_3,hx57001_4,hx57001_5,hx57001_6,hx57001_7,hl57001_5,hi57001_5,hl57001_6,hi57001_6⟩:=at_T67 HR0.out x5_1 p57001 q57001
     have hw57001_7:=hx57001_7
     have hw57001_6:=hx57001_6
     have hw57001_5:=hx57001_5
     have hw57001_4:=hx57001_4
     have hw57001_3:=hx57001_3
     have hw57001_2:=hx57001_2
     have hw57001_1:=hx57001_1
     have hw57001_0:=hx57001_0
     cases e57001
     replace hx57001_0:=zx HB.out hx57001_0
     replace hx57001_1:=zx HB.out hx57001_1
     replace hx57001_2:=zx HB.out hx57001_2
     replace hx57001_3:=zx HB.out hx57001_3
     replace hx57001_4:=zx HB.out hx57001_4
     replace hx57001_5:=zx HB.out hx57001_5
     replace hx57001_6:=zx HB.out hx57001_6
     replace hx57001_7:=zx HB.out hx57001_7
     have HR57001_5:=zk hi57001_5
     have HC57001_5:=zk hl57001_5
     clear hi57001_5 hl57001_5
     have HR57001_6:=zk hi57001_6
     have HC57001_6:=zk hl57001_6
     clear hi57001_6 hl57001_6
     replace p57001:=eq_true p57001
     replace q57001:=eq_true q57001
     have p57002:0≤(x5_1:Int):=of_decide_eq_true za9
     have q57002:x5_1 < (l1.length:Int):=of_decide_eq_true za9
     obtain ⟨ad57002,A57002_5,c57002_5,A57002_6,c57002_6,e57002,hx57002_0,hx57002_1,hx57002_2,hx57002_3,hx57002_4,hx57002_5,hx57002_6,hx57002_7,hl57002_5,hi57002_5,hl57002_6,hi57002_6⟩:=at_T67 HR1.out x5_1 p57002 q57002
     have hw57002_7:=hx57002_7
     have hw57002_6:=hx57002_6
     have hw57002_5:=hx57002_5
     have hw57002_4:=hx57002_4
     have hw57002_3:=hx57002_3
     have hw57002_2:=hx57002_2
     have hw57002_1:=hx57002_1
     have hw57002_0:=hx57002_0
     cases e57002
     replace hx57002_0:=zx HB.out hx57002_0
     replace hx57002_1:=zx HB.out hx57002_1
     replace hx57002_2:=zx HB.out hx57002_2
     replace hx57002_3:=zx HB.out hx57002_3
     replace hx57002_4:=zx HB.out hx57002_4
     replace hx57002_5:=zx HB.out hx57002_5
     replace hx57002_6:=zx HB.out hx57002_6
     replace hx57002_7:=zx HB.out hx57002_7
     have HR57002_5:=zk hi57002_5
     have HC57002_5:=zk hl57002_5
     clear hi57002_5 hl57002_5
     have HR57002_6:=zk hi57002_6
     have HC57002_6:=zk hl57002_6
     clear hi57002_6 hl57002_6
     replace p57002:=eq_true p57002
     replace q57002:=eq_true q57002
     refine start_ (n:=10) (S:=fun w'=>w'.cell? (ad57001.add ((x5_1).toNat * 8))=some (.int .i64 ((rd_T67 l0 x5_1).f0))∧w'.cell? ⟨(ad57001.add ((x5_1).toNat * 8)).block,(ad57001.add ((x5_1).toNat * 8)).off+1,none⟩=some (.string ((rd_T67 l0 x5_1).f1))∧w'.cell? ⟨(ad57001.add ((x5_1).toNat * 8)).block,(ad57001.add ((x5_1).toNat * 8)).off+2,none⟩=some (.string ((rd_T67 l0 x5_1).f2))∧w'.cell? ⟨(ad57001.add ((x5_1).toNat * 8)).block,(ad57001.add ((x5_1).toNat * 8)).off+3,none⟩=some (.int .i64 ((rd_T67 l0 x5_1).f3.f0))∧w'.cell? ⟨(ad57001.add ((x5_1).toNat * 8)).block,(ad57001.add ((x5_1).toNat * 8)).off+4,none⟩=some (.string ((rd_T67 l0 x5_1).f3.f1))∧w'.cell? ⟨(ad57001.add ((x5_1).toNat * 8)).block,(ad57001.add ((x5_1).toNat * 8)).off+5,none⟩=some (.slice A57001_5 ((rd_T67 l0 x5_1).f3.f2).length c57001_5)∧w'.cell? ⟨(ad57001.add ((x5_1).toNat * 8)).block,(ad57001.add ((x5_1).toNat * 8)).off+6,none⟩=some (.slice A57001_6 ((rd_T67 l0 x5_1).f4).length c57001_6)∧w'.cell? ⟨(ad57001.add ((x5_1).toNat * 8)).block,(ad57001.add ((x5_1).toNat * 8)).off+7,none⟩=some (.int .i64 ((rd_T67 l0 x5_1).f5))∧w'.cell? (ad57002.add ((x5_1).toNat * 8))=some (.int .i64 ((rd_T67 l1 x5_1).f0))∧w'.cell? ⟨(ad57002.add ((x5_1).toNat * 8)).block,(ad57002.add ((x5_1).toNat * 8)).off+1,none⟩=some (.string ((rd_T67 l1 x5_1).f1))∧w'.cell? ⟨(ad57002.add ((x5_1).toNat * 8)).block,(ad57002.add ((x5_1).toNat * 8)).off+2,none⟩=some (.string ((rd_T67 l1 x5_1).f2))∧w'.cell? ⟨(ad57002.add ((x5_1).toNat * 8)).block,(ad57002.add ((x5_1).toNat * 8)).off+3,none⟩=some (.int .i64 ((rd_T67 l1 x5_1).f3.f0))∧w'.cell? ⟨(ad57002.add ((x5_1).toNat * 8)).block,(ad57002.add ((x5_1).toNat * 8)).off+4,none⟩=some (.string ((rd_T67 l1 x5_1).f3.f1))∧w'.cell? ⟨(ad57002.add ((x5_1).toNat * 8)).block,(ad57002.add ((x5_1).toNat * 8)).off+5,none⟩=some (.slice A57002_5 ((rd_T67 l1 x5_1).f3.f2).length c57002_5)∧w'.cell? ⟨(ad57002.add ((x5_1).toNat * 8)).block,(ad57002.add ((x5_1).toNat * 8)).off+6,none⟩=some (.slice A57002_6 ((rd_T67 l1 x5_1).f4).length c57002_6)∧w'.cell? ⟨(ad57002.add ((x5_1).toNat * 8)).block,(ad57002.add ((x5_1).toNat * 8)).off+7,none⟩=some (.int .i64 ((rd_T67 l1 x5_1).f5))) (ds:=[]) #[false,false,false,false,false,false,false,false,false,false] (by kernel_rfl) rfl rfl ⟨((HB.out.cell (World.block_lt_of_cell? w _ hw57001_0)).trans hw57001_0),((HB.out.cell (World.block_lt_of_cell? w _ hw57001_1)).trans hw57001_1),((HB.out.cell (World.block_lt_of_cell? w _ hw57001_2)).trans hw57001_2),((HB.out.cell (World.block_lt_of_cell? w _ hw57001_3)).trans hw57001_3),((HB.out.cell (World.block_lt_of_cell? w _ hw57001_4)).trans hw57001_4),((HB.out.cell (World.block_lt_of_cell? w _ hw57001_5)).trans hw57001_5),((HB.out.cell (World.block_lt_of_cell? w _ hw57001_6)).trans hw57001_6),((HB.out.cell (World.block_lt_of_cell? w _ hw57001_7)).trans hw57001_7),((HB.out.cell (World.block_lt_of_cell? w _ hw57002_0)).trans hw57002_0),((HB.out.cell (World.block_lt_of_cell? w _ hw57002_1)).trans hw57002_1),((HB.out.cell (World.block_lt_of_cell? w _ hw57002_2)).trans hw57002_2),((HB.out.cell (World.block_lt_of_cell? w _ hw57002_3)).trans hw57002_3),((HB.out.cell (World.block_lt_of_cell? w _ hw57002_4)).trans hw57002_4),((HB.out.cell (World.block_lt_of_cell? w _ hw57002_5)).trans hw57002_5),((HB.out.cell (World.block_lt_of_cell? w _ hw57002_6)).trans hw57002_6),((HB.out.cell (World.block_lt_of_cell? w _ hw57002_7)).trans hw57002_7)⟩ (fun hHeld=>?_);refine with_tabW laws_eqConstraintS.tab6 laws_eqConstraintS.bits6 (fun HT_ HW_=>?_)
     generalize wr.drew=w11 at HB HR57001_5 HR57001_6 HR57002_5 HR57002_6 hx57001_0 hx57001_1 hx57001_2 hx57001_3 hx57001_4 hx57001_5 hx57001_6 hx57001_7 hx57002_0 hx57002_1 hx57002_2 hx57002_3 hx57002_4 hx57002_5 hx57002_6 hx57002_7 hHeld ⊢
     refine pure_ (i:=0) (N:=some 17) (v:=?_) (a':=?_) #[true,false,false,false,false,false,false,false,false,false] rfl rfl (any_of HT_.out (by kernel_rfl)) (fun _ _ _ h=>h) (Or.inl ⟨by rfl,?_⟩) ?_ ?_
     rotate_left
     · intro w'
       go_simp
       first|with_reducible rfl|(rw [if_neg (by omega)];done)
     rotate_left
     · simp only [Act.put,zt,zu,zv,i64_w,i32_w]
       rfl
     refine pure_ (i:=1) (N:=some 18) (v:=?_) (a':=?_) #[true,true,false,false,false,false,false,false,false,false] rfl rfl (any_of HT_.out (by kernel_rfl)) (fun _ _ _ h=>h) (Or.inl ⟨by rfl,?_⟩) ?_ ?_
     rotate_left
     · intro w'
       go_simp
       first|with_reducible rfl|(rw [if_neg (by omega)];done)
     rotate_left
     · simp only [Act.put,zt,zu,zv,i64_w,i32_w]
       rfl
     refine pure_ (i:=2) (N:=some 19) (v:=?_) (a':=?_) #[true,true,true,false,false,false,false,false,false,false] rfl rfl (any_of HT_.out (by kernel_rfl)) (fun _ _ _ h=>h) (Or.inl ⟨by rfl,?_⟩) ?_ ?_
     rotate_left
     · intro w'
       go_simp
       first|with_reducible rfl|(rw [if_neg (by omega)];done)
     rotate_left
     · simp only [Act.put,zt,zu,zv,i64_w,i32_w]
       rfl
     refine pure_ (i:=4) (N:=some 21) (v:=?_) (a':=?_) #[true,true,true,false,true,false,false,false,false,false] rfl rfl (any_of HT_.out (by kernel_rfl)) (fun _ _ _ h=>h) (Or.inl ⟨by rfl,?_⟩) ?_ ?_
     rotate_left
     · intro w'
       go_simp
       first|with_reducible rfl|(rw [if_neg (by omega)];done)
     rotate_left
     · simp only [Act.put,zt,zu,zv,i64_w,i32_w]
       rfl
     refine pure_ (i:=5) (N:=some 22) (v:=?_) (a':=?_) #[true,true,true,false,true,true,false,false,false,false] rfl rfl (any_of HT_.out (by kernel_rfl)) (fun _ _ _ h=>h) (Or.inl ⟨by rfl,?_⟩) ?_ ?_
     rotate_left
     · intro w'
       go_simp
       first|with_reducible rfl|(rw [if_neg (by omega)];done)
     rotate_left
     · simp only [Act.put,zt,zu,zv,i64_w,i32_w]
       rfl
     refine pure_ (i:=6) (N:=some 23) (v:=?_) (a':=?_) #[true,true,true,false,true,true,true,false,false,false] rfl rfl (any_of HT_.out (by kernel_rfl)) (fun _ _ _ h=>h) (Or.inl ⟨by rfl,?_⟩) ?_ ?_
     rotate_left
     · intro w'
       go_simp
       first|with_reducible rfl|(rw [if_neg (by omega)];done)
     rotate_left
     · simp only [Act.put,zt,zu,zv,i64_w,i32_w]
       rfl
     refine take_ (i:=3) (N:=some 20) (v:=?_) (a':=?_) #[true,true,true,true,true,true,true,false,false,false] rfl rfl (take_ofW HT_.out HW_.out (by kernel_rfl)) (fun _ _ _ h=>h) (Or.inl ⟨by rfl,?_⟩) hHeld ?_ ?_
     rotate_left
     · rintro w' ⟨s0,s1,s2,s3,s4,s5,s6,s7,s8,s9,s10,s11,s12,s13,s14,s15⟩
       go_simp
       first|with_reducible rfl|(rw [if_neg (by omega)];done)
     rotate_left
     · simp only [Act.put,zt,zu,zv,i64_w,i32_w]
       rfl
     refine take_ (i:=7) (N:=some 24) (v:=?_) (a':=?_) #[true,true,true,true,true,true,true,true,false,false] rfl rfl (take_ofW HT_.out HW_.out (by kernel_rfl)) (fun _ _ _ h=>h) (Or.inl ⟨by rfl,?_⟩) hHeld ?_ ?_
     rotate_left
     · rintro w' ⟨s0,s1,s2,s3,s4,s5,s6,s7,s8,s9,s10,s11,s12,s13,s14,s15⟩
       go_simp
       first|with_reducible rfl|(rw [if_neg (by omega)];done)
     rotate_left
     · simp only [Act.put,zt,zu,zv,i64_w,i32_w]
       rfl
     refine one_ (i:=8) (N:=some 25) #[true,true,true,true,true,true,true,true,true,false] rfl rfl (one_of HT_.out (by kernel_rfl)) (by decide) (fun K hK=>?_)
     refine goes_ Tryz.func87 (by kernel_rfl) rfl #[.agg #[.int .i64 ((rd_T67 l0 x5_1).f0),.string ((rd_T67 l0 x5_1).f1),.string ((rd_T67 l0 x5_1).f2),.int .i64 ((rd_T67 l0 x5_1).f3.f0),.string ((rd_T67 l0 x5_1).f3.f1),.slice A57001_5 ((rd_T67 l0 x5_1).f3.f2).length c57001_5,.slice A57001_6 ((rd_T67 l0 x5_1).f4).length c57001_6,.int .i64 ((rd_T67 l0 x5_1).f5)],.agg #[.int .i64 ((rd_T67 l1 x5_1).f0),.string ((rd_T67 l1 x5_1).f1),.string ((rd_T67 l1 x5_1).f2),.int .i64 ((rd_T67 l1 x5_1).f3.f0),.string ((rd_T67 l1 x5_1).f3.f1),.slice A57002_5 ((rd_T67 l1 x5_1).f3.f2).length c57002_5,.slice A57002_6 ((rd_T67 l1 x5_1).f4).length c57002_6,.int .i64 ((rd_T67 l1 x5_1).f5)]] (by rfl) rfl rfl za5 ?_
     with_reducible refine (laws_eqConstraint.calls k1 ((rd_T67 l0 x5_1).f0) ((rd_T67 l0 x5_1).f1) ((rd_T67 l0 x5_1).f2) ((rd_T67 l0 x5_1).f3.f0) ((rd_T67 l0 x5_1).f3.f1) _ _ ((rd_T67 l0 x5_1).f3.f2) _ _ ((rd_T67 l0 x5_1).f4) ((rd_T67 l0 x5_1).f5) ((rd_T67 l1 x5_1).f0) ((rd_T67 l1 x5_1).f1) ((rd_T67 l1 x5_1).f2) ((rd_T67 l1 x5_1).f3.f0) ((rd_T67 l1 x5_1).f3.f1) _ _ ((rd_T67 l1 x5_1).f3.f2) _ _ ((rd_T67 l1 x5_1).f4) ((rd_T67 l1 x5_1).f5) _ _ ?side1 ?side2 ?side3 ?side4 ?side5 ?side6 ?side7 ?side8 A7.out).mono ?_
     (case side1=>repeat (first|exact (Kd.C_below HR57001_5.out HB.out)|(with_reducible refine Kd.C_alloc ?_ _)|(with_reducible refine Kd.C_drewN ?_ _)|(with_reducible refine Kd.C_drew ?_)))
     (case side2=>exact HC57001_5.out)
     (case side3=>repeat (first|exact (Kd.C_below HR57001_6.out HB.out)|(with_reducible refine Kd.C_alloc ?_ _)|(with_reducible refine Kd.C_drewN ?_ _)|(with_reducible refine Kd.C_drew ?_)))
     (case side4=>exact HC57001_6.out)
     (case side5=>repeat (first|exact (Kd.C_below HR57002_5.out HB.out)|(with_reducible refine Kd.C_alloc ?_ _)|(with_reducible refine Kd.C_drewN ?_ _)|(with_reducible refine Kd.C_drew ?_)))
     (case side6=>exact HC57002_5.out)
     (case side7=>repeat (first|exact (Kd.C_below HR57002_6.out HB.out)|(with_reducible refine Kd.C_alloc ?_ _)|(with_reducible refine Kd.C_drewN ?_ _)|(with_reducible refine Kd.C_drew ?_)))
     (case side8=>exact HC57002_6.out)
     rintro e w12 ⟨rfl,hb⟩
     refine ⟨_,rfl,?_⟩
     have n0_:=zk (below_step za4 hb)
     clear HB
     have HB:=n0_
     clear n0_
     (try clear hb)
     (try clear hb2)
     (try clear hk)
     (try clear hi)
     refine hK.out _ _ ⟨((HB.out.cell (World.block_lt_of_cell? w _ hw57001_0)).trans hw57001_0),((HB.out.cell (World.block_lt_of_cell? w _ hw57001_1)).trans hw57001_1),((HB.out.cell (World.block_lt_of_cell? w _ hw57001_2)).trans hw57001_2),((HB.out.cell (World.block_lt_of_cell? w _ hw57001_3)).trans hw57001_3),((HB.out.cell (World.block_lt_of_cell? w _ hw57001_4)).trans hw57001_4),((HB.out.cell (World.block_lt_of_cell? w _ hw57001_5)).trans hw57001_5),((HB.out.cell (World.block_lt_of_cell? w _ hw57001_6)).trans hw57001_6),((HB.out.cell (World.block_lt_of_cell? w _ hw57001_7)).trans hw57001_7),((HB.out.cell (World.block_lt_of_cell? w _ hw57002_0)).trans hw57002_0),((HB.out.cell (World.block_lt_of_cell? w _ hw57002_1)).trans hw57002_1),((HB.out.cell (World.block_lt_of_cell? w _ hw57002_2)).trans hw57002_2),((HB.out.cell (World.block_lt_of_cell? w _ hw57002_3)).trans hw57002_3),((HB.out.cell (World.block_lt_of_cell? w _ hw57002_4)).trans hw57002_4),((HB.out.cell (World.block_lt_of_cell? w _ hw57002_5)).trans hw57002_5),((HB.out.cell (World.block_lt_of_cell? w _ hw57002_6)).trans hw57002_6),((HB.out.cell (World.block_lt_of_cell? w _ hw57002_7)).trans hw57002_7)⟩ (fun hHeld=>?_)
     clear hK K
     refine norm_ (a':=?_) ?_ ?_
     rotate_left
     · show Act.put _ (some 25) _=_
       simp only [Act.put,zt,zu,zv,i64_w,i32_w]
       rfl
     refine pure_ (i:=9) (N:=some 26) (v:=?_) (a':=?_) #[true,true,true,true,true,true,true,true,true,true] rfl rfl (any_of HT_.out (by kernel_rfl)) (fun _ _ _ h=>h) (Or.inl ⟨by rfl,?_⟩) ?_ ?_
     rotate_left
     · intro w'
       go_simp
       first|with_reducible rfl|(rw [if_neg (by omega)];done)
     rotate_left
     · simp only [Act.put,zt,zu,zv,i64_w,i32_w]
       rfl
     refine done_ (done_of HT_.out (by kernel_rfl)) ?_
     try go_wp2
     first
     | (
        clear fin0_
        go_ret
        exact ⟨za7,za4⟩)
     | (
        clear fin1_
        go_roundg k1
        case measure=>have:=HK1.out;omega
        case rel=>exact ⟨(wrap64 (x5_1+1)),za8,H',⟨za17⟩,⟨za4⟩⟩)
 ·rw [if_neg c3] at H
  have c3b0:((l0.length:Int) == (l1.length:Int))=false:=beq_eq_false_iff_ne.mpr c3
  have c3b1:((l0.length:Int) != (l1.length:Int))=true:=bne_iff_ne.mpr c3
  have c3b2:(l0.length == l1.length)=false:=by first|simpa using c3|(simp at c3 ⊢;omega)
  obtain rfl:=zi H
  go_enter Tryz.func57,Tryz.ntmps57
  go_wp2
  go_ret
  exact ⟨za7,za4⟩
end Go.Proofs.YtffjfdoghofkdaaGreat.A
