/- FnMoves: what its proof needs, put together by this session's program wip/merge.py out of the texts that wip/xp.py printed and of this session's own. -/
import Derived.Test.YtgajchjnljekgaaQFnMoves0
import Derived.Test.YtgajchjnljekgaaProg
import Derived.Lib.Bytealg
import Derived.Lib.Walk
import Derived.Below
import Derived.Deep.Draws
import Derived.Deep.AppendLies
import Derived.Maps.AppendAt
import Derived.OwnWalk
import Derived.Laws.BytesArg
import Derived.Laws.MakeOwn
import Derived.Laws.OwnMore
import Derived.Deep.OwnRows
import Derived.Tactics
import Derived.Lib.ConvBytes
import Derived.Laws.Slices
import Derived.WalkKit
import Derived.KernelRfl
import Derived.RowKit3
import Derived.Deep.LoopGhost
import Derived.Deep.QuietTactic
import Derived.BigQuiet
import Derived.WideLaws
import Derived.Deep.DeepCutAuto
import Derived.Deep.CutBlock
import Derived.Deep.RegionHeld3
import Derived.Laws.Rows
import Derived.Lib.AppendStr
import Derived.ArgAppend
import Derived.Laws.IdiomCopy
import Derived.OrdersHeld
import Derived.Laws.BitsLemmas
import Derived.RowKit
set_option linter.unusedVariables false
set_option linter.unusedSimpArgs false
set_option linter.unusedSectionVars false
set_option maxHeartbeats 8000000
set_option maxRecDepth 100000
namespace Go.Proofs.Ytgajchjnljekgaa
open Go Go.RowKit Go.Proofs.YtgajchjnljekgaaW.PrintWords
theorem zk {P : Prop} (h : P) : Aside0 P := ⟨h⟩
theorem zE {P : Program} {ops : Array Oper} {rest : List Oper} {o : Oper} {a : Act} {Q : Exit → Act → World → Prop} {W : World} {N : Tmp} {cs : Array Value} {t : TypeId} (h : ∀ g, g = W.heap.size → ∀ w1, w1.heap[g]? = some (.cells cs t (0, 0)) → Below W.heap.size W w1 → wpList P ops Q rest (a.put o.dst (.pointer (some ⟨g, 0, none⟩))) w1) (hgd : o.guard = none := by rfl) (hd : o.dst = some N := by rfl) (hr : (execOp a.eval o).run P W = .ok (.value (.pointer (some ⟨W.heap.size, 0, none⟩))) (W.alloc (.cells cs t (0, 0))) := by first | (go_simp; done) | (go_simp; rfl)) : wpList P ops Q (o :: rest) a W := box_event hgd hd hr h
theorem zb {W0 W1 W2 : World} {g : Nat} {o : Obj} (h : W0.heap[g]? = some o) (hb : Below W1.heap.size W1 W2) (f : W0.heap[g]? = some o → W1.heap[g]? = some o := by intro h_; (with_reducible repeat (first | refine blk_drewN ?_ _ | refine blk_drew ?_ | refine blk_alloc ?_ _)); exact h_) : W2.heap[g]? = some o := blk_below (f h) hb
theorem zl {W0 W1 : World} {g : Nat} {o : Obj} (h : W0.heap[g]? = some o) (f : W0.heap[g]? = some o → W1.heap[g]? = some o := by intro h_; (with_reducible repeat (first | refine blk_drewN ?_ _ | refine blk_drew ?_ | refine blk_alloc ?_ _)); exact h_) : g < W1.heap.size := blk_lt (f h)
theorem zo {α β : Type} {o : Option α} {f : α → Option β} {b : β} (h : o.bind f = some b) : ∃ a, o = some a ∧ f a = some b := Option.bind_eq_some_iff.mp h
theorem zi {α : Type} {a b : α} (h : some a = some b) : a = b := Option.some.inj h
theorem zt {α : Type} (l : List α) (i : Nat) (a : α) : l.toArray.setIfInBounds i a = (l.set i a).toArray := List.setIfInBounds_toArray l i a
theorem zu {α : Type} {x : α} {l : List α} {a : α} : (x :: l).set 0 a = a :: l := List.set_cons_zero
theorem zv {α : Type} {x : α} {l : List α} {n : Nat} {a : α} : (x :: l).set (n + 1) a = x :: l.set n a := List.set_cons_succ
theorem zs {w W : World} {g : Nat} (hg : g = W.heap.size) (hb : Below w.heap.size w W) : w.heap.size ≤ g := by
 rw [hg]
 exact below_size hb
theorem zx {w W : World} {a : Addr} {v : Value} (hB : Below w.heap.size w W) (h : w.cell? a = some v) : W.cell? a = some v := (hB.cell (World.block_lt_of_cell? w _ h)).trans h
theorem za0 {P Q : Prop} (h : Q) (f : Q → P := by intro h_; (with_reducible repeat (first | apply Kd.R_alloc | apply Kd.R_drewN | apply Kd.R_drew)); exact h_) : P := f h
theorem za1 {P Q : Prop} (h : Q) (f : Q → P := by intro h_; (with_reducible repeat (first | refine blk_drewN ?_ _ | refine blk_drew ?_ | refine blk_alloc ?_ _)); exact h_) : P := f h
theorem za2 {P Q : Prop} (h : Q) (f : Q → P := by intro h_; (with_reducible repeat (first | apply Kd.N_alloc | apply Kd.N_drewN | apply Kd.N_drew)); exact h_) : P := f h
theorem za3 {P : Prop} (h : P := by repeat (first | (with_reducible first | exact HB.out | apply below_alloc | apply pw_below_drewN | apply below_drew1 | refine below_set ?_ (Aside0.out (by assumption))) | exact HB.out)) : P := h
theorem za4 {P : Prop} (h : P := by (try simp only [List.map_toArray, List.map_cons, List.map_nil]); first | done | rfl | (simp only [List.length_drop, List.length_take]; rfl)) : P := h
theorem za5 {P : Prop} (h : P := by repeat (first | (with_reducible first | exact HI0.out | apply IsS69.alloc | apply IsS69.drewN | apply IsS69.drew | apply IsS69.set_1 | apply IsS69.set_2) | exact HI0.out)) : P := h
theorem za6 {P : Prop} (h : P := by repeat (first | (with_reducible first | exact HK.out | apply KeepBut.set_ | apply keep_drewN | apply keep_drew | apply keep_alloc) | exact HK.out)) : P := h
theorem za7 {P : Prop} (h : P := by first | (with_reducible assumption) | assumption) : P := h
theorem za8 {P : Prop} (h : P := by first | rfl | (simp; done) | (simp [*]; done)) : P := h
theorem za9 {P : Prop} (h : P := by first | rfl | (simp [errW_none, errW_some] <;> rfl) | (simp [*, errW_none, errW_some] <;> rfl)) : P := h
theorem za10 {P : Prop} (h : P := by repeat (first | (with_reducible first | exact HK.out | apply KeepBut.set_ | apply keep_drewN | apply keep_drew | apply keep_alloc | refine keep_far ?_ GW62001.out _) | exact HK.out)) : P := h
theorem za11 {P : Prop} (h : P := by repeat (first | (with_reducible first | exact HI0.out | apply IsS69.alloc | apply IsS69.drewN | apply IsS69.drew | apply IsS69.set_1 | apply IsS69.set_2 | refine IsS69.far ?_ NB0_62001.out _) | exact HI0.out)) : P := h
theorem za12 {P : Prop} (h : P := by repeat (first | (with_reducible first | exact HB.out | apply below_alloc | apply pw_below_drewN | apply below_drew1 | refine below_set ?_ (IsS69.ge HI0.out)) | exact HB.out)) : P := h
theorem za13 {P : Prop} (h : P := by repeat (first | (with_reducible first | exact HK.out | apply KeepBut.set_ | apply keep_drewN | apply keep_drew | apply keep_alloc | refine keep_far ?_ GW52001.out _) | exact HK.out)) : P := h
theorem za14 {P : Prop} (h : P := by repeat (first | (with_reducible first | exact HI0.out | apply IsS69.alloc | apply IsS69.drewN | apply IsS69.drew | apply IsS69.set_1 | apply IsS69.set_2 | refine IsS69.far ?_ NB0_52001.out _ | refine IsS69.far ?_ NB0_52016.out _) | exact HI0.out)) : P := h
theorem za15 {P : Prop} (h : P := by repeat (first | (with_reducible first | exact HB.out | apply below_alloc | apply pw_below_drewN | apply below_drew1 | refine below_set ?_ (IsS69.ge HI0.out) | refine below_set ?_ GE62001.out) | exact HB.out)) : P := h
theorem za16 {P : Prop} (h : P := by repeat (first | (with_reducible first | exact HI22006.out | apply IsS69.alloc | apply IsS69.drewN | apply IsS69.drew | apply IsS69.set_1 | apply IsS69.set_2 | refine IsS69.far ?_ NB22006_22001.out _ | refine IsS69.far ?_ NB22006_22002.out _ | refine IsS69.far ?_ NB22006_22011.out _) | exact HI22006.out)) : P := h
theorem za17 {P : Prop} (h : P := by (with_reducible repeat (first | refine blk_drewN ?_ _ | refine blk_drew ?_ | refine blk_alloc ?_ _)); refine blk_far ?_ NB52001_52016.out _; (with_reducible repeat (first | refine blk_drewN ?_ _ | refine blk_drew ?_ | refine blk_alloc ?_ _)); refine blk_far ?_ NB52001_52016.out _; (with_reducible repeat (first | refine blk_drewN ?_ _ | refine blk_drew ?_ | refine blk_alloc ?_ _)); refine blk_far ?_ NB52001_52016.out _; (with_reducible repeat (first | refine blk_drewN ?_ _ | refine blk_drew ?_ | refine blk_alloc ?_ _)); refine blk_far ?_ NB52001_52016.out _; (with_reducible repeat (first | refine blk_drewN ?_ _ | refine blk_drew ?_ | refine blk_alloc ?_ _)); refine blk_far ?_ NB52001_52016.out _; (with_reducible repeat (first | refine blk_drewN ?_ _ | refine blk_drew ?_ | refine blk_alloc ?_ _)); refine blk_far ?_ NB52001_52016.out _; (with_reducible repeat (first | refine blk_drewN ?_ _ | refine blk_drew ?_ | refine blk_alloc ?_ _)); refine blk_far ?_ NB52001_52016.out _; (with_reducible repeat (first | refine blk_drewN ?_ _ | refine blk_drew ?_ | refine blk_alloc ?_ _)); refine blk_far ?_ NB52001_52016.out _; (with_reducible repeat (first | refine blk_drewN ?_ _ | refine blk_drew ?_ | refine blk_alloc ?_ _)); exact BK52001.out) : P := h
theorem za18 {P : Prop} (h : P := by repeat (first | (with_reducible first | exact HI0.out | apply IsS69.alloc | apply IsS69.drewN | apply IsS69.drew | apply IsS69.set_1 | apply IsS69.set_2 | refine IsS69.far ?_ NB0_52001.out _) | exact HI0.out)) : P := h
theorem za19 {P : Prop} (h : P := by repeat (first | (with_reducible first | exact HI0.out | apply IsS69.alloc | apply IsS69.drewN | apply IsS69.drew | apply IsS69.set_1 | apply IsS69.set_2 | refine IsS69.far ?_ NB0_53001.out _) | exact HI0.out)) : P := h
theorem za20 {P : Prop} (h : P := by repeat (first | exact Drawn0.refl _ | apply Drawn0.step)) : P := h
theorem za21 {P : Prop} (h : P := by repeat (first | (with_reducible first | exact HK.out | apply KeepBut.set_ | apply keep_drewN | apply keep_drew | apply keep_alloc | refine keep_far ?_ GW52001.out _ | refine keep_far ?_ GW52016.out _) | exact HK.out)) : P := h
theorem za22 {P : Prop} (h : P := by repeat (first | (with_reducible first | exact HK.out | apply KeepBut.set_ | apply keep_drewN | apply keep_drew | apply keep_alloc | refine keep_far ?_ GW53001.out _) | exact HK.out)) : P := h
theorem za23 {P : Prop} (h : P := by repeat (first | (with_reducible first | exact HK.out | apply KeepBut.set_ | apply keep_drewN | apply keep_drew | apply keep_alloc | refine keep_far ?_ GW36001.out _ | refine keep_far ?_ GW36007.out _) | exact HK.out)) : P := h
theorem za24 {P : Prop} (h : P := by repeat (first | (with_reducible first | exact HK.out | apply KeepBut.set_ | apply keep_drewN | apply keep_drew | apply keep_alloc | refine keep_far ?_ GW53001.out _ | refine keep_far ?_ GW53037.out _) | exact HK.out)) : P := h
theorem za25 {P : Prop} (h : P := by repeat (first | (with_reducible first | exact HB.out | apply below_alloc | apply pw_below_drewN | apply below_drew1 | refine below_set ?_ (IsS69.ge HI0.out) | refine below_set ?_ GE52001.out | refine below_set ?_ GE52016.out) | exact HB.out)) : P := h
theorem za26 {P : Prop} (h : P := by repeat (first | (with_reducible first | exact HB.out | apply below_alloc | apply pw_below_drewN | apply below_drew1 | refine below_set ?_ (IsS69.ge HI0.out) | refine below_set ?_ GE53001.out) | exact HB.out)) : P := h
theorem za27 {P : Prop} (h : P := by repeat (first | (with_reducible first | exact HB.out | apply below_alloc | apply pw_below_drewN | apply below_drew1 | refine below_set ?_ (IsS69.ge HI22006.out) | refine below_set ?_ GE22001.out | refine below_set ?_ GE22002.out | refine below_set ?_ GE22011.out) | exact HB.out)) : P := h
theorem za28 {P : Prop} (h : P := by (with_reducible repeat (first | refine blk_drewN ?_ _ | refine blk_drew ?_ | refine blk_alloc ?_ _)); refine blk_far ?_ NB6001_6015.out _; (with_reducible repeat (first | refine blk_drewN ?_ _ | refine blk_drew ?_ | refine blk_alloc ?_ _)); refine blk_far ?_ NB6001_6015.out _; (with_reducible repeat (first | refine blk_drewN ?_ _ | refine blk_drew ?_ | refine blk_alloc ?_ _)); exact BK6001.out) : P := h
theorem za29 {P : Prop} (h : P := by repeat (first | (with_reducible first | exact HB.out | apply below_alloc | apply pw_below_drewN | apply below_drew1 | refine below_set ?_ GE7001.out) | exact HB.out)) : P := h
theorem za30 {P : Prop} (h : P := by repeat (first | (with_reducible first | exact HK.out | apply KeepBut.set_ | apply keep_drewN | apply keep_drew | apply keep_alloc | refine keep_far ?_ GW51001.out _ | refine keep_far ?_ GW51002.out _) | exact HK.out)) : P := h
theorem za31 {P : Prop} (h : P := by repeat (first | (with_reducible first | exact HI0.out | apply IsS69.alloc | apply IsS69.drewN | apply IsS69.drew | apply IsS69.set_1 | apply IsS69.set_2 | refine IsS69.far ?_ NB0_36001.out _ | refine IsS69.far ?_ NB0_36007.out _) | exact HI0.out)) : P := h
theorem za32 {P : Prop} (h : P := by repeat (first | (with_reducible first | exact HK.out | apply KeepBut.set_ | apply keep_drewN | apply keep_drew | apply keep_alloc | refine keep_far ?_ GW36001.out _) | exact HK.out)) : P := h
theorem za33 {P : Prop} (h : P := by repeat (first | (with_reducible first | exact HI0.out | apply IsS69.alloc | apply IsS69.drewN | apply IsS69.drew | apply IsS69.set_1 | apply IsS69.set_2 | refine IsS69.far ?_ NB0_53001.out _ | refine IsS69.far ?_ NB0_53037.out _) | exact HI0.out)) : P := h
theorem za34 {P : Prop} (h : P := by repeat (first | (with_reducible first | exact HI0.out | apply IsS69.alloc | apply IsS69.drewN | apply IsS69.drew | apply IsS69.set_1 | apply IsS69.set_2 | refine IsS69.far ?_ NB0_36001.out _) | exact HI0.out)) : P := h
theorem za35 {P : Prop} (h : P := by repeat (first | (with_reducible first | exact HI0.out | apply IsS69.alloc | apply IsS69.drewN | apply IsS69.drew | apply IsS69.set_1 | apply IsS69.set_2 | refine IsS69.far ?_ NB0_51001.out _ | refine IsS69.far ?_ NB0_51002.out _) | exact HI0.out)) : P := h
theorem za36 {P : Prop} (h : P := by repeat (first | (with_reducible first | exact HB.out | apply below_alloc | apply pw_below_drewN | apply below_drew1 | refine below_set ?_ (IsS69.ge HI0.out) | refine below_set ?_ GE53001.out | refine below_set ?_ GE53037.out) | exact HB.out)) : P := h
theorem za37 {P : Prop} (h : P := by repeat (first | (with_reducible first | exact HB.out | apply below_alloc | apply pw_below_drewN | apply below_drew1 | refine below_set ?_ (IsS69.ge HI0.out) | refine below_set ?_ GE36001.out | refine below_set ?_ GE36007.out) | exact HB.out)) : P := h
theorem za38 {P : Prop} (h : P := by repeat (first | (with_reducible first | exact HI0.out | apply IsS69.alloc | apply IsS69.drewN | apply IsS69.drew | apply IsS69.set_1 | apply IsS69.set_2 | refine IsS69.far ?_ NB0_23001.out _ | refine IsS69.far ?_ NB0_23006.out _) | exact HI0.out)) : P := h
theorem za39 {P : Prop} (h : P := by repeat (first | (with_reducible first | exact HB.out | apply below_alloc | apply pw_below_drewN | apply below_drew1 | refine below_set ?_ (IsS69.ge HI0.out) | refine below_set ?_ GE23001.out | refine below_set ?_ GE23006.out) | exact HB.out)) : P := h
theorem za40 {P : Prop} (h : P := by repeat (first | (with_reducible first | exact HB.out | apply below_alloc | apply pw_below_drewN | apply below_drew1 | refine below_set ?_ (IsS69.ge HI0.out) | refine below_set ?_ GE52001.out) | exact HB.out)) : P := h
theorem za41 {P : Prop} (h : P := by first | exact Kd.R_nil _ _ _ _ _ | exact Kd.N_nil _ _ _ _ _ | exact Kd.V_nil _ _ _ _ _ | exact Kd.Q_nil _ _ _ _ _ | exact Kd.S_nil _ _ _ _ _) : P := h
theorem za42 {P : Prop} (h : P := by repeat (first | (with_reducible first | exact HK.out | apply KeepBut.set_ | apply keep_drewN | apply keep_drew | apply keep_alloc | refine keep_far ?_ GW23001.out _ | refine keep_far ?_ GW23006.out _) | exact HK.out)) : P := h
theorem za43 {P : Prop} (h : P := by (with_reducible repeat (first | apply Kd.R_alloc | apply Kd.R_drewN | apply Kd.R_drew)); exact (Kd.R_mono (zfR (zfR (Kd.R_mono HO_49.out (fun k_ hk => (⟨hk, hk.2⟩ : _ ∧ k_ ≠ gb6015))))) (fun _ h_ => h_.1))) : P := h
theorem za44 {P : Prop} (h : P := by repeat (first | (with_reducible first | exact HB.out | apply below_alloc | apply pw_below_drewN | apply below_drew1 | refine below_set ?_ (IsS69.ge HI0.out) | refine below_set ?_ GE51001.out | refine below_set ?_ GE51002.out) | exact HB.out)) : P := h
theorem za45 {P : Prop} (h : P := by repeat (first | (with_reducible first | exact HI0.out | apply IsS69.alloc | apply IsS69.drewN | apply IsS69.drew | apply IsS69.set_1 | apply IsS69.set_2 | refine IsS69.far ?_ NB0_44001.out _) | exact HI0.out)) : P := h
theorem za46 {P : Prop} (h : P := by repeat (first | (with_reducible first | exact HB.out | apply below_alloc | apply pw_below_drewN | apply below_drew1 | refine below_set ?_ (IsS69.ge HI0.out) | refine below_set ?_ GE44001.out) | exact HB.out)) : P := h
theorem za47 {P : Prop} (h : P := by (with_reducible repeat (first | apply Kd.R_alloc | apply Kd.R_drewN | apply Kd.R_drew)); exact Kd.R_mono (zfR (zfR (Kd.R_types HO_5.out BK6015.out (by decide)))) (fun _ hk => trivial)) : P := h
theorem za48 {P : Prop} (h : P := by repeat (first | (with_reducible first | exact HK.out | apply KeepBut.set_ | apply keep_drewN | apply keep_drew | apply keep_alloc | refine keep_far ?_ GW62001.out _ | refine keep_far ?_ GW62080.out _) | exact HK.out)) : P := h
theorem za49 {P : Prop} (h : P := by repeat (first | (with_reducible first | exact HK.out | apply KeepBut.set_ | apply keep_drewN | apply keep_drew | apply keep_alloc | refine keep_far ?_ GW62001.out _ | refine keep_far ?_ GW62062.out _) | exact HK.out)) : P := h
theorem za50 {P : Prop} (h : P := by repeat (first | (with_reducible first | exact HK.out | apply KeepBut.set_ | apply keep_drewN | apply keep_drew | apply keep_alloc | refine keep_far ?_ GW62001.out _ | refine keep_far ?_ GW62044.out _) | exact HK.out)) : P := h
theorem za51 {P : Prop} (h : P := by repeat (first | (with_reducible first | exact HI0.out | apply IsS69.alloc | apply IsS69.drewN | apply IsS69.drew | apply IsS69.set_1 | apply IsS69.set_2 | refine IsS69.far ?_ NB0_23001.out _) | exact HI0.out)) : P := h
theorem za52 {P : Prop} (h : P := by (with_reducible repeat (first | apply Kd.R_alloc | apply Kd.R_drewN | apply Kd.R_drew)); exact (Kd.R_mono (zfR (zfR (Kd.R_types HO_5.out BK6015.out (by decide)))) (fun _ h_ => h_.1))) : P := h
theorem za53 {P : Prop} (h : P := by repeat (first | (with_reducible first | exact HK.out | apply KeepBut.set_ | apply keep_drewN | apply keep_drew | apply keep_alloc | refine keep_far ?_ GW44001.out _) | exact HK.out)) : P := h
theorem za54 {P : Prop} (h : P := by repeat (first | (with_reducible first | exact HK.out | apply KeepBut.set_ | apply keep_drewN | apply keep_drew | apply keep_alloc | refine keep_far ?_ GW23001.out _) | exact HK.out)) : P := h
theorem za55 {P : Prop} (h : P := by (with_reducible repeat (first | refine blk_drewN ?_ _ | refine blk_drew ?_ | refine blk_alloc ?_ _)); refine blk_far ?_ NB20002_20011.out _; (with_reducible repeat (first | refine blk_drewN ?_ _ | refine blk_drew ?_ | refine blk_alloc ?_ _)); refine blk_far ?_ NB20002_20011.out _; (with_reducible repeat (first | refine blk_drewN ?_ _ | refine blk_drew ?_ | refine blk_alloc ?_ _)); refine blk_far ?_ NB20002_20011.out _; (with_reducible repeat (first | refine blk_drewN ?_ _ | refine blk_drew ?_ | refine blk_alloc ?_ _)); refine blk_far ?_ NB20002_20011.out _; (with_reducible repeat (first | refine blk_drewN ?_ _ | refine blk_drew ?_ | refine blk_alloc ?_ _)); refine blk_far ?_ NB20002_20011.out _; (with_reducible repeat (first | refine blk_drewN ?_ _ | refine blk_drew ?_ | refine blk_alloc ?_ _)); refine blk_far ?_ NB20002_20011.out _; (with_reducible repeat (first | refine blk_drewN ?_ _ | refine blk_drew ?_ | refine blk_alloc ?_ _)); refine blk_far ?_ NB20002_20011.out _; (with_reducible repeat (first | refine blk_drewN ?_ _ | refine blk_drew ?_ | refine blk_alloc ?_ _)); refine blk_far ?_ NB20002_20011.out _; (with_reducible repeat (first | refine blk_drewN ?_ _ | refine blk_drew ?_ | refine blk_alloc ?_ _)); exact BK20002.out) : P := h
theorem za56 {P : Prop} (h : P := by (with_reducible repeat (first | refine blk_drewN ?_ _ | refine blk_drew ?_ | refine blk_alloc ?_ _)); refine blk_far ?_ NB20001_20011.out _; (with_reducible repeat (first | refine blk_drewN ?_ _ | refine blk_drew ?_ | refine blk_alloc ?_ _)); refine blk_far ?_ NB20001_20011.out _; (with_reducible repeat (first | refine blk_drewN ?_ _ | refine blk_drew ?_ | refine blk_alloc ?_ _)); refine blk_far ?_ NB20001_20011.out _; (with_reducible repeat (first | refine blk_drewN ?_ _ | refine blk_drew ?_ | refine blk_alloc ?_ _)); refine blk_far ?_ NB20001_20011.out _; (with_reducible repeat (first | refine blk_drewN ?_ _ | refine blk_drew ?_ | refine blk_alloc ?_ _)); refine blk_far ?_ NB20001_20011.out _; (with_reducible repeat (first | refine blk_drewN ?_ _ | refine blk_drew ?_ | refine blk_alloc ?_ _)); refine blk_far ?_ NB20001_20011.out _; (with_reducible repeat (first | refine blk_drewN ?_ _ | refine blk_drew ?_ | refine blk_alloc ?_ _)); refine blk_far ?_ NB20001_20011.out _; (with_reducible repeat (first | refine blk_drewN ?_ _ | refine blk_drew ?_ | refine blk_alloc ?_ _)); refine blk_far ?_ NB20001_20011.out _; (with_reducible repeat (first | refine blk_drewN ?_ _ | refine blk_drew ?_ | refine blk_alloc ?_ _)); exact BK20001.out) : P := h
theorem za57 {P : Prop} (h : P := by repeat (first | (with_reducible first | exact HI0.out | apply IsS69.alloc | apply IsS69.drewN | apply IsS69.drew | apply IsS69.set_1 | apply IsS69.set_2 | refine IsS69.far ?_ NB0_62001.out _ | refine IsS69.far ?_ NB0_62080.out _) | exact HI0.out)) : P := h
theorem za58 {P : Prop} (h : P := by repeat (first | (with_reducible first | exact HI0.out | apply IsS69.alloc | apply IsS69.drewN | apply IsS69.drew | apply IsS69.set_1 | apply IsS69.set_2 | refine IsS69.far ?_ NB0_62001.out _ | refine IsS69.far ?_ NB0_62062.out _) | exact HI0.out)) : P := h
theorem za59 {P : Prop} (h : P := by repeat (first | (with_reducible first | exact HI0.out | apply IsS69.alloc | apply IsS69.drewN | apply IsS69.drew | apply IsS69.set_1 | apply IsS69.set_2 | refine IsS69.far ?_ NB0_62001.out _ | refine IsS69.far ?_ NB0_62044.out _) | exact HI0.out)) : P := h
theorem za60 {P : Prop} (h : P := by have := HK1.out; omega) : P := h
theorem za61 {P : Prop} (h : P := by (with_reducible repeat (first | refine blk_drewN ?_ _ | refine blk_drew ?_ | refine blk_alloc ?_ _)); refine blk_far ?_ NB80001_80005.out _; (with_reducible repeat (first | refine blk_drewN ?_ _ | refine blk_drew ?_ | refine blk_alloc ?_ _)); refine blk_far ?_ NB80001_80005.out _; (with_reducible repeat (first | refine blk_drewN ?_ _ | refine blk_drew ?_ | refine blk_alloc ?_ _)); refine blk_far ?_ NB80001_80005.out _; (with_reducible repeat (first | refine blk_drewN ?_ _ | refine blk_drew ?_ | refine blk_alloc ?_ _)); exact BK80001.out) : P := h
theorem za62 {P : Prop} (h : P := by repeat (first | (with_reducible first | exact HB.out | apply below_alloc | apply pw_below_drewN | apply below_drew1 | refine below_set ?_ (IsS69.ge HI0.out) | refine below_set ?_ GE36001.out) | exact HB.out)) : P := h
theorem za63 {P : Prop} (h : P := by first | omega | exact Nat.le_refl _) : P := h
theorem za64 {P : Prop} (h : P := by first | exact Kd.own_blk (Kd.R_ne HO_6.out BK22001.out (by decide)) | (rw [add_block]; exact Kd.own_blk (Kd.R_ne HO_6.out BK22001.out (by decide))) | (show (Addr.add _ _).block ≠ _; rw [add_block]; exact Kd.own_blk (Kd.R_ne HO_6.out BK22001.out (by decide))) | (dsimp only; exact Kd.own_blk (Kd.R_ne HO_6.out BK22001.out (by decide)))) : P := h
theorem za65 {P : Prop} (h : P := by (with_reducible repeat (first | apply Kd.N_alloc | apply Kd.N_drewN | apply Kd.N_drew)); exact (Kd.N_mono (zfN (zfN (zfN (zfN (zfN (zfN (zfN (zfN (Kd.N_mono HO52009.out (fun k_ hk => (⟨hk, hk.2⟩ : _ ∧ k_ ≠ gb52016))))))))))) (fun _ h_ => h_.1))) : P := h
theorem za66 {P : Prop} (h : P := by first | exact Kd.own_blk (Kd.R_ne HO_4.out BK3025.out (by decide)) | (rw [add_block]; exact Kd.own_blk (Kd.R_ne HO_4.out BK3025.out (by decide))) | (show (Addr.add _ _).block ≠ _; rw [add_block]; exact Kd.own_blk (Kd.R_ne HO_4.out BK3025.out (by decide))) | (dsimp only; exact Kd.own_blk (Kd.R_ne HO_4.out BK3025.out (by decide)))) : P := h
theorem za67 {P : Prop} (h : P := by first | exact Kd.own_blk (Kd.R_away HO_6.out (fun _ hk => hk)) | (rw [add_block]; exact Kd.own_blk (Kd.R_away HO_6.out (fun _ hk => hk))) | (show (Addr.add _ _).block ≠ _; rw [add_block]; exact Kd.own_blk (Kd.R_away HO_6.out (fun _ hk => hk))) | (dsimp only; exact Kd.own_blk (Kd.R_away HO_6.out (fun _ hk => hk)))) : P := h
theorem za68 {P : Prop} (h : P := by (with_reducible repeat (first | apply Kd.R_alloc | apply Kd.R_drewN | apply Kd.R_drew)); exact (Kd.R_mono (zfR (zfR (zfR (zfR (zfR (zfR (zfR (zfR (Kd.R_types HO52012.out BK52016.out (by decide)))))))))) (fun _ h_ => h_.1))) : P := h
theorem za69 {P : Prop} (h : P := by (with_reducible repeat (first | refine blk_drewN ?_ _ | refine blk_drew ?_ | refine blk_alloc ?_ _)); refine blk_far ?_ NB21002_21020.out _; (with_reducible repeat (first | refine blk_drewN ?_ _ | refine blk_drew ?_ | refine blk_alloc ?_ _)); refine blk_far ?_ NB21002_21020.out _; (with_reducible repeat (first | refine blk_drewN ?_ _ | refine blk_drew ?_ | refine blk_alloc ?_ _)); exact BK21002.out) : P := h
theorem za70 {P : Prop} (h : P := by (with_reducible repeat (first | refine blk_drewN ?_ _ | refine blk_drew ?_ | refine blk_alloc ?_ _)); refine blk_far ?_ NB21001_21020.out _; (with_reducible repeat (first | refine blk_drewN ?_ _ | refine blk_drew ?_ | refine blk_alloc ?_ _)); refine blk_far ?_ NB21001_21020.out _; (with_reducible repeat (first | refine blk_drewN ?_ _ | refine blk_drew ?_ | refine blk_alloc ?_ _)); exact BK21001.out) : P := h
theorem za71 {P : Prop} (h : P := by repeat (first | (with_reducible first | exact HI22006.out | apply IsS69.alloc | apply IsS69.drewN | apply IsS69.drew | apply IsS69.set_1 | apply IsS69.set_2 | refine IsS69.far ?_ NB22006_22001.out _ | refine IsS69.far ?_ NB22006_22002.out _) | exact HI22006.out)) : P := h
theorem za72 {P : Prop} (h : P := by (with_reducible repeat (first | refine blk_drewN ?_ _ | refine blk_drew ?_ | refine blk_alloc ?_ _)); refine blk_far ?_ NB36001_36007.out _; (with_reducible repeat (first | refine blk_drewN ?_ _ | refine blk_drew ?_ | refine blk_alloc ?_ _)); exact BK36001.out) : P := h
theorem za73 {P : Prop} (h : P := by repeat (first | (with_reducible first | exact HB.out | apply below_alloc | apply pw_below_drewN | apply below_drew1 | refine below_set ?_ (IsS69.ge HI22006.out) | refine below_set ?_ GE22001.out | refine below_set ?_ GE22002.out) | exact HB.out)) : P := h
theorem za74 {P : Prop} (h : P := by repeat (first | (with_reducible first | exact HB.out | apply below_alloc | apply pw_below_drewN | apply below_drew1 | refine below_set ?_ (IsS69.ge HI0.out) | refine below_set ?_ GE62001.out | refine below_set ?_ GE62080.out) | exact HB.out)) : P := h
theorem za75 {P : Prop} (h : P := by repeat (first | (with_reducible first | exact HB.out | apply below_alloc | apply pw_below_drewN | apply below_drew1 | refine below_set ?_ (IsS69.ge HI0.out) | refine below_set ?_ GE62001.out | refine below_set ?_ GE62062.out) | exact HB.out)) : P := h
theorem za76 {P : Prop} (h : P := by repeat (first | (with_reducible first | exact HB.out | apply below_alloc | apply pw_below_drewN | apply below_drew1 | refine below_set ?_ (IsS69.ge HI0.out) | refine below_set ?_ GE62001.out | refine below_set ?_ GE62044.out) | exact HB.out)) : P := h
theorem za77 {P : Prop} (h : P := by repeat (first | (with_reducible first | exact HBW.out | apply below_alloc | apply pw_below_drewN | apply below_drew1) | exact HBW.out)) : P := h
theorem za78 {P : Prop} (h : P := by repeat (first | (with_reducible first | exact HB.out | apply below_alloc | apply pw_below_drewN | apply below_drew1 | refine below_set ?_ (IsS69.ge HI19005.out) | refine below_set ?_ GE19001.out) | exact HB.out)) : P := h
theorem za79 {P : Prop} (h : P := by have h_ := Kd.N_away HX18.out (fun _ hk => hk.2.2.1); intro e_; exact h_ (by rw [e_]; rfl)) : P := h
theorem za80 {P : Prop} (h : P := by repeat (first | (with_reducible first | exact HB.out | apply below_alloc | apply pw_below_drewN | apply below_drew1 | refine below_set ?_ (IsS69.ge HI0.out) | refine below_set ?_ GE23001.out) | exact HB.out)) : P := h
theorem za81 {P : Prop} (h : P := by have h_ := Kd.N_away HX18.out (fun _ hk => hk.2.1); intro e_; exact h_ (by rw [e_]; rfl)) : P := h
theorem za82 {P : Prop} (h : P := by (with_reducible repeat (first | apply Kd.N_alloc | apply Kd.N_drewN | apply Kd.N_drew)); exact (Kd.N_mono (zfN (Kd.N_mono HO36004.out (fun k_ hk => (⟨hk, hk.2⟩ : _ ∧ k_ ≠ gb36007)))) (fun _ h_ => h_.1))) : P := h
theorem za83 {P : Prop} (h : P := by repeat (first | (with_reducible first | exact HI0.out | apply IsS69.alloc | apply IsS69.drewN | apply IsS69.drew | apply IsS69.set_1 | apply IsS69.set_2 | refine IsS69.far ?_ NB0_51001.out _) | exact HI0.out)) : P := h
theorem za84 {P : Prop} (h : P := by (with_reducible repeat (first | refine blk_drewN ?_ _ | refine blk_drew ?_ | refine blk_alloc ?_ _)); refine blk_far ?_ NB23001_23006.out _; (with_reducible repeat (first | refine blk_drewN ?_ _ | refine blk_drew ?_ | refine blk_alloc ?_ _)); refine blk_far ?_ NB23001_23006.out _; (with_reducible repeat (first | refine blk_drewN ?_ _ | refine blk_drew ?_ | refine blk_alloc ?_ _)); exact BK23001.out) : P := h
theorem za85 {P : Prop} (h : P := by (with_reducible repeat (first | refine blk_drewN ?_ _ | refine blk_drew ?_ | refine blk_alloc ?_ _)); refine blk_far ?_ NB22002_22011.out _; (with_reducible repeat (first | refine blk_drewN ?_ _ | refine blk_drew ?_ | refine blk_alloc ?_ _)); refine blk_far ?_ NB22002_22011.out _; (with_reducible repeat (first | refine blk_drewN ?_ _ | refine blk_drew ?_ | refine blk_alloc ?_ _)); exact BK22002.out) : P := h
theorem za86 {P : Prop} (h : P := by (with_reducible repeat (first | refine blk_drewN ?_ _ | refine blk_drew ?_ | refine blk_alloc ?_ _)); refine blk_far ?_ NB20002_20020.out _; (with_reducible repeat (first | refine blk_drewN ?_ _ | refine blk_drew ?_ | refine blk_alloc ?_ _)); refine blk_far ?_ NB20002_20020.out _; (with_reducible repeat (first | refine blk_drewN ?_ _ | refine blk_drew ?_ | refine blk_alloc ?_ _)); exact BK20002.out) : P := h
theorem za87 {P : Prop} (h : P := by (with_reducible repeat (first | refine blk_drewN ?_ _ | refine blk_drew ?_ | refine blk_alloc ?_ _)); refine blk_far ?_ NB20001_20020.out _; (with_reducible repeat (first | refine blk_drewN ?_ _ | refine blk_drew ?_ | refine blk_alloc ?_ _)); refine blk_far ?_ NB20001_20020.out _; (with_reducible repeat (first | refine blk_drewN ?_ _ | refine blk_drew ?_ | refine blk_alloc ?_ _)); exact BK20001.out) : P := h
theorem za88 {P : Prop} (h : P := by simp only [putAll, Act.put, List.setIfInBounds_toArray, List.set_cons_zero, List.set_cons_succ]) : P := h
theorem za89 {P : Prop} (h : P := by (with_reducible repeat (first | apply Kd.R_alloc | apply Kd.R_drewN | apply Kd.R_drew)); exact (Kd.R_mono (zfR (zfR (Kd.R_types HO_5.out BK21020.out (by decide)))) (fun _ h_ => h_.1))) : P := h
theorem za90 {P : Prop} (h : P := by (with_reducible repeat (first | apply Kd.R_alloc | apply Kd.R_drewN | apply Kd.R_drew)); exact (Kd.R_mono (zfR (zfR (Kd.R_types HO_4.out BK21020.out (by decide)))) (fun _ h_ => h_.1))) : P := h
theorem za91 {P : Prop} (h : P := by repeat (first | (with_reducible first | exact HK.out | apply KeepBut.set_ | apply keep_drewN | apply keep_drew | apply keep_alloc | refine keep_far ?_ GW51001.out _) | exact HK.out)) : P := h
theorem za92 {P : Prop} (h : P := by rw [bytesOf_length]; omega) : P := h
theorem za93 {P : Prop} (h : P := by (with_reducible repeat (first | apply Kd.R_alloc | apply Kd.R_drewN | apply Kd.R_drew)); exact Kd.R_mono HO53042.out (fun _ hk => ⟨hk.1.1, hk.2⟩)) : P := h
theorem za94 {P : Prop} (h : P := by first | (rw [add_block]; exact Kd.own_blk (IsS69.own_ne HI22006.out HO_6.out (by decide))) | (show (Addr.add _ _).block ≠ _; rw [add_block]; exact Kd.own_blk (IsS69.own_ne HI22006.out HO_6.out (by decide))) | exact Kd.own_blk (IsS69.own_ne HI22006.out HO_6.out (by decide))) : P := h
theorem za95 {P : Prop} (h : P := by (with_reducible repeat (first | apply Kd.R_alloc | apply Kd.R_drewN | apply Kd.R_drew)); exact Kd.R_mono HO_49.out (fun _ hk => trivial)) : P := h
theorem za96 {P : Prop} (h : P := by (try dsimp only); omega) : P := h
theorem za97 {P : Prop} (h : P := by repeat (first | (with_reducible first | exact HB.out | apply below_alloc | apply pw_below_drewN | apply below_drew1) | exact HB.out)) : P := h
theorem za98 {P : Prop} (h : P := by (with_reducible repeat (first | refine blk_drewN ?_ _ | refine blk_drew ?_ | refine blk_alloc ?_ _)); refine blk_far ?_ NB51001_51002.out _; (with_reducible repeat (first | refine blk_drewN ?_ _ | refine blk_drew ?_ | refine blk_alloc ?_ _)); exact BK51001.out) : P := h
theorem za99 {P : Prop} (h : P := by have := HJ2.out; first | omega | exact Nat.le_refl _) : P := h
theorem za100 {P : Prop} (h : P := by have := HJ1.out; first | omega | exact Nat.le_refl _) : P := h
theorem za101 {P : Prop} (h : P := by repeat (first | (with_reducible first | exact HI19005.out | apply IsS69.alloc | apply IsS69.drewN | apply IsS69.drew | apply IsS69.set_1 | apply IsS69.set_2 | refine IsS69.far ?_ NB19005_19001.out _) | exact HI19005.out)) : P := h
theorem za102 {P : Prop} (h : P := by (with_reducible repeat (first | apply Kd.R_alloc | apply Kd.R_drewN | apply Kd.R_drew)); exact Kd.R_mono (zfR (zfR (zfR (zfR (zfR (zfR (zfR (zfR (Kd.R_types HO_4.out BK20011.out (by decide)))))))))) (fun _ hk => hk.1)) : P := h
theorem za103 {P : Prop} (h : P := by (with_reducible repeat (first | apply Kd.N_alloc | apply Kd.N_drewN | apply Kd.N_drew)); exact (Kd.N_mono (zfN (zfN (Kd.N_mono HO3036.out (fun k_ hk => (⟨hk, hk.2⟩ : _ ∧ k_ ≠ gb3041))))) (fun _ h_ => h_.1))) : P := h
theorem za104 {P : Prop} (h : P := by repeat (first | (with_reducible first | exact HB.out | apply below_alloc | apply pw_below_drewN | apply below_drew1 | refine below_set ?_ (IsS69.ge HI5005.out) | refine below_set ?_ GE5001.out) | exact HB.out)) : P := h
theorem za105 {P : Prop} (h : P := by (with_reducible repeat (first | apply Kd.N_alloc | apply Kd.N_drewN | apply Kd.N_drew)); exact (Kd.N_mono (zfN (Kd.N_mono HO3036.out (fun k_ hk => (⟨hk, hk.2⟩ : _ ∧ k_ ≠ gb3037)))) (fun _ h_ => h_.1))) : P := h
theorem za106 {P : Prop} (h : P := by (with_reducible repeat (first | apply Kd.R_alloc | apply Kd.R_drewN | apply Kd.R_drew)); exact (Kd.R_mono (zfR (zfR (Kd.R_types HO_5.out BK20020.out (by decide)))) (fun _ h_ => h_.1))) : P := h
theorem za107 {P : Prop} (h : P := by (with_reducible repeat (first | apply Kd.R_alloc | apply Kd.R_drewN | apply Kd.R_drew)); exact (Kd.R_mono (zfR (zfR (Kd.R_types HO_4.out BK20020.out (by decide)))) (fun _ h_ => h_.1))) : P := h
theorem za108 {P : Prop} (h : P := by have := HJ2.out; have := HJ30.out; have := HJ71.out; omega) : P := h
theorem za109 {P : Prop} (h : P := by have := HJ2.out; have := HJ14.out; have := HK3.out; omega) : P := h
theorem za110 {P : Prop} (h : P := by have := HJ2.out; have := HJ8.out; have := HK3.out; omega) : P := h
theorem za111 {P : Prop} (h : P := by rw [ByteArray.size_append]; omega) : P := h
theorem za112 {P : Prop} (h : P := by rw [← add_field _ _ 1 (by omega)]; exact hc 1 _ rfl) : P := h
end Go.Proofs.Ytgajchjnljekgaa
namespace Go.Proofs.Ytgajchjnljekgaa.Ext
open Go.RowKit YtgajchjnljekgaaW.PrintWords
theorem blk1 {w:World} {g:Nat} {t:TypeId} {a0:Value} (h:w.heap[g]? = some (.cells #[a0] t (0,0))):w.cell? ⟨g,0,none⟩=some a0∧w.frozen? ⟨g,0,none⟩=false:=⟨(blk_cell h 0).trans rfl,blk_frozen h 0⟩
theorem blk2 {w:World} {g:Nat} {t:TypeId} {a0 a1:Value} (h:w.heap[g]? = some (.cells #[a0,a1] t (0,0))):w.cell? ⟨g,0,none⟩=some a0∧w.cell? ⟨g,1,none⟩=some a1∧w.frozen? ⟨g,0,none⟩=false∧w.frozen? ⟨g,1,none⟩=false:=⟨(blk_cell h 0).trans rfl,(blk_cell h 1).trans rfl,blk_frozen h 0,blk_frozen h 1⟩
theorem blk3 {w:World} {g:Nat} {t:TypeId} {a0 a1 a2:Value} (h:w.heap[g]? = some (.cells #[a0,a1,a2] t (0,0))):w.cell? ⟨g,0,none⟩=some a0∧w.cell? ⟨g,1,none⟩=some a1∧w.cell? ⟨g,2,none⟩=some a2∧w.frozen? ⟨g,0,none⟩=false∧w.frozen? ⟨g,1,none⟩=false∧w.frozen? ⟨g,2,none⟩=false:=⟨(blk_cell h 0).trans rfl,(blk_cell h 1).trans rfl,(blk_cell h 2).trans rfl,blk_frozen h 0,blk_frozen h 1,blk_frozen h 2⟩
theorem blk8 {w:World} {g:Nat} {t:TypeId} {a0 a1 a2 a3 a4 a5 a6 a7:Value} (h:w.heap[g]? = some (.cells #[a0,a1,a2,a3,a4,a5,a6,a7] t (0,0))):w.cell? ⟨g,0,none⟩=some a0∧w.cell? ⟨g,1,none⟩=some a1∧w.cell? ⟨g,2,none⟩=some a2∧w.cell? ⟨g,3,none⟩=some a3∧w.cell? ⟨g,4,none⟩=some a4∧w.cell? ⟨g,5,none⟩=some a5∧w.cell? ⟨g,6,none⟩=some a6∧w.cell? ⟨g,7,none⟩=some a7∧w.frozen? ⟨g,0,none⟩=false∧w.frozen? ⟨g,1,none⟩=false∧w.frozen? ⟨g,2,none⟩=false∧w.frozen? ⟨g,3,none⟩=false∧w.frozen? ⟨g,4,none⟩=false∧w.frozen? ⟨g,5,none⟩=false∧w.frozen? ⟨g,6,none⟩=false∧w.frozen? ⟨g,7,none⟩=false:=⟨(blk_cell h 0).trans rfl,(blk_cell h 1).trans rfl,(blk_cell h 2).trans rfl,(blk_cell h 3).trans rfl,(blk_cell h 4).trans rfl,(blk_cell h 5).trans rfl,(blk_cell h 6).trans rfl,(blk_cell h 7).trans rfl,blk_frozen h 0,blk_frozen h 1,blk_frozen h 2,blk_frozen h 3,blk_frozen h 4,blk_frozen h 5,blk_frozen h 6,blk_frozen h 7⟩
-- EXT strings.IndexByte
def strings_IndexByte.f (s:ByteArray) (c:Int):Option Int:=some (Lib.indexByte s.data.toList c.toNat.toUInt8)
theorem stringslite_run (s:ByteArray) (c:Int) (w:World) :
  Calls Try.prog 60 #[.string s,.int .u8 c] w fun e w'=>e = .returned (.int .i64 (Lib.indexByte s.data.toList c.toNat.toUInt8))∧w'=w:=by
 go_enter Try.func60,Try.ntmps60
 go_wp2
 rw [run_callFunc_extern Try.func79 (by kernel_rfl) (by kernel_rfl) (by kernel_rfl) (e:=Extern.BytealgIndexByte.indexByte) (by kernel_rfl),Lib.run_indexByteString]
 simp only [Result.andThen]
 rw [Oper.upon_value]
 go_wp2
 go_ret
 exact ⟨rfl,rfl⟩
theorem strings_IndexByte.calls (s:ByteArray) (c:Int) (r:Int) (w:World) (h:strings_IndexByte.f s c=some r) :
  Calls Try.prog 47 #[.string s,.int .u8 c] w fun e w'=>e = .returned (.int .i64 r)∧Drawn0 w w':=by
 obtain rfl:=zi h
 go_enter Try.func47,Try.ntmps47
 go_wp2_with (go_at_call 60;refine (stringslite_run _ _ _).mono ?_;rintro e w' ⟨rfl,rfl⟩)
 go_ret
 exact ⟨rfl,Drawn0.refl _⟩
end Go.Proofs.Ytgajchjnljekgaa.Ext
namespace Go.Proofs.Ytgajchjnljekgaa.Ext
open Go Go.RowKit YtgajchjnljekgaaW.PrintWords YtgajchjnljekgaaW.PrintLast YtgajchjnljekgaaW.PrintMore
theorem zsz0:(⟨#[]⟩:ByteArray).size=0:=rfl
theorem zsz1 {a:UInt8} : (⟨#[a]⟩:ByteArray).size=1:=rfl
theorem zsz2 {a b:UInt8} : (⟨#[a,b]⟩:ByteArray).size=2:=rfl
theorem zsz3 {a b c:UInt8} : (⟨#[a,b,c]⟩:ByteArray).size=3:=rfl
theorem zsz4 {a b c d:UInt8} : (⟨#[a,b,c,d]⟩:ByteArray).size=4:=rfl
theorem zsz5 {a b c d e:UInt8} : (⟨#[a,b,c,d,e]⟩:ByteArray).size=5:=rfl
theorem zrr {p:Prop} (h:p:=by first|with_reducible rfl|(rw [if_neg (by omega)];done)|(rw [if_neg (by (try simp only [decide_eq_true_eq,decide_eq_false_iff_not,eq_iff_iff,iff_true,iff_false] at *);(try simp only [ByteArray.size_extract,ByteArray.size_append,zsz0,zsz1,zsz2,zsz3,zsz4,zsz5] at *);omega)];done)):p:=h
theorem zpu {W0 W:World} {g:Nat} {o o':Obj} (h:W0.heap[g]? = some o) (f:W0.heap[g]? = some o→W.heap[g]? = some o':=by intro h_;repeat (first|with_reducible exact h_|with_reducible refine blk_drewN ?_ _|with_reducible refine blk_drew ?_|with_reducible refine blk_alloc ?_ _|with_reducible apply blk_put|with_reducible refine blk_far ?_ (Aside0.out (by assumption)) _|rfl)):W.heap[g]? = some o':=f h
theorem zdl {α:Type} [LT α] {a b:α} [Decidable (a < b)] (h:a < b):decide (a < b)=true:=decide_eq_true h
theorem zdle {α:Type} [LE α] {a b:α} [Decidable (a≤b)] (h:a≤b):decide (a≤b)=true:=decide_eq_true h
theorem zdnl {α:Type} [LT α] {a b:α} [Decidable (a < b)] (h:¬ a < b):decide (a < b)=false:=decide_eq_false h
theorem zdnle {α:Type} [LE α] {a b:α} [Decidable (a≤b)] (h:¬ a≤b):decide (a≤b)=false:=decide_eq_false h
theorem zbt {α:Type} [BEq α] [LawfulBEq α] {a b:α} (h:a=b):(a == b)=true:=beq_iff_eq.mpr h
theorem zbn {α:Type} [BEq α] [LawfulBEq α] {a b:α} (h:¬ a=b):(a == b)=false:=beq_eq_false_iff_ne.mpr h
theorem zqt {α:Type} [BEq α] [LawfulBEq α] {a b:α} (h:¬ a=b):(a != b)=true:=bne_iff_ne.mpr h
theorem zqn {α:Type} [BEq α] [LawfulBEq α] {a b:α} (h:a=b):(a != b)=false:=bne_eq_false_iff_eq.mpr h
section
variable {α : Type} {d : Kd α} {e base g i : Nat} {ok : Nat → Prop} {w : World} {v u : Value} {xs : List α}
theorem zfN (h:Kd.N d e w base (fun k=>ok k∧k ≠ g) v xs):Kd.N d e (w.setCell ⟨g,i,none⟩ u) base (fun k=>ok k∧k ≠ g) v xs:=Kd.N_far h (fun _ hk=>hk.2) u
theorem zfR (h:Kd.R d e w base (fun k=>ok k∧k ≠ g) v xs):Kd.R d e (w.setCell ⟨g,i,none⟩ u) base (fun k=>ok k∧k ≠ g) v xs:=Kd.R_far h (fun _ hk=>hk.2) u
end
section
variable {P : Program} {ops : Array Oper} {Q : Exit → Act → World → Prop} {md : Region.Mode} {S : World → Prop} {ds : List Nat}
theorem zy (i:Nat) (N:Option Tmp) {T:Bool × List (List Nat × List Nat)} (hT:rtab md ops=T) {oi:Oper} {v:Value} {fuel:Nat} {l l':Array Bool} {a a':Act} {w:World}
 (h:wpAnyLast P md ops Q S ds fuel l' a' w) (hi:ops[i]? = some oi:=by rfl) (hN:oi.dst=N:=by rfl)
 (hl:l.setIfInBounds i true=l':=by simp only [zt,zv,zu];rfl)
 (hc:anyT T l.toList l'.toList i=true:=by kernel_rfl) (hw:Region.wanted oi (yielded ops a.tmps)=true:=by rfl)
 (hy:∀ w,(execOp a.eval oi).run P w = .ok (.value v) w:=by intro w';go_simp;exact zrr)
 (ha:a.put N v=a':=by simp only [Act.put,zt,zv,zu,i64_w,i32_w];rfl)
 (hQ:∀ c a w,Q (.panic c) (a.put oi.dst v) w→Q (.panic c) a w:=by exact fun _ _ _ h=>h) :
 wpAnyLast P md ops Q S ds (fuel+1) l a w:=pure_ l' hi hN (any_of hT hc) hQ (.inl ⟨hw,hy⟩) ha h
theorem zyk (i:Nat) (N:Option Tmp) {oi:Oper} {v:Value} {fuel:Nat} {l l':Array Bool} {a a':Act} {w:World}
 (h:wpAnyLast P md ops Q S ds fuel l' a' w) (hi:ops[i]? = some oi:=by rfl) (hN:oi.dst=N:=by rfl) (hl:l.setIfInBounds i true=l':=by simp only [zt,zv,zu];rfl)
 (hc:anyB md ops l l' i=true:=by kernel_rfl) (hw:Region.wanted oi (yielded ops a.tmps)=true:=by rfl)
 (hy:∀ w,(execOp a.eval oi).run P w = .ok (.value v) w:=by intro w';go_simp;exact zrr) (ha:a.put N v=a':=by simp only [Act.put,zt,zv,zu,i64_w,i32_w];rfl)
 (hQ:∀ c a w,Q (.panic c) (a.put oi.dst v) w→Q (.panic c) a w:=by exact fun _ _ _ h=>h) :
 wpAnyLast P md ops Q S ds (fuel+1) l a w:=pure_ l' hi hN hc hQ (.inl ⟨hw,hy⟩) ha h
theorem zyu (i:Nat) (N:Option Tmp) {T:Bool × List (List Nat × List Nat)} (hT:rtab md ops=T) {oi:Oper} {fuel:Nat} {l l':Array Bool} {a a':Act} {w:World}
 (h:wpAnyLast P md ops Q S ds fuel l' a' w) (hi:ops[i]? = some oi:=by rfl) (hN:oi.dst=N:=by rfl) (hl:l.setIfInBounds i true=l':=by simp only [zt,zv,zu];rfl)
 (hc:anyT T l.toList l'.toList i=true:=by kernel_rfl) (hw:Region.wanted oi (yielded ops a.tmps)=false:=by rfl) (ha:a.put N undef=a':=by simp only [Act.put,zt,zv,zu,i64_w,i32_w];rfl)
 (hQ:∀ c a w,Q (.panic c) (a.put oi.dst undef) w→Q (.panic c) a w:=by exact fun _ _ _ h=>h) :
 wpAnyLast P md ops Q S ds (fuel+1) l a w:=pure_ l' hi hN (any_of hT hc) hQ (.inr ⟨hw,rfl⟩) ha h
theorem ztk (i:Nat) (N:Option Tmp) {T:Bool × List (List Nat × List Nat)} (hT:rtab md ops=T) {B:List Nat} (hB:waitsOk T.2 B=true) {oi:Oper} {v:Value} {fuel:Nat} {l l':Array Bool} {a a':Act} {w:World}
 (hS:S w) (h:wpAnyLast P md ops Q S ds fuel l' a' w) (hi:ops[i]? = some oi:=by rfl) (hN:oi.dst=N:=by rfl) (hl:l.setIfInBounds i true=l':=by simp only [zt,zv,zu];rfl)
 (hc:takeW T B ds l.toList l'.toList i=true:=by kernel_rfl) (hw:Region.wanted oi (yielded ops a.tmps)=true:=by rfl)
 (hy:∀ w,S w→(execOp a.eval oi).run P w = .ok (.value v) w:=by intro w' hs_;(repeat obtain ⟨_,hs_⟩:=hs_);go_simp;exact zrr) (ha:a.put N v=a':=by simp only [Act.put,zt,zv,zu,i64_w,i32_w];rfl)
 (hQ:∀ c a w,Q (.panic c) (a.put oi.dst v) w→Q (.panic c) a w:=by exact fun _ _ _ h=>h) :
 wpAnyLast P md ops Q S ds (fuel+1) l a w:=take_ l' hi hN (take_ofW hT hB hc) hQ (.inl ⟨hw,hy⟩) hS ha h
theorem ztkk (i:Nat) (N:Option Tmp) {oi:Oper} {v:Value} {fuel:Nat} {l l':Array Bool} {a a':Act} {w:World}
 (hS:S w) (h:wpAnyLast P md ops Q S ds fuel l' a' w) (hi:ops[i]? = some oi:=by rfl) (hN:oi.dst=N:=by rfl) (hl:l.setIfInBounds i true=l':=by simp only [zt,zv,zu];rfl)
 (hc:takeB md ops ds l l' i=true:=by kernel_rfl) (hw:Region.wanted oi (yielded ops a.tmps)=true:=by rfl)
 (hy:∀ w,S w→(execOp a.eval oi).run P w = .ok (.value v) w:=by intro w' hs_;(repeat obtain ⟨_,hs_⟩:=hs_);go_simp;exact zrr) (ha:a.put N v=a':=by simp only [Act.put,zt,zv,zu,i64_w,i32_w];rfl)
 (hQ:∀ c a w,Q (.panic c) (a.put oi.dst v) w→Q (.panic c) a w:=by exact fun _ _ _ h=>h) :
 wpAnyLast P md ops Q S ds (fuel+1) l a w:=take_ l' hi hN hc hQ (.inl ⟨hw,hy⟩) hS ha h
theorem zno (N:Option Tmp) {v:Value} {fuel:Nat} {l:Array Bool} {a0 a':Act} {w:World} (h:wpAnyLast P md ops Q S ds fuel l a' w) (ha:a0.put N v=a':=by simp only [Act.put,zt,zv,zu,i64_w,i32_w];rfl) :
 wpAnyLast P md ops Q S ds fuel l (a0.put N v) w:=norm_ ha h
theorem zon (i:Nat) (N:Option Tmp) {T:Bool × List (List Nat × List Nat)} (hT:rtab md ops=T) {oi:Oper} {fuel:Nat} {l l':Array Bool} {a:Act} {w:World}
 (h:∀ K:Act→World→Prop,Shut (∀ a' w',S w'→(S w'→wpAnyLast P md ops Q S ds fuel l' a' w')→K a' w')→if Region.wanted oi (yielded ops a.tmps)=true then Oper.wp P oi a w K Q else K (a.put N undef) w)
 (hi:ops[i]? = some oi:=by rfl) (hN:oi.dst=N:=by rfl) (hl:l.setIfInBounds i true=l':=by simp only [zt,zv,zu];rfl) (hc:(readyT T.2 l.toList == [i] && l.toList.set i true == l'.toList)=true:=by kernel_rfl) (hd:i ∉ ds:=by decide) :
 wpAnyLast P md ops Q S ds (fuel+1) l a w:=one_ l' hi hN (one_of hT hc) hd h
end
end Go.Proofs.Ytgajchjnljekgaa.Ext
namespace Go.Proofs.Ytgajchjnljekgaa.A
open Go.RowKit Ytgajchjnljekgaa.Ext YtgajchjnljekgaaW.PrintWords YtgajchjnljekgaaW.PrintLast YtgajchjnljekgaaW.PrintMore
attribute [local go_sem] max2_int min2_int max_two min_two max_three min_three max_four min_four
def errW:Option Int→Value
 | none => .nilIface
 | some c => .iface 0 (.int .i64 c)
theorem errW_none:errW none = .nilIface:=rfl
theorem errW_some (c:Int):errW (some c) = .iface 0 (.int .i64 c):=rfl
theorem info3:(Try.prog.info? 3).map (fun i=>(i.zero,i.size,i.bytes))=some (some (.int .i64 0),1,8):=by kernel_rfl
theorem info5:(Try.prog.info? 5).map (fun i=>(i.zero,i.size,i.bytes))=some (some (.int .u8 0),1,1):=by kernel_rfl
theorem info9:(Try.prog.info? 9).map (fun i=>(i.zero,i.size,i.bytes))=some (some (.string ⟨#[]⟩),1,16):=by kernel_rfl
theorem info33:(Try.prog.info? 33).map (fun i=>(i.zero,i.size,i.bytes))=some (some (.agg #[(.int .u8 0),(.string ⟨#[]⟩)]),2,24):=by kernel_rfl
theorem info61:(Try.prog.info? 61).map (fun i=>(i.zero,i.size,i.bytes))=some (some (.agg #[(.int .i64 0),(.string ⟨#[]⟩),(.string ⟨#[]⟩),(.int .i64 0),(.string ⟨#[]⟩),(.slice none 0 0),(.slice none 0 0),(.int .i64 0)]),8,120):=by kernel_rfl
-- the values' own types
/-! #### struct type 46 -/
structure S46 where
 f0:Int
 f1:Int
def z46:S46:=⟨(0:Int),(0:Int)⟩
def k46:Kd S46:=Kd.iso (Kd.pair (Kd.int .u8) (Kd.int .u8)) (fun x:S46=>(x.f0,x.f1))
theorem k46_open {w:World} {x:S46} {cs:List Value} (h:k46.K w x cs):cs = [.int .u8 x.f0,.int .u8 x.f1]:=by
 obtain ⟨_,_,rfl,rfl,rfl⟩:=h
 exact rfl
theorem k46_mkM (w:World) (base:Nat) (ok:Nat→Prop) (x:S46)  : k46.M w base ok x [.int .u8 x.f0,.int .u8 x.f1]:=⟨[.int .u8 x.f0],[.int .u8 x.f1],rfl,rfl,rfl⟩
def rd_T46 (xs:List S46) (i:Int):S46:=xs.getD i.toNat z46
theorem at_T46 {w:World} {A:Option Addr} {n:Nat} {xs:List S46} (h:Kd.C k46 w A n xs) (i:Int) (h0:0≤i) (h1:i < n):∃ ad ,A=some ad∧w.cell? (ad.add (i.toNat * 2))=some (.int .u8 (rd_T46 xs i).f0)∧w.cell? ⟨(ad.add (i.toNat * 2)).block,(ad.add (i.toNat * 2)).off+1,none⟩=some (.int .u8 (rd_T46 xs i).f1):=by
 obtain ⟨ad,c,e,_,hK,hc0⟩:=Kd.C_get h z46 i h0 h1
 have hc:∀ j u,c[j]? = some u→w.cell? (ad.add (i.toNat * 2+j))=some u:=hc0
 obtain rfl:=k46_open hK
 exact ⟨ad,e,hc 0 _ rfl,za112⟩
/-! #### struct type 33 -/
structure S33 where
 f0:Int
 f1:ByteArray
def z33:S33:=⟨(0:Int),(⟨#[]⟩:ByteArray)⟩
def k33:Kd S33:=Kd.iso (Kd.pair (Kd.int .u8) Kd.string) (fun x:S33=>(x.f0,x.f1))
theorem k33_open {w:World} {x:S33} {cs:List Value} (h:k33.K w x cs):cs = [.int .u8 x.f0,.string x.f1]:=by
 obtain ⟨_,_,rfl,rfl,rfl⟩:=h
 exact rfl
theorem k33_mkM (w:World) (base:Nat) (ok:Nat→Prop) (x:S33)  : k33.M w base ok x [.int .u8 x.f0,.string x.f1]:=⟨[.int .u8 x.f0],[.string x.f1],rfl,rfl,rfl⟩
def rd_T33 (xs:List S33) (i:Int):S33:=xs.getD i.toNat z33
theorem at_T33 {w:World} {A:Option Addr} {n:Nat} {xs:List S33} (h:Kd.C k33 w A n xs) (i:Int) (h0:0≤i) (h1:i < n):∃ ad ,A=some ad∧w.cell? (ad.add (i.toNat * 2))=some (.int .u8 (rd_T33 xs i).f0)∧w.cell? ⟨(ad.add (i.toNat * 2)).block,(ad.add (i.toNat * 2)).off+1,none⟩=some (.string (rd_T33 xs i).f1):=by
 obtain ⟨ad,c,e,_,hK,hc0⟩:=Kd.C_get h z33 i h0 h1
 have hc:∀ j u,c[j]? = some u→w.cell? (ad.add (i.toNat * 2+j))=some u:=hc0
 obtain rfl:=k33_open hK
 exact ⟨ad,e,hc 0 _ rfl,za112⟩
/-! #### struct type 58, nested in itself -/
structure S58 where
 f0:Int
 f1:ByteArray
 f2:(List S58)
def z58:S58:=⟨(0:Int),(⟨#[]⟩:ByteArray),([]:List S58)⟩
def F58 (d:Kd S58):Kd S58:=Kd.iso (Kd.pair (Kd.int .i64) (Kd.pair Kd.string (Kd.slice 58 d))) (fun x:S58=>(x.f0,x.f1,x.f2))
theorem mono58:Kd.Mono F58:=Kd.mono_iso _ (Kd.mono_pair (Kd.mono_const _) (Kd.mono_pair (Kd.mono_const _) (Kd.mono_slice 58 Kd.mono_id)))
theorem sub58:Kd.Sub F58 [58]:=Kd.sub_iso _ (Kd.sub_pair (Kd.sub_const _ (by decide)) (Kd.sub_pair (Kd.sub_const _ (by decide)) (Kd.sub_slice 58 (by decide) Kd.sub_id)))
theorem sz58:∀ n,(Kd.upto F58 3 [58] n).sz=3:=Kd.upto_sz (fun _=>rfl)
def k58:Kd S58:=Kd.fix F58 3 [58] sz58 (Kd.upto_E sub58)
theorem k58_open {w:World} {x:S58} {cs:List Value} (h:k58.K w x cs):∃ A2 c2,cs = [.int .i64 x.f0,.string x.f1,.slice A2 x.f2.length c2]∧x.f2.length≤c2∧k58.C w A2 x.f2.length x.f2:=by
 obtain ⟨n,h⟩:=h
 cases n with
 | zero=>exact h.elim
 | succ n =>
  obtain ⟨_,_,rfl,rfl,⟨_,_,rfl,rfl,⟨A2,c2,rfl,l2,g2⟩⟩⟩:=h
  exact ⟨A2,c2,rfl,l2,Kd.fix_C g2⟩
theorem k58_mk (w:World) (x:S58) {A2:Option Addr} {c2:Nat} (l2:x.f2.length≤c2) (g2:k58.C w A2 x.f2.length x.f2):k58.K w x [.int .i64 x.f0,.string x.f1,.slice A2 x.f2.length c2]:=by
 obtain ⟨n2,q2⟩:=Kd.fix_C_back mono58 g2
 have r2:=Kd.upto_C_le mono58 sz58 (show n2≤n2 by omega) q2
 exact ⟨n2+1,⟨[.int .i64 x.f0],[.string x.f1,.slice A2 x.f2.length c2],rfl,rfl,⟨[.string x.f1],[.slice A2 x.f2.length c2],rfl,rfl,⟨A2,c2,rfl,l2,r2⟩⟩⟩⟩
theorem k58_mkF (W:World) (ok:Nat→Prop) (x:S58) {A2:Option Addr} {c2:Nat} (l2:x.f2.length≤c2) (g2:Kd.F k58 W ok A2 x.f2.length x.f2):Kd.FK k58 W ok x [.int .i64 x.f0,.string x.f1,.slice A2 x.f2.length c2]:=fun W2 hW=>k58_mk W2 x l2 (g2 W2 hW)
def rd_T58 (xs:List S58) (i:Int):S58:=xs.getD i.toNat z58
theorem at_T58 {w:World} {A:Option Addr} {n:Nat} {xs:List S58} (h:Kd.C k58 w A n xs) (i:Int) (h0:0≤i) (h1:i < n):∃ ad A2 c2,A=some ad∧w.cell? (ad.add (i.toNat * 3))=some (.int .i64 (rd_T58 xs i).f0)∧w.cell? ⟨(ad.add (i.toNat * 3)).block,(ad.add (i.toNat * 3)).off+1,none⟩=some (.string (rd_T58 xs i).f1)∧w.cell? ⟨(ad.add (i.toNat * 3)).block,(ad.add (i.toNat * 3)).off+2,none⟩=some (.slice A2 (rd_T58 xs i).f2.length c2)∧(rd_T58 xs i).f2.length≤c2∧k58.C w A2 (rd_T58 xs i).f2.length (rd_T58 xs i).f2:=by
 obtain ⟨ad,c,e,_,hK,hc0⟩:=Kd.C_get h z58 i h0 h1
 have hc:∀ j u,c[j]? = some u→w.cell? (ad.add (i.toNat * 3+j))=some u:=hc0
 obtain ⟨A2,c2,rfl,l2,g2⟩:=k58_open hK
 exact ⟨ad,A2,c2,e,hc 0 _ rfl,za112,by rw [← add_field _ _ 2 (by omega)];exact hc 2 _ rfl,l2,g2⟩
/-! #### struct type 61 -/
structure S61 where
 f0:Int
 f1:ByteArray
 f2:ByteArray
 f3:S58
 f4:(List Int)
 f5:Int
def z61:S61:=⟨(0:Int),(⟨#[]⟩:ByteArray),(⟨#[]⟩:ByteArray),z58,([]:List Int),(0:Int)⟩
def k61:Kd S61:=Kd.iso (Kd.pair (Kd.int .i64) (Kd.pair Kd.string (Kd.pair Kd.string (Kd.pair k58 (Kd.pair (Kd.slice 3 (Kd.int .i64)) (Kd.int .i64)))))) (fun x:S61=>(x.f0,x.f1,x.f2,x.f3,x.f4,x.f5))
theorem k61_open {w:World} {x:S61} {cs:List Value} (h:k61.K w x cs):∃ A5 c5 A6 c6,cs = [.int .i64 x.f0,.string x.f1,.string x.f2,.int .i64 x.f3.f0,.string x.f3.f1,.slice A5 x.f3.f2.length c5,.slice A6 x.f4.length c6,.int .i64 x.f5]∧x.f3.f2.length≤c5∧k58.C w A5 x.f3.f2.length x.f3.f2∧x.f4.length≤c6∧(Kd.int .i64).C w A6 x.f4.length x.f4:=by
 obtain ⟨_,_,rfl,rfl,⟨_,_,rfl,rfl,⟨_,_,rfl,rfl,⟨_,_,rfl,s3,⟨_,_,rfl,⟨A6,c6,rfl,l6,g6⟩,rfl⟩⟩⟩⟩⟩:=h
 obtain ⟨A5,c5,rfl,l5,g5⟩:=k58_open s3
 exact ⟨A5,c5,A6,c6,rfl,l5,g5,l6,g6⟩
theorem k61_mk (w:World) (x:S61) {A5:Option Addr} {c5:Nat} (l5:x.f3.f2.length≤c5) (g5:k58.C w A5 x.f3.f2.length x.f3.f2) {A6:Option Addr} {c6:Nat} (l6:x.f4.length≤c6) (g6:(Kd.int .i64).C w A6 x.f4.length x.f4):k61.K w x [.int .i64 x.f0,.string x.f1,.string x.f2,.int .i64 x.f3.f0,.string x.f3.f1,.slice A5 x.f3.f2.length c5,.slice A6 x.f4.length c6,.int .i64 x.f5]:=⟨[.int .i64 x.f0],[.string x.f1,.string x.f2,.int .i64 x.f3.f0,.string x.f3.f1,.slice A5 x.f3.f2.length c5,.slice A6 x.f4.length c6,.int .i64 x.f5],rfl,rfl,⟨[.string x.f1],[.string x.f2,.int .i64 x.f3.f0,.string x.f3.f1,.slice A5 x.f3.f2.length c5,.slice A6 x.f4.length c6,.int .i64 x.f5],rfl,rfl,⟨[.string x.f2],[.int .i64 x.f3.f0,.string x.f3.f1,.slice A5 x.f3.f2.length c5,.slice A6 x.f4.length c6,.int .i64 x.f5],rfl,rfl,⟨[.int .i64 x.f3.f0,.string x.f3.f1,.slice A5 x.f3.f2.length c5],[.slice A6 x.f4.length c6,.int .i64 x.f5],rfl,(k58_mk w x.f3 l5 g5),⟨[.slice A6 x.f4.length c6],[.int .i64 x.f5],rfl,⟨A6,c6,rfl,l6,g6⟩,rfl⟩⟩⟩⟩⟩
theorem k61_openF {W:World} {ok:Nat→Prop} {x:S61} {cs:List Value} (h:Kd.FK k61 W ok x cs):∃ A5 c5 A6 c6,cs = [.int .i64 x.f0,.string x.f1,.string x.f2,.int .i64 x.f3.f0,.string x.f3.f1,.slice A5 x.f3.f2.length c5,.slice A6 x.f4.length c6,.int .i64 x.f5]∧x.f3.f2.length≤c5∧Kd.F k58 W ok A5 x.f3.f2.length x.f3.f2∧x.f4.length≤c6∧Kd.F (Kd.int .i64) W ok A6 x.f4.length x.f4:=by
 obtain ⟨A5,c5,A6,c6,rfl,l5,_,l6,_⟩:=k61_open (Kd.FK_now h)
 exact ⟨A5,c5,A6,c6,rfl,l5,(fun W' hW=>by obtain ⟨A5_,c5_,A6_,c6_,he,l5_,g5_,l6_,g6_⟩:=k61_open (h W' hW);injection (zi (show some (Value.slice A5 x.f3.f2.length c5)=some (Value.slice A5_ x.f3.f2.length c5_) from congrArg (fun l=>l[5]?) he)) with ha_ _ _;rw [ha_];exact g5_),l6,(fun W' hW=>by obtain ⟨A5_,c5_,A6_,c6_,he,l5_,g5_,l6_,g6_⟩:=k61_open (h W' hW);injection (zi (show some (Value.slice A6 x.f4.length c6)=some (Value.slice A6_ x.f4.length c6_) from congrArg (fun l=>l[6]?) he)) with ha_ _ _;rw [ha_];exact g6_)⟩
theorem k61_mkF (W:World) (ok:Nat→Prop) (x:S61) {A5:Option Addr} {c5:Nat} (l5:x.f3.f2.length≤c5) (g5:Kd.F k58 W ok A5 x.f3.f2.length x.f3.f2) {A6:Option Addr} {c6:Nat} (l6:x.f4.length≤c6) (g6:Kd.F (Kd.int .i64) W ok A6 x.f4.length x.f4):Kd.FK k61 W ok x [.int .i64 x.f0,.string x.f1,.string x.f2,.int .i64 x.f3.f0,.string x.f3.f1,.slice A5 x.f3.f2.length c5,.slice A6 x.f4.length c6,.int .i64 x.f5]:=fun W2 hW=>k61_mk W2 x l5 (g5 W2 hW) l6 (g6 W2 hW)
def rd_T61 (xs:List S61) (i:Int):S61:=xs.getD i.toNat z61
theorem at_T61 {w:World} {A:Option Addr} {n:Nat} {xs:List S61} (h:Kd.C k61 w A n xs) (i:Int) (h0:0≤i) (h1:i < n):∃ ad A5 c5 A6 c6,A=some ad∧w.cell? (ad.add (i.toNat * 8))=some (.int .i64 (rd_T61 xs i).f0)∧w.cell? ⟨(ad.add (i.toNat * 8)).block,(ad.add (i.toNat * 8)).off+1,none⟩=some (.string (rd_T61 xs i).f1)∧w.cell? ⟨(ad.add (i.toNat * 8)).block,(ad.add (i.toNat * 8)).off+2,none⟩=some (.string (rd_T61 xs i).f2)∧w.cell? ⟨(ad.add (i.toNat * 8)).block,(ad.add (i.toNat * 8)).off+3,none⟩=some (.int .i64 (rd_T61 xs i).f3.f0)∧w.cell? ⟨(ad.add (i.toNat * 8)).block,(ad.add (i.toNat * 8)).off+4,none⟩=some (.string (rd_T61 xs i).f3.f1)∧w.cell? ⟨(ad.add (i.toNat * 8)).block,(ad.add (i.toNat * 8)).off+5,none⟩=some (.slice A5 (rd_T61 xs i).f3.f2.length c5)∧w.cell? ⟨(ad.add (i.toNat * 8)).block,(ad.add (i.toNat * 8)).off+6,none⟩=some (.slice A6 (rd_T61 xs i).f4.length c6)∧w.cell? ⟨(ad.add (i.toNat * 8)).block,(ad.add (i.toNat * 8)).off+7,none⟩=some (.int .i64 (rd_T61 xs i).f5)∧(rd_T61 xs i).f3.f2.length≤c5∧k58.C w A5 (rd_T61 xs i).f3.f2.length (rd_T61 xs i).f3.f2∧(rd_T61 xs i).f4.length≤c6∧(Kd.int .i64).C w A6 (rd_T61 xs i).f4.length (rd_T61 xs i).f4:=by
 obtain ⟨ad,c,e,_,hK,hc0⟩:=Kd.C_get h z61 i h0 h1
 have hc:∀ j u,c[j]? = some u→w.cell? (ad.add (i.toNat * 8+j))=some u:=hc0
 obtain ⟨A5,c5,A6,c6,rfl,l5,g5,l6,g6⟩:=k61_open hK
 exact ⟨ad,A5,c5,A6,c6,e,hc 0 _ rfl,za112,by rw [← add_field _ _ 2 (by omega)];exact hc 2 _ rfl,by rw [← add_field _ _ 3 (by omega)];exact hc 3 _ rfl,by rw [← add_field _ _ 4 (by omega)];exact hc 4 _ rfl,by rw [← add_field _ _ 5 (by omega)];exact hc 5 _ rfl,by rw [← add_field _ _ 6 (by omega)];exact hc 6 _ rfl,by rw [← add_field _ _ 7 (by omega)];exact hc 7 _ rfl,l5,g5,l6,g6⟩
def laws_big.f (l0:List Int):Option (Bool):=some (decide ((l0.length:Int) > 1048576))
theorem laws_big.calls (A0:Option Addr) (c0:Nat) (l0:List Int) (r:Bool) (w:World) (hr0:Kd.C (Kd.int .u8) w A0 l0.length l0) (hc0:l0.length≤c0) (h:laws_big.f l0=some r) :
  Calls Try.prog 4 #[.slice A0 l0.length c0] w fun e w'=>e = .returned (.bool r)∧Drawn0 w w':=by
 have HR0:=zk hr0
 have HC0:=zk hc0
 clear hr0 hc0
 have H:=h
 unfold laws_big.f at H
 clear h
 obtain rfl:=zi H
 go_enter Try.func4,Try.ntmps4
 go_wp2
 go_ret
 exact ⟨za8,za20⟩
def spec_LetterIndex.l0:Nat→Int→Int→Option (Int)
 | 0,_,_=>none
 | k+1,x0,x3=>if x3 < 3 then (if 0≤x3 then (if (bt (⟨#[97,98,99]⟩:ByteArray) x3)=x0 then (some x3) else (spec_LetterIndex.l0 k x0 (wrap64 (x3+1)))) else (none)) else (some (-1))
def spec_LetterIndex.f (k:Nat) (a0:Int):Option (Int):=spec_LetterIndex.l0 k a0 0
theorem spec_LetterIndex.calls (k:Nat) (a0:Int) (r:Int) (w:World) (h:spec_LetterIndex.f k a0=some r) :
   Calls Try.prog 48 #[.int .u8 a0] w fun e w'=>e = .returned (.int .i64 r)∧Drawn0 w w':=by
 have H:=h
 unfold spec_LetterIndex.f at H
 clear h
 have H':=zk H
 clear H
 go_enter Try.func48,Try.ntmps48
 go_wp2
 try simp only [Act.put,zt,zv,zu]
 go_loopg [3] k (fun kq v3 w'=>∃ (x3_1:Int),v3 = .int .i64 x3_1∧Aside0 (spec_LetterIndex.l0 kq a0 x3_1=some r)∧Aside0 (kq≤k)∧Drawn0 w w')
 case atStart=>exact ⟨(0),za8,H',⟨Nat.le_refl _⟩,za20⟩
 case round =>
  clear H'
  obtain ⟨x3_1,rfl,HA,HK1,⟨m1,rfl⟩⟩:=hrel
  cases gk with
  | zero=>exact absurd HA.out (by simp [spec_LetterIndex.l0])
  | succ k1 =>
   have H:=HA.out
   clear HA
   simp only [spec_LetterIndex.l0] at H
   by_cases c2:x3_1 < 3
   rw [if_pos c2] at H
   have c2b0:=zdl c2
   clear c2
   by_cases c3:0≤x3_1
   rw [if_pos c3] at H
   have c3b0:=zdle c3
   clear c3
   by_cases c5:(bt (⟨#[97,98,99]⟩:ByteArray) x3_1)=a0
   ·rw [if_pos c5] at H
    have c5b0:=zbt c5
    have c5b1:=zqn c5
    clear c5
    obtain rfl:=zi H
    have p4:0≤(x3_1:Int):=of_decide_eq_true za7
    have q4:x3_1 < (3:Int):=of_decide_eq_true za7
    have hx4:=bt_at (⟨#[97,98,99]⟩:ByteArray) x3_1
    replace p4:=eq_true p4
    replace q4:=eq_true q4
    go_wp2
    go_ret
    exact ⟨za8,za20⟩
   ·rw [if_neg c5] at H
    have c5b0:=zbn c5
    have c5b1:=zqt c5
    have H':=zk H
    clear H
    have p4:0≤(x3_1:Int):=of_decide_eq_true za7
    have q4:x3_1 < (3:Int):=of_decide_eq_true za7
    have hx4:=bt_at (⟨#[97,98,99]⟩:ByteArray) x3_1
    replace p4:=eq_true p4
    replace q4:=eq_true q4
    go_wp2
    go_roundg k1
    case measure=>have:=HK1.out;omega
    case rel=>exact ⟨(wrap64 (x3_1+1)),za8,H',⟨za60⟩,za20⟩
   ·rw [if_neg c3] at H
    exact absurd H (by simp)
   ·rw [if_neg c2] at H
    have c2b0:=zdnl c2
    clear c2
    obtain rfl:=zi H
    go_wp2
    go_ret
    exact ⟨za8,za20⟩
def spec_IsWord.l0:Nat→ByteArray→Int→Option (Bool)
 | 0,_,_=>none
 | k+1,x0,x3=>if x3 < (x0.size:Int) then (if 0≤x3 then ((spec_LetterIndex.f k (bt x0 x3)).bind fun t92001=>(if t92001 < 0 then (some false) else (spec_IsWord.l0 k x0 (wrap64 (x3+1))))) else (none)) else (some (decide ((x0.size:Int)≤30)))
def spec_IsWord.f (k:Nat) (a0:ByteArray):Option (Bool):=spec_IsWord.l0 k a0 0
theorem spec_IsWord.calls (k:Nat) (a0:ByteArray) (r:Bool) (w:World) (h:spec_IsWord.f k a0=some r) :
   Calls Try.prog 92 #[.string a0] w fun e w'=>e = .returned (.bool r)∧Drawn0 w w':=by
 have H:=h
 unfold spec_IsWord.f at H
 clear h
 have H':=zk H
 clear H
 go_enter Try.func92,Try.ntmps92
 go_wp2
 try simp only [Act.put,zt,zv,zu]
 go_loopg [3] k (fun kq v3 w'=>∃ (x3_1:Int),v3 = .int .i64 x3_1∧Aside0 (spec_IsWord.l0 kq a0 x3_1=some r)∧Aside0 (kq≤k)∧Drawn0 w w')
 case atStart=>exact ⟨(0),za8,H',⟨Nat.le_refl _⟩,za20⟩
 case round =>
  clear H'
  obtain ⟨x3_1,rfl,HA,HK1,⟨m1,rfl⟩⟩:=hrel
  cases gk with
  | zero=>exact absurd HA.out (by simp [spec_IsWord.l0])
  | succ k1 =>
   have H:=HA.out
   clear HA
   simp only [spec_IsWord.l0] at H
   by_cases c2:x3_1 < (a0.size:Int)
   rw [if_pos c2] at H
   have c2b0:=zdl c2
   clear c2
   by_cases c3:0≤x3_1
   rw [if_pos c3] at H
   have c3b0:=zdle c3
   clear c3
   replace H:=zo H
   obtain ⟨t92001,A50,H⟩:=H
   try dsimp only at H
   have A5:=zk A50
   clear A50
   by_cases c6:t92001 < 0
   rw [if_pos c6] at H
   have c6b0:=zdl c6
   clear c6
   obtain rfl:=zi H
   have fin0_:=zk trivial
   rotate_left
   rw [if_neg c6] at H
   have c6b0:=zdnl c6
   clear c6
   have H':=zk H
   clear H
   have fin1_:=zk trivial
   rotate_left
   · rw [if_neg c3] at H
     exact absurd H (by simp)
   · rw [if_neg c2] at H
     have c2b0:=zdnl c2
     clear c2
     obtain rfl:=zi H
     go_wp2
     go_ret
     exact ⟨za8,za20⟩
   all_goals
    have p4:0≤(x3_1:Int):=of_decide_eq_true za7
    have q4:x3_1 < (a0.size:Int):=of_decide_eq_true za7
    have hx4:=bt_at a0 x3_1
    replace p4:=eq_true p4
    replace q4:=eq_true q4
    go_wp2_with (((with_reducible refine gate_callee (f:=48) rfl ?_);refine goesL_ (some 13) rfl rfl Try.func48 (by kernel_rfl) rfl #[.int .u8 (bt a0 x3_1)] rfl za4 ?_;(with_reducible refine (spec_LetterIndex.calls k1 (bt a0 x3_1) t92001 _ A5.out).mono ?_);rintro e w' ⟨rfl,⟨nd,rfl⟩⟩;refine ⟨_,rfl,?_⟩))
    first
    | (
      clear fin0_
      go_ret
      exact ⟨za8,za20⟩)
    | (
      clear fin1_
      go_roundg k1
      case measure=>have:=HK1.out;omega
      case rel=>exact ⟨(wrap64 (x3_1+1)),za8,H',⟨za60⟩,za20⟩)
def spec_CountByte.l0:Nat→ByteArray→Int→Int→Int→Option (Int)
 | 0,_,_,_,_=>none
 | k+1,x0,x1,x5,x6=>if x6 < (x0.size:Int) then (if 0≤x6 then (if (bt x0 x6)=x1 then (spec_CountByte.l0 k x0 x1 (wrap64 (x5+1)) (wrap64 (x6+1))) else (spec_CountByte.l0 k x0 x1 x5 (wrap64 (x6+1)))) else (none)) else (some x5)
def spec_CountByte.f (k:Nat) (a0:ByteArray) (a1:Int):Option (Int):=spec_CountByte.l0 k a0 a1 0 0
theorem spec_CountByte.calls (k:Nat) (a0:ByteArray) (a1:Int) (r:Int) (w:World) (h:spec_CountByte.f k a0 a1=some r) :
   Calls Try.prog 18 #[.string a0,.int .u8 a1] w fun e w'=>e = .returned (.int .i64 r)∧Drawn0 w w':=by
 have H:=h
 unfold spec_CountByte.f at H
 clear h
 have H':=zk H
 clear H
 go_enter Try.func18,Try.ntmps18
 go_wp2
 try simp only [Act.put,zt,zv,zu]
 go_loopg [5,6] k (fun kq v5 v6 w'=>∃ (x5_1:Int) (x6_1:Int),v5 = .int .i64 x5_1∧v6 = .int .i64 x6_1∧Aside0 (spec_CountByte.l0 kq a0 a1 x5_1 x6_1=some r)∧Aside0 (kq≤k)∧Drawn0 w w')
 case atStart=>exact ⟨(0),(0),za8,za8,H',⟨Nat.le_refl _⟩,za20⟩
 case round =>
  clear H'
  obtain ⟨x5_1,x6_1,rfl,rfl,HA,HK1,⟨m1,rfl⟩⟩:=hrel
  cases gk with
  | zero=>exact absurd HA.out (by simp [spec_CountByte.l0])
  | succ k1 =>
   have H:=HA.out
   clear HA
   simp only [spec_CountByte.l0] at H
   by_cases c3:x6_1 < (a0.size:Int)
   rw [if_pos c3] at H
   have c3b0:=zdl c3
   clear c3
   by_cases c4:0≤x6_1
   rw [if_pos c4] at H
   have c4b0:=zdle c4
   clear c4
   by_cases c6:(bt a0 x6_1)=a1
   rw [if_pos c6] at H
   have c6b0:=zbt c6
   have c6b1:=zqn c6
   clear c6
   have fin0_:=zk trivial
   rotate_left
   rw [if_neg c6] at H
   have c6b0:=zbn c6
   have c6b1:=zqt c6
   have fin1_:=zk trivial
   rotate_left
   · rw [if_neg c4] at H
     exact absurd H (by simp)
   · rw [if_neg c3] at H
     have c3b0:=zdnl c3
     clear c3
     obtain rfl:=zi H
     go_wp2
     go_ret
     exact ⟨za8,za20⟩
   all_goals
    have H':=zk H
    clear H
    have p5:0≤(x6_1:Int):=of_decide_eq_true za7
    have q5:x6_1 < (a0.size:Int):=of_decide_eq_true za7
    have hx5:=bt_at a0 x6_1
    replace p5:=eq_true p5
    replace q5:=eq_true q5
    go_wp2
    first
    | (
      clear fin0_
      go_roundg k1
      case measure=>have:=HK1.out;omega
      case rel=>exact ⟨(wrap64 (x5_1+1)),(wrap64 (x6_1+1)),za8,za8,H',⟨za60⟩,za20⟩)
    | (
      clear fin1_
      go_roundg k1
      case measure=>have:=HK1.out;omega
      case rel=>exact ⟨(x5_1),(wrap64 (x6_1+1)),za8,za8,H',⟨za60⟩,za20⟩)
def spec_ReplaceVar.l0:Nat→ByteArray→Int→ByteArray→ByteArray→Int→Option (ByteArray)
 | 0,_,_,_,_,_=>none
 | k+1,x0,x1,x2,x7,x8=>if x8 < (x0.size:Int) then (if 0≤x8 then (if (bt x0 x8)=x1 then (if x7.size+x2.size≤9223372036854775807 then (if ((x7 ++ x2).size:Int) > 1048576 then (some (⟨#[]⟩:ByteArray)) else (spec_ReplaceVar.l0 k x0 x1 x2 (x7 ++ x2) (wrap64 (x8+1)))) else (none)) else (if x8≤(wrap64 (x8+1)) then (if (wrap64 (x8+1))≤(x0.size:Int) then (if x7.size+(x0.extract (x8:Int).toNat ((wrap64 (x8+1)):Int).toNat).size≤9223372036854775807 then (if ((x7 ++ (x0.extract (x8:Int).toNat ((wrap64 (x8+1)):Int).toNat)).size:Int) > 1048576 then (some (⟨#[]⟩:ByteArray)) else (spec_ReplaceVar.l0 k x0 x1 x2 (x7 ++ (x0.extract (x8:Int).toNat ((wrap64 (x8+1)):Int).toNat)) (wrap64 (x8+1)))) else (none)) else (none)) else (none))) else (none)) else (some x7)
def spec_ReplaceVar.f (k:Nat) (a0:ByteArray) (a1:Int) (a2:ByteArray):Option (ByteArray):=spec_ReplaceVar.l0 k a0 a1 a2 (⟨#[]⟩:ByteArray) 0
theorem spec_ReplaceVar.calls (k:Nat) (a0:ByteArray) (a1:Int) (a2:ByteArray) (r:ByteArray) (w:World) (h:spec_ReplaceVar.f k a0 a1 a2=some r) :
   Calls Try.prog 35 #[.string a0,.int .u8 a1,.string a2] w fun e w'=>e = .returned (.string r)∧Drawn0 w w':=by
 have H:=h
 unfold spec_ReplaceVar.f at H
 clear h
 have H':=zk H
 clear H
 go_enter Try.func35,Try.ntmps35
 go_wp2
 try simp only [Act.put,zt,zv,zu]
 go_loopg [7,8] k (fun kq v7 v8 w'=>∃ (x7_1:ByteArray) (x8_1:Int),v7 = .string x7_1∧v8 = .int .i64 x8_1∧Aside0 (spec_ReplaceVar.l0 kq a0 a1 a2 x7_1 x8_1=some r)∧Aside0 (kq≤k)∧Drawn0 w w')
 case atStart=>exact ⟨((⟨#[]⟩:ByteArray)),(0),za8,za8,H',⟨Nat.le_refl _⟩,za20⟩
 case round =>
  clear H'
  obtain ⟨x7_1,x8_1,rfl,rfl,HA,HK1,⟨m1,rfl⟩⟩:=hrel
  cases gk with
  | zero=>exact absurd HA.out (by simp [spec_ReplaceVar.l0])
  | succ k1 =>
   have H:=HA.out
   clear HA
   simp only [spec_ReplaceVar.l0] at H
   by_cases c4:x8_1 < (a0.size:Int)
   rw [if_pos c4] at H
   have c4b0:=zdl c4
   clear c4
   by_cases c5:0≤x8_1
   rw [if_pos c5] at H
   have c5b0:=zdle c5
   clear c5
   by_cases c7:(bt a0 x8_1)=a1
   rw [if_pos c7] at H
   have c7b0:=zbt c7
   have c7b1:=zqn c7
   clear c7
   by_cases c8:x7_1.size+a2.size≤9223372036854775807
   rw [if_pos c8] at H
   have c8z:=c8
   try simp at c8z
   try replace c8z:=eq_false (Nat.not_lt.2 c8z)
   have c8b0:=eq_true c8
   have c8b1:=zdle c8
   try have c8b2:(9223372036854775807 < x7_1.size+a2.size)=False:=eq_false (Nat.not_lt.2 c8)
   by_cases c9:((x7_1 ++ a2).size:Int) > 1048576
   rw [if_pos c9] at H
   have c9b0:=zdl c9
   have c9y:=c9b0
   try simp at c9y
   have c9b1:decide (1048576 < (x7_1 ++ a2).size)=true:=decide_eq_true (by omega)
   clear c9
   obtain rfl:=zi H
   have fin0_:=zk trivial
   rotate_left
   rw [if_neg c9] at H
   have c9b0:=zdnl c9
   have c9y:=c9b0
   try simp at c9y
   have c9b1:decide (1048576 < (x7_1 ++ a2).size)=false:=decide_eq_false (by omega)
   clear c9
   have H':=zk H
   clear H
   have fin1_:=zk trivial
   rotate_left
   · rw [if_neg c8] at H
     exact absurd H (by simp)
   rw [if_neg c7] at H
   have c7b0:=zbn c7
   have c7b1:=zqt c7
   have c10b0:=eq_true (of_decide_eq_true za7:0≤x8_1)
   by_cases c11:x8_1≤(wrap64 (x8_1+1))
   rw [if_pos c11] at H
   have c11b0:=eq_true c11
   have c11b1:=zdle c11
   by_cases c12:(wrap64 (x8_1+1))≤(a0.size:Int)
   rw [if_pos c12] at H
   have c12b0:=eq_true c12
   have c12b1:=zdle c12
   by_cases c13:x7_1.size+(a0.extract (x8_1:Int).toNat ((wrap64 (x8_1+1)):Int).toNat).size≤9223372036854775807
   rw [if_pos c13] at H
   have c13z:=c13
   try simp at c13z
   try replace c13z:=eq_false (Nat.not_lt.2 c13z)
   have c13b0:=eq_true c13
   have c13b1:=zdle c13
   try have c13b2:(9223372036854775807 < x7_1.size+(a0.extract (x8_1:Int).toNat ((wrap64 (x8_1+1)):Int).toNat).size)=False:=eq_false (Nat.not_lt.2 c13)
   by_cases c14:((x7_1 ++ (a0.extract (x8_1:Int).toNat ((wrap64 (x8_1+1)):Int).toNat)).size:Int) > 1048576
   rw [if_pos c14] at H
   have c14b0:=zdl c14
   have c14w:decide (1048576 < ((x7_1 ++ (a0.extract (x8_1:Int).toNat ((IntKind.i64.wrap (x8_1+1)):Int).toNat)).size:Int))=true:=by simp only [i64_w];exact c14b0
   have c14y:=c14b0
   try simp at c14y
   have c14b1:decide (1048576 < (x7_1 ++ (a0.extract (x8_1:Int).toNat ((wrap64 (x8_1+1)):Int).toNat)).size)=true:=decide_eq_true (by omega)
   clear c14
   obtain rfl:=zi H
   have fin0_:=zk trivial
   rotate_left
   rw [if_neg c14] at H
   have c14b0:=zdnl c14
   have c14w:decide (1048576 < ((x7_1 ++ (a0.extract (x8_1:Int).toNat ((IntKind.i64.wrap (x8_1+1)):Int).toNat)).size:Int))=false:=by simp only [i64_w];exact c14b0
   have c14y:=c14b0
   try simp at c14y
   have c14b1:decide (1048576 < (x7_1 ++ (a0.extract (x8_1:Int).toNat ((wrap64 (x8_1+1)):Int).toNat)).size)=false:=decide_eq_false (by omega)
   clear c14
   have H':=zk H
   clear H
   have fin2_:=zk trivial
   rotate_left
   · rw [if_neg c13] at H
     exact absurd H (by simp)
   · rw [if_neg c12] at H
     exact absurd H (by simp)
   · rw [if_neg c11] at H
     exact absurd H (by simp)
   · rw [if_neg c5] at H
     exact absurd H (by simp)
   · rw [if_neg c4] at H
     have c4b0:=zdnl c4
     clear c4
     obtain rfl:=zi H
     go_wp2
     go_ret
     exact ⟨za8,za20⟩
   all_goals
    have p6:0≤(x8_1:Int):=of_decide_eq_true za7
    have q6:x8_1 < (a0.size:Int):=of_decide_eq_true za7
    have hx6:=bt_at a0 x8_1
    replace p6:=eq_true p6
    replace q6:=eq_true q6
    go_wp2
    first
    | (
      clear fin0_
      go_ret
      exact ⟨za8,za20⟩)
    | (
      clear fin1_
      go_roundg k1
      case measure=>have:=HK1.out;omega
      case rel=>exact ⟨(x7_1 ++ a2),(wrap64 (x8_1+1)),za8,za8,H',⟨za60⟩,za20⟩)
    | (
      clear fin2_
      go_roundg k1
      case measure=>have:=HK1.out;omega
      case rel=>exact ⟨(x7_1 ++ (a0.extract (x8_1:Int).toNat ((wrap64 (x8_1+1)):Int).toNat)),(wrap64 (x8_1+1)),za8,za8,H',⟨za60⟩,za20⟩)
def spec_l8Var.f (a0:Int):Option (Bool):=if a0 ≥ 88 then (some (decide (a0≤90))) else (some false)
theorem spec_l8Var.calls (a0:Int) (r:Bool) (w:World) (h:spec_l8Var.f a0=some r) :
   Calls Try.prog 30 #[.int .u8 a0] w fun e w'=>e = .returned (.bool r)∧Drawn0 w w':=by
 have H:=h
 unfold spec_l8Var.f at H
 clear h
 by_cases c2:a0 ≥ 88
 rw [if_pos c2] at H
 have c2b0:=zdle c2
 rotate_left
 rw [if_neg c2] at H
 have c2b0:=zdnle c2
 rotate_left
 all_goals
  clear c2
  obtain rfl:=zi H
  go_enter Try.func30,Try.ntmps30
  go_wp2
  go_ret
  exact ⟨za8,za20⟩
def spec_IsTerm.l0:Nat→ByteArray→Int→Option (Bool)
 | 0,_,_=>none
 | k+1,x0,x3=>if x3 < (x0.size:Int) then (if 0≤x3 then ((spec_LetterIndex.f k (bt x0 x3)).bind fun t74001=>(if t74001 < 0 then ((spec_l8Var.f (bt x0 x3)).bind fun t74002=>(if t74002=true then (spec_IsTerm.l0 k x0 (wrap64 (x3+1))) else (some false))) else (spec_IsTerm.l0 k x0 (wrap64 (x3+1))))) else (none)) else (some (decide ((x0.size:Int)≤12)))
def spec_IsTerm.f (k:Nat) (a0:ByteArray):Option (Bool):=spec_IsTerm.l0 k a0 0
theorem spec_IsTerm.calls (k:Nat) (a0:ByteArray) (r:Bool) (w:World) (h:spec_IsTerm.f k a0=some r) :
   Calls Try.prog 74 #[.string a0] w fun e w'=>e = .returned (.bool r)∧Drawn0 w w':=by
 have H:=h
 unfold spec_IsTerm.f at H
 clear h
 have H':=zk H
 clear H
 go_enter Try.func74,Try.ntmps74
 go_wp2
 try simp only [Act.put,zt,zv,zu]
 go_loopg [3] k (fun kq v3 w'=>∃ (x3_1:Int),v3 = .int .i64 x3_1∧Aside0 (spec_IsTerm.l0 kq a0 x3_1=some r)∧Aside0 (kq≤k)∧Drawn0 w w')
 case atStart=>exact ⟨(0),za8,H',⟨Nat.le_refl _⟩,za20⟩
 case round =>
  clear H'
  obtain ⟨x3_1,rfl,HA,HK1,⟨m1,rfl⟩⟩:=hrel
  cases gk with
  | zero=>exact absurd HA.out (by simp [spec_IsTerm.l0])
  | succ k1 =>
   have H:=HA.out
   clear HA
   simp only [spec_IsTerm.l0] at H
   by_cases c2:x3_1 < (a0.size:Int)
   rw [if_pos c2] at H
   have c2b0:=zdl c2
   clear c2
   by_cases c3:0≤x3_1
   rw [if_pos c3] at H
   have c3b0:=zdle c3
   clear c3
   replace H:=zo H
   obtain ⟨t74001,A50,H⟩:=H
   try dsimp only at H
   have A5:=zk A50
   clear A50
   by_cases c6:t74001 < 0
   rw [if_pos c6] at H
   have c6b0:=zdl c6
   clear c6
   replace H:=zo H
   obtain ⟨t74002,A80,H⟩:=H
   try dsimp only at H
   have A8:=zk A80
   clear A80
   by_cases c9:t74002=true
   subst c9
   rw [if_pos rfl] at H
   try dsimp only at H
   have H':=zk H
   clear H
   have fin0_:=zk trivial
   rotate_left
   replace c9:=Bool.eq_false_iff.mpr c9
   subst c9
   rw [if_neg (show ¬ (false=true) by decide)] at H
   try dsimp only at H
   obtain rfl:=zi H
   have fin1_:=zk trivial
   rotate_left
   · rw [if_neg c6] at H
     have c6b0:=zdnl c6
     clear c6
     have H':=zk H
     clear H
     have p4:0≤(x3_1:Int):=of_decide_eq_true za7
     have q4:x3_1 < (a0.size:Int):=of_decide_eq_true za7
     have hx4:=bt_at a0 x3_1
     replace p4:=eq_true p4
     replace q4:=eq_true q4
     go_wp2_with (first|((with_reducible refine gate_callee (f:=48) rfl ?_);refine goesL_ (some 13) rfl rfl Try.func48 (by kernel_rfl) rfl #[.int .u8 (bt a0 x3_1)] rfl za4 ?_;(with_reducible refine (spec_LetterIndex.calls k1 (bt a0 x3_1) t74001 _ A5.out).mono ?_);rintro e w' ⟨rfl,⟨nd,rfl⟩⟩;refine ⟨_,rfl,?_⟩))
     go_roundg k1
     case measure=>have:=HK1.out;omega
     case rel=>exact ⟨(wrap64 (x3_1+1)),za8,H',⟨za60⟩,za20⟩
   · rw [if_neg c3] at H
     exact absurd H (by simp)
   · rw [if_neg c2] at H
     have c2b0:=zdnl c2
     clear c2
     obtain rfl:=zi H
     go_wp2
     go_ret
     exact ⟨za8,za20⟩
   all_goals
    have p4:0≤(x3_1:Int):=of_decide_eq_true za7
    have q4:x3_1 < (a0.size:Int):=of_decide_eq_true za7
    have hx4:=bt_at a0 x3_1
    replace p4:=eq_true p4
    replace q4:=eq_true q4
    go_wp2_with (first|((with_reducible refine gate_callee (f:=48) rfl ?_);refine goesL_ (some 13) rfl rfl Try.func48 (by kernel_rfl) rfl #[.int .u8 (bt a0 x3_1)] rfl za4 ?_;(with_reducible refine (spec_LetterIndex.calls k1 (bt a0 x3_1) t74001 _ A5.out).mono ?_);rintro e w' ⟨rfl,⟨nd,rfl⟩⟩;refine ⟨_,rfl,?_⟩;have p7:0≤(x3_1:Int):=of_decide_eq_true za7;have q7:x3_1 < (a0.size:Int):=of_decide_eq_true za7;have hx7:=bt_at a0 x3_1;replace p7:=eq_true p7;replace q7:=eq_true q7)|(go_at_call 30;(with_reducible refine (spec_l8Var.calls (bt a0 x3_1) _ _ A8.out).mono ?_);rintro e w' ⟨rfl,⟨nd,rfl⟩⟩))
    first
    | (
      clear fin0_
      go_roundg k1
      case measure=>have:=HK1.out;omega
      case rel=>exact ⟨(wrap64 (x3_1+1)),za8,H',⟨za60⟩,za20⟩)
    | (
      clear fin1_
      go_ret
      exact ⟨za8,za20⟩)
def IsS69 (w0 W:World) (g:Nat) (f0:List Int) (f1:Int) (f2:Int):Prop:=∃ A0 c0,W.heap[g]? = some (.cells #[.slice A0 f0.length c0,.int .i64 f1,.int .i64 f2] 69 (0,0))∧w0.heap.size≤g∧Kd.C (Kd.int .u8) w0 A0 f0.length f0
theorem IsS69.grown {w0 W:World} {g:Nat} {f0:List Int} {f1:Int} {f2:Int} {W1:World} {row:Option Nat} (h:IsS69 w0 W g f0 f1 f2) (hw:W.grownBy W1 row) (hne:some g ≠ row):IsS69 w0 W1 g f0 f1 f2:=by
 obtain ⟨A0,c0,hb,hg,hr0⟩:=h
 exact ⟨A0,c0,blk_grown hb hw hne,hg,hr0⟩
theorem IsS69.own_neN {w0 W:World} {g:Nat} {f0:List Int} {f1:Int} {f2:Int} {α:Type} {d:Kd α} {e:Nat} {base:Nat} {ok:Nat→Prop} {v:Value} {xs:List α} (h:IsS69 w0 W g f0 f1 f2) (ho:Kd.N d e W base ok v xs) (ht:e ≠ 69):some g ≠ v.ownBlock:=by
 obtain ⟨A0,c0,hb,hg,hr0⟩:=h
 exact Kd.N_ne ho hb ht
theorem IsS69.fresh {w0 W:World} {g:Nat} {f0:List Int} {f1:Int} {f2:Int} (h:IsS69 w0 W g f0 f1 f2):∀ k,W.heap.size≤k→k ≠ g:=by
 obtain ⟨A0,c0,hb,hg,hr0⟩:=h
 exact Kd.freshB hb
theorem IsS69.kept {w0 W:World} {g:Nat} {f0:List Int} {f1:Int} {f2:Int} {W1:World} {S:Nat→Prop} (h:IsS69 w0 W g f0 f1 f2) (hk:Kept W W1 S) (hne:¬ S g):IsS69 w0 W1 g f0 f1 f2:=by
 obtain ⟨A0,c0,hb,hg,hr0⟩:=h
 exact ⟨A0,c0,blk_kept hb hk hne,hg,hr0⟩
theorem IsS69.below {w0 W:World} {g:Nat} {f0:List Int} {f1:Int} {f2:Int} {W1:World} (h:IsS69 w0 W g f0 f1 f2) (hw:Below W.heap.size W W1):IsS69 w0 W1 g f0 f1 f2:=h.grown (grown_of_below hw none) (by simp)
theorem IsS69.alloc {w0 W:World} {g:Nat} {f0:List Int} {f1:Int} {f2:Int} (h:IsS69 w0 W g f0 f1 f2) (o:Obj):IsS69 w0 (W.alloc o) g f0 f1 f2:=h.below (below_alloc (Below.refl _ _) o)
theorem IsS69.drewN {w0 W:World} {g:Nat} {f0:List Int} {f1:Int} {f2:Int} (h:IsS69 w0 W g f0 f1 f2) (m:Nat):IsS69 w0 (W.drewN m) g f0 f1 f2:=h
theorem IsS69.drew {w0 W:World} {g:Nat} {f0:List Int} {f1:Int} {f2:Int} (h:IsS69 w0 W g f0 f1 f2):IsS69 w0 W.drew g f0 f1 f2:=h
theorem IsS69.at_ {w0 W:World} {g:Nat} {f0:List Int} {f1:Int} {f2:Int} {w':World} {m:Nat} (hq:W.drewN m=w') (h:IsS69 w0 W g f0 f1 f2):IsS69 w0 w' g f0 f1 f2:=by subst hq;exact IsS69.drewN h m
theorem IsS69.apart {w0 W:World} {g:Nat} {f0:List Int} {f1:Int} {f2:Int} {α:Type} {d:Kd α} {e:Nat} {base:Nat} {ok:Nat→Prop} {v:Value} {xs:List α} (h:IsS69 w0 W g f0 f1 f2) (ho:d.R e W base ok v xs) (ht:∀ q,q ∈ e :: d.E→q ≠ 69):d.R e W base (fun k=>ok k∧k ≠ g) v xs:=by
 obtain ⟨A0,c0,hb,hg,hr0⟩:=h
 exact Kd.R_types ho hb ht
theorem IsS69.own_ne {w0 W:World} {g:Nat} {f0:List Int} {f1:Int} {f2:Int} {α:Type} {d:Kd α} {e:Nat} {base:Nat} {ok:Nat→Prop} {v:Value} {xs:List α} (h:IsS69 w0 W g f0 f1 f2) (ho:d.R e W base ok v xs) (ht:e ≠ 69):some g ≠ v.ownBlock:=by
 obtain ⟨A0,c0,hb,hg,hr0⟩:=h
 exact Kd.R_ne ho hb ht
theorem IsS69.lt {w0 W:World} {g:Nat} {f0:List Int} {f1:Int} {f2:Int} (h:IsS69 w0 W g f0 f1 f2):g < W.heap.size:=by
 obtain ⟨A0,c0,hb,hg,hr0⟩:=h
 exact blk_lt hb
theorem IsS69.ge {w0 W:World} {g:Nat} {f0:List Int} {f1:Int} {f2:Int} (h:IsS69 w0 W g f0 f1 f2):w0.heap.size≤g:=by
 obtain ⟨A0,c0,hb,hg,hr0⟩:=h
 exact hg
theorem IsS69.ne_blk {w0 W:World} {g:Nat} {f0:List Int} {f1:Int} {f2:Int} {a:Nat} {cs:Array Value} {t:TypeId} {fr:Nat × Nat} (h:IsS69 w0 W g f0 f1 f2) (hb2:W.heap[a]? = some (.cells cs t fr)) (ht:t ≠ 69):g ≠ a:=by
 obtain ⟨A0,c0,hb,hg,hr0⟩:=h
 rintro rfl
 rw [hb] at hb2
 injection hb2 with hb2
 injection hb2 with _ ht2
 exact ht ht2.symm
theorem IsS69.far {w0 W:World} {g:Nat} {f0:List Int} {f1:Int} {f2:Int} {p:Addr} (h:IsS69 w0 W g f0 f1 f2) (hne:g ≠ p.block) (u:Value):IsS69 w0 (W.setCell p u) g f0 f1 f2:=by
 obtain ⟨A0,c0,hb,hg,hr0⟩:=h
 exact ⟨A0,c0,blk_far hb hne u,hg,hr0⟩
theorem cellS69_0 {W:World} {g:Nat} {A0:Option Addr} {c0:Nat} {f0:List Int} {f1:Int} {f2:Int} (h:W.heap[g]? = some (.cells #[.slice A0 f0.length c0,.int .i64 f1,.int .i64 f2] 69 (0,0))):W.cell? ⟨g,0,none⟩=some (.slice A0 f0.length c0):=(blk_cell h 0).trans rfl
theorem cellS69_1 {W:World} {g:Nat} {A0:Option Addr} {c0:Nat} {f0:List Int} {f1:Int} {f2:Int} (h:W.heap[g]? = some (.cells #[.slice A0 f0.length c0,.int .i64 f1,.int .i64 f2] 69 (0,0))):W.cell? ⟨g,1,none⟩=some (.int .i64 f1):=(blk_cell h 1).trans rfl
theorem IsS69.set_1 {w0 W:World} {g:Nat} {f0:List Int} {f1:Int} {f2:Int} (h:IsS69 w0 W g f0 f1 f2) (x:Int):IsS69 w0 (W.setCell ⟨g,1,none⟩ (.int .i64 x)) g f0 x f2:=by
 obtain ⟨A0,c0,hb,hg,hr0⟩:=h
 exact ⟨A0,c0,by simpa using blk_set hb 1 (.int .i64 x),hg,hr0⟩
theorem cellS69_2 {W:World} {g:Nat} {A0:Option Addr} {c0:Nat} {f0:List Int} {f1:Int} {f2:Int} (h:W.heap[g]? = some (.cells #[.slice A0 f0.length c0,.int .i64 f1,.int .i64 f2] 69 (0,0))):W.cell? ⟨g,2,none⟩=some (.int .i64 f2):=(blk_cell h 2).trans rfl
theorem IsS69.set_2 {w0 W:World} {g:Nat} {f0:List Int} {f1:Int} {f2:Int} (h:IsS69 w0 W g f0 f1 f2) (x:Int):IsS69 w0 (W.setCell ⟨g,2,none⟩ (.int .i64 x)) g f0 f1 x:=by
 obtain ⟨A0,c0,hb,hg,hr0⟩:=h
 exact ⟨A0,c0,by simpa using blk_set hb 2 (.int .i64 x),hg,hr0⟩
theorem IsS69.new (w0 W:World) (A0:Option Addr) (c0:Nat) (f0:List Int) (f1:Int) (f2:Int) (hB:Below w0.heap.size w0 W) (hr0:Kd.C (Kd.int .u8) w0 A0 f0.length f0):IsS69 w0 (W.alloc (.cells #[.slice A0 f0.length c0,.int .i64 f1,.int .i64 f2] 69)) W.heap.size f0 f1 f2:=⟨A0,c0,by simpa using heap_alloc_new W _,hB.size,hr0⟩
def spec_l1Byte.f (s0_0:List Int) (s0_1:Int) (s0_2:Int):Option (Int × Int × Int):=if s0_1 < (s0_0.length:Int) then (if 0≤s0_1 then (some (Go.bits .and .i64 (wrap64 ((Go.bits .and .i64 (Go.bits .xor .i64 ((wrap64 ((wrap64 (s0_2 * 6364136223846793005))+1442695040888963407)) / 8589934592) ((wrap64 ((wrap64 (s0_2 * 6364136223846793005))+1442695040888963407)) / 35184372088832)) 255)+(wrap64 (rd s0_0 s0_1)))) 255,wrap64 (s0_1+1),wrap64 ((wrap64 (s0_2 * 6364136223846793005))+1442695040888963407))) else (none)) else (some (Go.bits .and .i64 (Go.bits .xor .i64 ((wrap64 ((wrap64 (s0_2 * 6364136223846793005))+1442695040888963407)) / 8589934592) ((wrap64 ((wrap64 (s0_2 * 6364136223846793005))+1442695040888963407)) / 35184372088832)) 255,s0_1,wrap64 ((wrap64 (s0_2 * 6364136223846793005))+1442695040888963407)))
theorem spec_l1Byte.calls (g:Nat) (s0_0:List Int) (s0_1:Int) (s0_2:Int) (r1:Int) (r2:Int) (r3:Int) (w0 w:World) (hI:IsS69 w0 w g s0_0 s0_1 s0_2) (hB:Below w0.heap.size w0 w) (h:spec_l1Byte.f s0_0 s0_1 s0_2=some (r1,r2,r3)) :
   Calls Try.prog 59 #[.pointer (some ⟨g,0,none⟩)] w fun e w'=>e = .returned (.int .i64 r1)∧IsS69 w0 w' g s0_0 r2 r3∧Below w0.heap.size w0 w'∧KeepBut w w' g none:=by
 have HI0:=zk hI
 have HK:=zk (KeepBut.refl w g none)
 have HL:=zk hB.size
 clear hI
 have HW0:=zk hB.size
 have HB:=zk hB
 clear hB
 have H:=h
 unfold spec_l1Byte.f at H
 clear h
 by_cases c2:s0_1 < (s0_0.length:Int)
 rw [if_pos c2] at H
 have c2b0:=zdl c2
 clear c2
 by_cases c3:0≤s0_1
 rw [if_pos c3] at H
 have c3b0:=zdle c3
 clear c3
 simp only [Option.some.injEq,Prod.mk.injEq] at H
 obtain ⟨rfl,rfl,rfl⟩:=H
 obtain ⟨ASz4_0,cSz4_0,HGz4,hgz4,HSz4_0⟩:=HI0.out
 have hcz4_0:=cellS69_0 HGz4
 have hcz4_1:=cellS69_1 HGz4
 have hcz4_2:=cellS69_2 HGz4
 have hfz4_1:=blk_frozen HGz4 1
 have hfz4_2:=blk_frozen HGz4 2
 clear HGz4 hgz4
 have p59001:0≤(s0_1:Int):=of_decide_eq_true za7
 have q59001:s0_1 < (s0_0.length:Int):=of_decide_eq_true za7
 obtain ⟨ad59001,e59001,hx59001_0⟩:=Kd.at_int HSz4_0 s0_1 p59001 q59001
 cases e59001
 have hn59001_0:ad59001.block ≠ g:=Nat.ne_of_lt (Nat.lt_of_lt_of_le (by have:=World.block_lt_of_cell? _ _ hx59001_0;first|rwa [add_block] at this|exact this) (IsS69.ge HI0.out))
 replace hx59001_0:=pw_cell_below HB.out hx59001_0
 replace hx59001_0:=(cell_far (p:=⟨g,2,none⟩) (by first|(rw [add_block];exact hn59001_0)|(show (Addr.add _ _).block ≠ _;rw [add_block];exact hn59001_0)|exact hn59001_0) (.int .i64 (wrap64 ((wrap64 (s0_2 * 6364136223846793005))+1442695040888963407)))).trans hx59001_0
 (try have hy59001_0:=fun (n_:Nat)=>(show (((w.drewN n_).setCell ⟨g,2,none⟩ (.int .i64 (wrap64 ((wrap64 (s0_2 * 6364136223846793005))+1442695040888963407))))).cell? _=some _ from hx59001_0))
 clear hn59001_0
 replace p59001:=eq_true p59001
 replace q59001:=eq_true q59001
 rotate_left
 · rw [if_neg c3] at H
   exact absurd H (by simp)
 rw [if_neg c2] at H
 have c2b0:=zdnl c2
 clear c2
 simp only [Option.some.injEq,Prod.mk.injEq] at H
 obtain ⟨rfl,rfl,rfl⟩:=H
 obtain ⟨ASz5_0,cSz5_0,HGz5,hgz5,HSz5_0⟩:=HI0.out
 have hcz5_0:=cellS69_0 HGz5
 have hcz5_1:=cellS69_1 HGz5
 have hcz5_2:=cellS69_2 HGz5
 have hfz5_1:=blk_frozen HGz5 1
 have hfz5_2:=blk_frozen HGz5 2
 clear HGz5 hgz5
 rotate_left
 all_goals
  go_enter Try.func59,Try.ntmps59
  go_wp2
  repeat (go_quiet (fail);try go_wp2)
  go_ret
  exact ⟨za9,za5,za12,za6⟩
def spec_l1Below.f (s0_0:List Int) (s0_1:Int) (s0_2:Int) (a1:Int):Option (Int × Int × Int):=if a1≤0 then (some (0,s0_1,s0_2)) else (if a1≤256 then ((spec_l1Byte.f s0_0 s0_1 s0_2).bind fun bt42001=>(if a1=0 then (none) else (some (Int.tmod bt42001.1 a1,bt42001.2.1,bt42001.2.2)))) else ((spec_l1Byte.f s0_0 s0_1 s0_2).bind fun bt42004=>((spec_l1Byte.f s0_0 bt42004.2.1 bt42004.2.2).bind fun bt42007=>((spec_l1Byte.f s0_0 bt42007.2.1 bt42007.2.2).bind fun bt42010=>((spec_l1Byte.f s0_0 bt42010.2.1 bt42010.2.2).bind fun bt42013=>(if a1=0 then (none) else (some (Int.tmod (wrap64 ((wrap64 ((wrap64 ((wrap64 (bt42004.1 * 16777216))+(wrap64 (bt42007.1 * 65536))))+(wrap64 (bt42010.1 * 256))))+bt42013.1)) a1,bt42013.2.1,bt42013.2.2))))))))
theorem spec_l1Below.calls (g:Nat) (s0_0:List Int) (s0_1:Int) (s0_2:Int) (a1:Int) (r1:Int) (r2:Int) (r3:Int) (w0 w:World) (hI:IsS69 w0 w g s0_0 s0_1 s0_2) (hB:Below w0.heap.size w0 w) (h:spec_l1Below.f s0_0 s0_1 s0_2 a1=some (r1,r2,r3)) :
   Calls Try.prog 42 #[.pointer (some ⟨g,0,none⟩),.int .i64 a1] w fun e w'=>e = .returned (.int .i64 r1)∧IsS69 w0 w' g s0_0 r2 r3∧Below w0.heap.size w0 w'∧KeepBut w w' g none:=by
 have HI0:=zk hI
 have HK:=zk (KeepBut.refl w g none)
 have HL:=zk hB.size
 clear hI
 have HW0:=zk hB.size
 have HB:=zk hB
 clear hB
 have H:=h
 unfold spec_l1Below.f at H
 clear h
 by_cases c3:a1≤0
 rw [if_pos c3] at H
 have c3b0:=zdle c3
 clear c3
 rotate_left
 rw [if_neg c3] at H
 have c3b0:=zdnle c3
 clear c3
 by_cases c4:a1≤256
 rw [if_pos c4] at H
 have c4b0:=zdle c4
 clear c4
 replace H:=zo H
 obtain ⟨⟨t42001,t42002,t42003⟩,A50,H⟩:=H
 try dsimp only at H
 have A5:=zk A50
 clear A50
 by_cases c6:a1=0
 · rw [if_pos c6] at H
   exact absurd H (by simp)
 · rw [if_neg c6] at H
   have c6b0:=zbn c6
   have c6b1:=zqt c6
   simp only [Option.some.injEq,Prod.mk.injEq] at H
   obtain ⟨rfl,rfl,rfl⟩:=H
   go_enter Try.func42,Try.ntmps42
   go_wp2_with (first|((with_reducible refine gate_callee (f:=59) rfl ?_);refine goesL_ (some 14) rfl rfl Try.func59 (by kernel_rfl) rfl #[.pointer (some ⟨g,0,none⟩)] rfl za4 ?_;(with_reducible refine (spec_l1Byte.calls g s0_0 s0_1 s0_2 t42001 t42002 t42003 w0 _ za5 za12 A5.out).mono ?_);rintro e w7 ⟨rfl,hi,hb,hk⟩;refine ⟨_,rfl,?_⟩;replace HK:=zk (KeepBut.trans za6 hk (.inl rfl));replace HB:=zk (hb);replace HI0:=zk (hi);(try clear hb);(try clear hb2);(try clear hk);(try clear hi)))
   go_ret
   exact ⟨za9,za5,za12,za6⟩
 rw [if_neg c4] at H
 have c4b0:=zdnle c4
 clear c4
 replace H:=zo H
 obtain ⟨⟨t42004,t42005,t42006⟩,A80,H⟩:=H
 try dsimp only at H
 have A8:=zk A80
 clear A80
 replace H:=zo H
 obtain ⟨⟨t42007,t42008,t42009⟩,A90,H⟩:=H
 try dsimp only at H
 have A9:=zk A90
 clear A90
 replace H:=zo H
 obtain ⟨⟨t42010,t42011,t42012⟩,A100,H⟩:=H
 try dsimp only at H
 have A10:=zk A100
 clear A100
 replace H:=zo H
 obtain ⟨⟨t42013,t42014,t42015⟩,A110,H⟩:=H
 try dsimp only at H
 have A11:=zk A110
 clear A110
 by_cases c12:a1=0
 · rw [if_pos c12] at H
   exact absurd H (by simp)
 rw [if_neg c12] at H
 have c12b0:=zbn c12
 have c12b1:=zqt c12
 rotate_left
 all_goals
  simp only [Option.some.injEq,Prod.mk.injEq] at H
  obtain ⟨rfl,rfl,rfl⟩:=H
  go_enter Try.func42,Try.ntmps42
  go_wp2_with (first|((with_reducible refine gate_callee (f:=59) rfl ?_);refine goesL_ (some 18) rfl rfl Try.func59 (by kernel_rfl) rfl #[.pointer (some ⟨g,0,none⟩)] rfl za4 ?_;(with_reducible refine (spec_l1Byte.calls g s0_0 s0_1 s0_2 t42004 t42005 t42006 w0 _ za5 za12 A8.out).mono ?_);rintro e w13 ⟨rfl,hi,hb,hk⟩;refine ⟨_,rfl,?_⟩;replace HK:=zk (KeepBut.trans za6 hk (.inl rfl));replace HB:=zk (hb);replace HI0:=zk (hi);(try clear hb);(try clear hb2);(try clear hk);(try clear hi))|((with_reducible refine gate_callee (f:=59) rfl ?_);refine goesL_ (some 20) rfl rfl Try.func59 (by kernel_rfl) rfl #[.pointer (some ⟨g,0,none⟩)] rfl za4 ?_;(with_reducible refine (spec_l1Byte.calls g s0_0 t42005 t42006 t42007 t42008 t42009 w0 _ za5 za12 A9.out).mono ?_);rintro e w14 ⟨rfl,hi,hb,hk⟩;refine ⟨_,rfl,?_⟩;replace HK:=zk (KeepBut.trans za6 hk (.inl rfl));replace HB:=zk (hb);replace HI0:=zk (hi);(try clear hb);(try clear hb2);(try clear hk);(try clear hi))|((with_reducible refine gate_callee (f:=59) rfl ?_);refine goesL_ (some 22) rfl rfl Try.func59 (by kernel_rfl) rfl #[.pointer (some ⟨g,0,none⟩)] rfl za4 ?_;(with_reducible refine (spec_l1Byte.calls g s0_0 t42008 t42009 t42010 t42011 t42012 w0 _ za5 za12 A10.out).mono ?_);rintro e w15 ⟨rfl,hi,hb,hk⟩;refine ⟨_,rfl,?_⟩;replace HK:=zk (KeepBut.trans za6 hk (.inl rfl));replace HB:=zk (hb);replace HI0:=zk (hi);(try clear hb);(try clear hb2);(try clear hk);(try clear hi))|((with_reducible refine gate_callee (f:=59) rfl ?_);refine goesL_ (some 24) rfl rfl Try.func59 (by kernel_rfl) rfl #[.pointer (some ⟨g,0,none⟩)] rfl za4 ?_;(with_reducible refine (spec_l1Byte.calls g s0_0 t42011 t42012 t42013 t42014 t42015 w0 _ za5 za12 A11.out).mono ?_);rintro e w16 ⟨rfl,hi,hb,hk⟩;refine ⟨_,rfl,?_⟩;replace HK:=zk (KeepBut.trans za6 hk (.inl rfl));replace HB:=zk (hb);replace HI0:=zk (hi);(try clear hb);(try clear hb2);(try clear hk);(try clear hi)))
  go_ret
  exact ⟨za9,za5,za12,za6⟩
def spec_l1Pick.f (s0_0:List Int) (s0_1:Int) (s0_2:Int) (l1:List ByteArray):Option (ByteArray × Int × Int):=(spec_l1Below.f s0_0 s0_1 s0_2 (l1.length:Int)).bind fun bt43001=>(if 0≤bt43001.1 then (if bt43001.1 < (l1.length:Int) then (some (rdOf ByteArray.empty l1 bt43001.1,bt43001.2.1,bt43001.2.2)) else (none)) else (none))
theorem spec_l1Pick.calls (g:Nat) (s0_0:List Int) (s0_1:Int) (s0_2:Int) (A1:Option Addr) (c1:Nat) (l1:List ByteArray) (r1:ByteArray) (r2:Int) (r3:Int) (w0 w:World) (hI:IsS69 w0 w g s0_0 s0_1 s0_2) (hB:Below w0.heap.size w0 w) (hr1:Kd.C Kd.string w A1 l1.length l1) (hc1:l1.length≤c1) (hf1:∀ ad,A1=some ad→0 < l1.length→ad.block ≠ g) (h:spec_l1Pick.f s0_0 s0_1 s0_2 l1=some (r1,r2,r3)) :
  Calls Try.prog 43 #[.pointer (some ⟨g,0,none⟩),.slice A1 l1.length c1] w fun e w'=>e = .returned (.string r1)∧IsS69 w0 w' g s0_0 r2 r3∧Below w0.heap.size w0 w'∧KeepBut w w' g none:=by
 have HR1:=zk hr1
 have HC1:=zk hc1
 clear hr1 hc1
 have HI0:=zk hI
 have HK:=zk (KeepBut.refl w g none)
 have HL:=zk hB.size
 clear hI
 have HW0:=zk hB.size
 have HB:=zk hB
 clear hB
 have H:=h
 unfold spec_l1Pick.f at H
 clear h
 replace H:=zo H
 obtain ⟨⟨t43001,t43002,t43003⟩,A30,H⟩:=H
 try dsimp only at H
 have A3:=zk A30
 clear A30
 by_cases c4:0≤t43001
 rw [if_pos c4] at H
 have c4b0:=zdle c4
 clear c4
 by_cases c5:t43001 < (l1.length:Int)
 ·rw [if_pos c5] at H
  have c5b0:=zdl c5
  clear c5
  simp only [Option.some.injEq,Prod.mk.injEq] at H
  obtain ⟨rfl,rfl,rfl⟩:=H
  go_enter Try.func43,Try.ntmps43
  go_wp2_with (first|((with_reducible refine gate_callee (f:=42) rfl ?_);refine goesL_ (some 9) rfl rfl Try.func42 (by kernel_rfl) rfl #[.pointer (some ⟨g,0,none⟩),.int .i64 (l1.length:Int)] rfl za4 ?_;(with_reducible refine (spec_l1Below.calls g s0_0 s0_1 s0_2 (l1.length:Int) t43001 t43002 t43003 w0 _ za5 za12 A3.out).mono ?_);rintro e w6 ⟨rfl,hi,hb,hk⟩;refine ⟨_,rfl,?_⟩;replace HK:=zk (KeepBut.trans za6 hk (.inl rfl));replace HB:=zk (hb);replace HI0:=zk (hi);(try clear hb);(try clear hb2);(try clear hk);(try clear hi);have p43004:0≤(t43001:Int):=of_decide_eq_true za7;have q43004:t43001 < (l1.length:Int):=of_decide_eq_true za7;obtain ⟨ad43004,e43004,hx43004_0⟩:=Kd.at_string HR1.out t43001 p43004 q43004;cases e43004;replace hx43004_0:=keep_cell HK.out hx43004_0 (by first|(rw [add_block];exact hf1 _ rfl (by omega))|exact hf1 _ rfl (by omega)|exact hf1 ad43004 rfl (by omega));replace p43004:=eq_true p43004;replace q43004:=eq_true q43004))
  go_ret
  exact ⟨za9,za5,za12,za6⟩
 ·rw [if_neg c5] at H
  exact absurd H (by simp)
 ·rw [if_neg c4] at H
  exact absurd H (by simp)
def spec_l1PickInt.f (s0_0:List Int) (s0_1:Int) (s0_2:Int) (l1:List Int):Option (Int × Int × Int):=(spec_l1Below.f s0_0 s0_1 s0_2 (l1.length:Int)).bind fun bt61001=>(if 0≤bt61001.1 then (if bt61001.1 < (l1.length:Int) then (some (rd l1 bt61001.1,bt61001.2.1,bt61001.2.2)) else (none)) else (none))
theorem spec_l1PickInt.calls (g:Nat) (s0_0:List Int) (s0_1:Int) (s0_2:Int) (A1:Option Addr) (c1:Nat) (l1:List Int) (r1:Int) (r2:Int) (r3:Int) (w0 w:World) (hI:IsS69 w0 w g s0_0 s0_1 s0_2) (hB:Below w0.heap.size w0 w) (hr1:Kd.C (Kd.int .i64) w A1 l1.length l1) (hc1:l1.length≤c1) (hf1:∀ ad,A1=some ad→0 < l1.length→ad.block ≠ g) (h:spec_l1PickInt.f s0_0 s0_1 s0_2 l1=some (r1,r2,r3)) :
  Calls Try.prog 61 #[.pointer (some ⟨g,0,none⟩),.slice A1 l1.length c1] w fun e w'=>e = .returned (.int .i64 r1)∧IsS69 w0 w' g s0_0 r2 r3∧Below w0.heap.size w0 w'∧KeepBut w w' g none:=by
 have HR1:=zk hr1
 have HC1:=zk hc1
 clear hr1 hc1
 have HI0:=zk hI
 have HK:=zk (KeepBut.refl w g none)
 have HL:=zk hB.size
 clear hI
 have HW0:=zk hB.size
 have HB:=zk hB
 clear hB
 have H:=h
 unfold spec_l1PickInt.f at H
 clear h
 replace H:=zo H
 obtain ⟨⟨t61001,t61002,t61003⟩,A30,H⟩:=H
 try dsimp only at H
 have A3:=zk A30
 clear A30
 by_cases c4:0≤t61001
 rw [if_pos c4] at H
 have c4b0:=zdle c4
 clear c4
 by_cases c5:t61001 < (l1.length:Int)
 ·rw [if_pos c5] at H
  have c5b0:=zdl c5
  clear c5
  simp only [Option.some.injEq,Prod.mk.injEq] at H
  obtain ⟨rfl,rfl,rfl⟩:=H
  go_enter Try.func61,Try.ntmps61
  go_wp2_with (first|((with_reducible refine gate_callee (f:=42) rfl ?_);refine goesL_ (some 9) rfl rfl Try.func42 (by kernel_rfl) rfl #[.pointer (some ⟨g,0,none⟩),.int .i64 (l1.length:Int)] rfl za4 ?_;(with_reducible refine (spec_l1Below.calls g s0_0 s0_1 s0_2 (l1.length:Int) t61001 t61002 t61003 w0 _ za5 za12 A3.out).mono ?_);rintro e w6 ⟨rfl,hi,hb,hk⟩;refine ⟨_,rfl,?_⟩;replace HK:=zk (KeepBut.trans za6 hk (.inl rfl));replace HB:=zk (hb);replace HI0:=zk (hi);(try clear hb);(try clear hb2);(try clear hk);(try clear hi);have p61004:0≤(t61001:Int):=of_decide_eq_true za7;have q61004:t61001 < (l1.length:Int):=of_decide_eq_true za7;obtain ⟨ad61004,e61004,hx61004_0⟩:=Kd.at_int HR1.out t61001 p61004 q61004;cases e61004;replace hx61004_0:=keep_cell HK.out hx61004_0 (by first|(rw [add_block];exact hf1 _ rfl (by omega))|exact hf1 _ rfl (by omega)|exact hf1 ad61004 rfl (by omega));replace p61004:=eq_true p61004;replace q61004:=eq_true q61004))
  go_ret
  exact ⟨za9,za5,za12,za6⟩
 ·rw [if_neg c5] at H
  exact absurd H (by simp)
 ·rw [if_neg c4] at H
  exact absurd H (by simp)
def spec_l1Once.f (s0_0:List Int) (s0_1:Int) (s0_2:Int) (a1:Int):Option (Bool × Int × Int):=(spec_l1Below.f s0_0 s0_1 s0_2 a1).bind fun bt41001=>(some ((bt41001.1 == 0),bt41001.2.1,bt41001.2.2))
theorem spec_l1Once.calls (g:Nat) (s0_0:List Int) (s0_1:Int) (s0_2:Int) (a1:Int) (r1:Bool) (r2:Int) (r3:Int) (w0 w:World) (hI:IsS69 w0 w g s0_0 s0_1 s0_2) (hB:Below w0.heap.size w0 w) (h:spec_l1Once.f s0_0 s0_1 s0_2 a1=some (r1,r2,r3)) :
  Calls Try.prog 41 #[.pointer (some ⟨g,0,none⟩),.int .i64 a1] w fun e w'=>e = .returned (.bool r1)∧IsS69 w0 w' g s0_0 r2 r3∧Below w0.heap.size w0 w'∧KeepBut w w' g none:=by
 have HI0:=zk hI
 have HK:=zk (KeepBut.refl w g none)
 have HL:=zk hB.size
 clear hI
 have HW0:=zk hB.size
 have HB:=zk hB
 clear hB
 have H:=h
 unfold spec_l1Once.f at H
 clear h
 replace H:=zo H
 obtain ⟨⟨t41001,t41002,t41003⟩,A30,H⟩:=H
 try dsimp only at H
 have A3:=zk A30
 clear A30
 simp only [Option.some.injEq,Prod.mk.injEq] at H
 obtain ⟨rfl,rfl,rfl⟩:=H
 go_enter Try.func41,Try.ntmps41
 go_wp2_with (first|((with_reducible refine gate_callee (f:=42) rfl ?_);refine goesL_ (some 7) rfl rfl Try.func42 (by kernel_rfl) rfl #[.pointer (some ⟨g,0,none⟩),.int .i64 a1] rfl za4 ?_;(with_reducible refine (spec_l1Below.calls g s0_0 s0_1 s0_2 a1 t41001 t41002 t41003 w0 _ za5 za12 A3.out).mono ?_);rintro e w4 ⟨rfl,hi,hb,hk⟩;refine ⟨_,rfl,?_⟩;replace HK:=zk (KeepBut.trans za6 hk (.inl rfl));replace HB:=zk (hb);replace HI0:=zk (hi);(try clear hb);(try clear hb2);(try clear hk);(try clear hi)))
 go_ret
 exact ⟨za9,za5,za12,za6⟩
def spec_l8Draw.l0:Nat→ByteArray→ByteArray→Int→Int→List Int→Int→Int→Option (ByteArray × Int × Int)
 | 0,_,_,_,_,_,_,_=>none
 | k+1,x2,x7,x8,x9,x1000,x1001,x1002=>if x9 < x8 then ((spec_l1Pick.f x1000 x1001 x1002 (([(⟨#[97]⟩:ByteArray),(⟨#[98]⟩:ByteArray),(⟨#[88]⟩:ByteArray),(⟨#[89]⟩:ByteArray),(⟨#[88]⟩:ByteArray),(⟨#[97]⟩:ByteArray),(⟨#[90]⟩:ByteArray)]:List ByteArray))).bind fun bt45007=>(if 0 < (bt45007.1.size:Int) then ((spec_LetterIndex.f k (bt bt45007.1 0)).bind fun t45010=>(if t45010 ≥ 0 then (if x7.size+bt45007.1.size≤9223372036854775807 then (spec_l8Draw.l0 k x2 (x7 ++ bt45007.1) x8 (wrap64 (x9+1)) x1000 bt45007.2.1 bt45007.2.2) else (none)) else ((spec_CountByte.f k x2 (bt bt45007.1 0)).bind fun t45011=>(if t45011 > 0 then ((spec_CountByte.f k x7 (bt bt45007.1 0)).bind fun t45012=>(if t45012 < 2 then (if x7.size+bt45007.1.size≤9223372036854775807 then (spec_l8Draw.l0 k x2 (x7 ++ bt45007.1) x8 (wrap64 (x9+1)) x1000 bt45007.2.1 bt45007.2.2) else (none)) else (spec_l8Draw.l0 k x2 x7 x8 (wrap64 (x9+1)) x1000 bt45007.2.1 bt45007.2.2))) else (spec_l8Draw.l0 k x2 x7 x8 (wrap64 (x9+1)) x1000 bt45007.2.1 bt45007.2.2))))) else (none))) else (some (x7,x1001,x1002))
def spec_l8Draw.f (k:Nat) (s0_0:List Int) (s0_1:Int) (s0_2:Int) (a1:Int) (a2:ByteArray):Option (ByteArray × Int × Int):=(spec_l1Below.f s0_0 s0_1 s0_2 (wrap64 (a1+1))).bind fun bt45001=>(spec_l8Draw.l0 k a2 (⟨#[]⟩:ByteArray) bt45001.1 0 s0_0 bt45001.2.1 bt45001.2.2)
theorem spec_l8Draw.calls (k:Nat) (g:Nat) (s0_0:List Int) (s0_1:Int) (s0_2:Int) (a1:Int) (a2:ByteArray) (r1:ByteArray) (r2:Int) (r3:Int) (w0 w:World) (hI:IsS69 w0 w g s0_0 s0_1 s0_2) (hB:Below w0.heap.size w0 w) (h:spec_l8Draw.f k s0_0 s0_1 s0_2 a1 a2=some (r1,r2,r3)) :
   Calls Try.prog 45 #[.pointer (some ⟨g,0,none⟩),.int .i64 a1,.string a2] w fun e w'=>e = .returned (.string r1)∧IsS69 w0 w' g s0_0 r2 r3∧Below w0.heap.size w0 w'∧KeepBut w w' g none:=by
 have HI0:=zk hI
 have HK:=zk (KeepBut.refl w g none)
 have HL:=zk hB.size
 clear hI
 have HW0:=zk hB.size
 have HB:=zk hB
 clear hB
 have H:=h
 unfold spec_l8Draw.f at H
 clear h
 replace H:=zo H
 obtain ⟨⟨t45001,t45002,t45003⟩,A40,H⟩:=H
 try dsimp only at H
 have A4:=zk A40
 clear A40
 have H':=zk H
 clear H
 go_enter Try.func45,Try.ntmps45
 go_wp2_with (first|((with_reducible refine gate_callee (f:=42) rfl ?_);refine goesL_ (some 14) rfl rfl Try.func42 (by kernel_rfl) rfl #[.pointer (some ⟨g,0,none⟩),.int .i64 (wrap64 (a1+1))] rfl za4 ?_;(with_reducible refine (spec_l1Below.calls g s0_0 s0_1 s0_2 (wrap64 (a1+1)) t45001 t45002 t45003 w0 _ za5 za12 A4.out).mono ?_);rintro e w5 ⟨rfl,hi,hb,hk⟩;refine ⟨_,rfl,?_⟩;replace HK:=zk (KeepBut.trans za6 hk (.inl rfl));replace HB:=zk (hb);replace HI0:=zk (hi);(try clear hb);(try clear hb2);(try clear hk);(try clear hi)))
 try simp only [Act.put,zt,zv,zu]
 go_loopg [7,9] k (fun kq v7 v9 w'=>∃ (x7_1:ByteArray) (x9_1:Int) (x1001_1:Int) (x1002_1:Int),v7 = .string x7_1∧v9 = .int .i64 x9_1∧Aside0 (spec_l8Draw.l0 kq a2 x7_1 t45001 x9_1 s0_0 x1001_1 x1002_1=some (r1,r2,r3))∧Aside0 (kq≤k)∧Aside0 (IsS69 w0 w' g s0_0 x1001_1 x1002_1)∧Aside0 (KeepBut w w' g none)∧Aside0 (Below w0.heap.size w0 w'))
 case atStart=>exact ⟨((⟨#[]⟩:ByteArray)),(0),(t45002),(t45003),za8,za8,H',⟨Nat.le_refl _⟩,⟨za5⟩,⟨za6⟩,⟨za12⟩⟩
 case round =>
  clear H'
  obtain ⟨x7_1,x9_1,x1001_1,x1002_1,rfl,rfl,HA,HK1,HI0,HK,HB⟩:=hrel
  cases gk with
  | zero=>exact absurd HA.out (by simp [spec_l8Draw.l0])
  | succ k1 =>
   have H:=HA.out
   clear HA
   simp only [spec_l8Draw.l0] at H
   by_cases c6:x9_1 < t45001
   rw [if_pos c6] at H
   have c6b0:=zdl c6
   clear c6
   obtain ⟨y45004,hy45004⟩:∃ y_:List ByteArray,y_=(([(⟨#[97]⟩:ByteArray),(⟨#[98]⟩:ByteArray),(⟨#[88]⟩:ByteArray),(⟨#[89]⟩:ByteArray),(⟨#[88]⟩:ByteArray),(⟨#[97]⟩:ByteArray),(⟨#[90]⟩:ByteArray)]:List ByteArray)):=⟨_,rfl⟩
   replace H:((spec_l1Pick.f s0_0 x1001_1 x1002_1 y45004).bind fun bt45007=>(if 0 < (bt45007.1.size:Int) then ((spec_LetterIndex.f k1 (bt bt45007.1 0)).bind fun t45010=>(if t45010 ≥ 0 then (if x7_1.size+bt45007.1.size≤9223372036854775807 then (spec_l8Draw.l0 k1 a2 (x7_1 ++ bt45007.1) t45001 (wrap64 (x9_1+1)) s0_0 bt45007.2.1 bt45007.2.2) else (none)) else ((spec_CountByte.f k1 a2 (bt bt45007.1 0)).bind fun t45011=>(if t45011 > 0 then ((spec_CountByte.f k1 x7_1 (bt bt45007.1 0)).bind fun t45012=>(if t45012 < 2 then (if x7_1.size+bt45007.1.size≤9223372036854775807 then (spec_l8Draw.l0 k1 a2 (x7_1 ++ bt45007.1) t45001 (wrap64 (x9_1+1)) s0_0 bt45007.2.1 bt45007.2.2) else (none)) else (spec_l8Draw.l0 k1 a2 x7_1 t45001 (wrap64 (x9_1+1)) s0_0 bt45007.2.1 bt45007.2.2))) else (spec_l8Draw.l0 k1 a2 x7_1 t45001 (wrap64 (x9_1+1)) s0_0 bt45007.2.1 bt45007.2.2))))) else (none)))=some (r1,r2,r3):=by first|(rw [hy45004];with_reducible exact H)|(have H2_:=(Option.bind_some _ _).symm.trans H;rw [hy45004];with_reducible exact H2_)|(have H2_:=(Option.bind_some _ _).symm.trans H;with_reducible exact H2_)|with_reducible exact H|(rw [hy45004];exact H)|exact H
   have Ny45004:=zk hy45004
   clear hy45004
   replace H:=zo H
   obtain ⟨⟨t45007,t45008,t45009⟩,A70,H⟩:=H
   try dsimp only at H
   have A7:=zk A70
   clear A70
   by_cases c8:0 < (t45007.size:Int)
   rw [if_pos c8] at H
   have c8b0:=zdl c8
   have c8b1:decide (0 < t45007.size)=true:=decide_eq_true (by omega)
   clear c8
   replace H:=zo H
   obtain ⟨t45010,A100,H⟩:=H
   try dsimp only at H
   have A10:=zk A100
   clear A100
   by_cases c11:t45010 ≥ 0
   rw [if_pos c11] at H
   have c11b0:=zdle c11
   clear c11
   by_cases c12:x7_1.size+t45007.size≤9223372036854775807
   ·rw [if_pos c12] at H
    have c12z:=c12
    try simp at c12z
    try replace c12z:=eq_false (Nat.not_lt.2 c12z)
    have c12b0:=eq_true c12
    have c12b1:=zdle c12
    try have c12b2:(9223372036854775807 < x7_1.size+t45007.size)=False:=eq_false (Nat.not_lt.2 c12)
    have H':=zk H
    clear H
    go_wp2_with (first|((with_reducible refine gate_dst (N:=21) rfl ?_);refine Kd.R_lit Kd.string _ 9 ?hg (N:=21) ?hd (xs:=([(⟨#[97]⟩:ByteArray),(⟨#[98]⟩:ByteArray),(⟨#[88]⟩:ByteArray),(⟨#[89]⟩:ByteArray),(⟨#[88]⟩:ByteArray),(⟨#[97]⟩:ByteArray),(⟨#[90]⟩:ByteArray)]:List ByteArray)) (inner:=[.string (⟨#[97]⟩:ByteArray),.string (⟨#[98]⟩:ByteArray),.string (⟨#[88]⟩:ByteArray),.string (⟨#[89]⟩:ByteArray),.string (⟨#[88]⟩:ByteArray),.string (⟨#[97]⟩:ByteArray),.string (⟨#[90]⟩:ByteArray)]) (ok:=fun _=>True) (okp:=fun _=>True) ?hr ?hp (fun _ hk=>hk) trivial (Below.refl _ _) (Nat.le_refl _) (by simp) ?_;(case hd=>rfl);(case hg=>rfl);(case hr=>first|(go_simp;done)|(go_simp;rfl));(case hp=>exact (Reps.one (show Kd.M Kd.string _ _ _ (⟨#[97]⟩:ByteArray) [.string (⟨#[97]⟩:ByteArray)] from rfl) (Reps.one (show Kd.M Kd.string _ _ _ (⟨#[98]⟩:ByteArray) [.string (⟨#[98]⟩:ByteArray)] from rfl) (Reps.one (show Kd.M Kd.string _ _ _ (⟨#[88]⟩:ByteArray) [.string (⟨#[88]⟩:ByteArray)] from rfl) (Reps.one (show Kd.M Kd.string _ _ _ (⟨#[89]⟩:ByteArray) [.string (⟨#[89]⟩:ByteArray)] from rfl) (Reps.one (show Kd.M Kd.string _ _ _ (⟨#[88]⟩:ByteArray) [.string (⟨#[88]⟩:ByteArray)] from rfl) (Reps.one (show Kd.M Kd.string _ _ _ (⟨#[97]⟩:ByteArray) [.string (⟨#[97]⟩:ByteArray)] from rfl) (Reps.one (show Kd.M Kd.string _ _ _ (⟨#[90]⟩:ByteArray) [.string (⟨#[90]⟩:ByteArray)] from rfl) (Reps.none _ _)))))))));intro v45005 w13 ho14 hb hg_ hnew_;clear hg_ hnew_;(first|rw [← Ny45004.out] at ho14|(simp only [Int.reduceToNat] at ho14;rw [← Ny45004.out] at ho14));have HO45006:=zk (Kd.R_lower ho14 (keep_size (w:=w) (g:=g) (row:=none) za6));replace HB:=zk (below_step za12 hb);replace HI0:=zk (IsS69.below za5 hb);replace HK:=zk (KeepBut.trans za6 (KeepBut.of_below hb g none) (.inl rfl));clear hb ho14;obtain ⟨Ao15,co15,eo15⟩:=Kd.R_slice HO45006.out;subst eo15)|((with_reducible refine gate_callee (f:=43) rfl ?_);refine goesL_ (some 22) rfl rfl Try.func43 (by kernel_rfl) rfl #[.pointer (some ⟨g,0,none⟩),.slice Ao15 y45004.length co15] rfl za4 ?_;(with_reducible refine (spec_l1Pick.calls g s0_0 x1001_1 x1002_1 _ _ y45004 t45007 t45008 t45009 w0 _ za5 za12 ?side3 ?side4 ?side5 A7.out).mono ?_);(case side3=>repeat (first|exact (Kd.R_reads' HO45006.out).2.2|(with_reducible refine Kd.C_alloc ?_ _)|(with_reducible refine Kd.C_drewN ?_ _)|(with_reducible refine Kd.C_drew ?_)));(case side4=>exact (Kd.R_reads' HO45006.out).2.1);(case side5=>exact far_slice (IsS69.own_ne HI0.out HO45006.out (by decide)));rintro e w16 ⟨rfl,hi,hb,hk⟩;refine ⟨_,rfl,?_⟩;replace HO45006:=zk (Kd.R_mono (Kd.R_keep (IsS69.apart (show IsS69 w0 _ g s0_0 x1001_1 x1002_1 from za5) (za0 HO45006.out) (by decide)) hk (fun _ h=>h.2)) (fun _ h=>h.1));replace HK:=zk (KeepBut.trans za6 hk (.inl rfl));replace HB:=zk (hb);replace HI0:=zk (hi);(try clear hb);(try clear hb2);(try clear hk);(try clear hi);have p9:0≤(0:Int):=(by omega);have q9:0 < t45007.size:=(by have:(0:Int) < (t45007.size:Int):=of_decide_eq_true za7;omega);have hx9:∀ h:0 < t45007.size,((t45007[0]'h).toNat:Int)=bt t45007 0:=bt_at t45007 0;clear p9;have qi9:(0 < (t45007.size:Int))=True:=eq_true (of_decide_eq_true za7);replace q9:=eq_true q9)|((with_reducible refine gate_callee (f:=48) rfl ?_);refine goesL_ (some 25) rfl rfl Try.func48 (by kernel_rfl) rfl #[.int .u8 (bt t45007 0)] rfl za4 ?_;(with_reducible refine (spec_LetterIndex.calls k1 (bt t45007 0) t45010 _ A10.out).mono ?_);rintro e w' ⟨rfl,⟨nd,rfl⟩⟩;refine ⟨_,rfl,?_⟩))
    go_roundg k1
    case measure=>have:=HK1.out;omega
    case rel=>exact ⟨(x7_1 ++ t45007),(wrap64 (x9_1+1)),(t45008),(t45009),za8,za8,H',⟨za60⟩,⟨za5⟩,⟨za6⟩,⟨za12⟩⟩
   ·rw [if_neg c12] at H
    exact absurd H (by simp)
   rw [if_neg c11] at H
   have c11b0:=zdnle c11
   clear c11
   replace H:=zo H
   obtain ⟨t45011,A180,H⟩:=H
   try dsimp only at H
   have A18:=zk A180
   clear A180
   by_cases c19:t45011 > 0
   rw [if_pos c19] at H
   have c19b0:=zdl c19
   clear c19
   replace H:=zo H
   obtain ⟨t45012,A210,H⟩:=H
   try dsimp only at H
   have A21:=zk A210
   clear A210
   by_cases c22:t45012 < 2
   rw [if_pos c22] at H
   have c22b0:=zdl c22
   clear c22
   by_cases c23:x7_1.size+t45007.size≤9223372036854775807
   ·rw [if_pos c23] at H
    have c23z:=c23
    try simp at c23z
    try replace c23z:=eq_false (Nat.not_lt.2 c23z)
    have c23b0:=eq_true c23
    have c23b1:=zdle c23
    try have c23b2:(9223372036854775807 < x7_1.size+t45007.size)=False:=eq_false (Nat.not_lt.2 c23)
    have H':=zk H
    clear H
    go_wp2_with (first|((with_reducible refine gate_dst (N:=21) rfl ?_);refine Kd.R_lit Kd.string _ 9 ?hg (N:=21) ?hd (xs:=([(⟨#[97]⟩:ByteArray),(⟨#[98]⟩:ByteArray),(⟨#[88]⟩:ByteArray),(⟨#[89]⟩:ByteArray),(⟨#[88]⟩:ByteArray),(⟨#[97]⟩:ByteArray),(⟨#[90]⟩:ByteArray)]:List ByteArray)) (inner:=[.string (⟨#[97]⟩:ByteArray),.string (⟨#[98]⟩:ByteArray),.string (⟨#[88]⟩:ByteArray),.string (⟨#[89]⟩:ByteArray),.string (⟨#[88]⟩:ByteArray),.string (⟨#[97]⟩:ByteArray),.string (⟨#[90]⟩:ByteArray)]) (ok:=fun _=>True) (okp:=fun _=>True) ?hr ?hp (fun _ hk=>hk) trivial (Below.refl _ _) (Nat.le_refl _) (by simp) ?_;(case hd=>rfl);(case hg=>rfl);(case hr=>first|(go_simp;done)|(go_simp;rfl));(case hp=>exact (Reps.one (show Kd.M Kd.string _ _ _ (⟨#[97]⟩:ByteArray) [.string (⟨#[97]⟩:ByteArray)] from rfl) (Reps.one (show Kd.M Kd.string _ _ _ (⟨#[98]⟩:ByteArray) [.string (⟨#[98]⟩:ByteArray)] from rfl) (Reps.one (show Kd.M Kd.string _ _ _ (⟨#[88]⟩:ByteArray) [.string (⟨#[88]⟩:ByteArray)] from rfl) (Reps.one (show Kd.M Kd.string _ _ _ (⟨#[89]⟩:ByteArray) [.string (⟨#[89]⟩:ByteArray)] from rfl) (Reps.one (show Kd.M Kd.string _ _ _ (⟨#[88]⟩:ByteArray) [.string (⟨#[88]⟩:ByteArray)] from rfl) (Reps.one (show Kd.M Kd.string _ _ _ (⟨#[97]⟩:ByteArray) [.string (⟨#[97]⟩:ByteArray)] from rfl) (Reps.one (show Kd.M Kd.string _ _ _ (⟨#[90]⟩:ByteArray) [.string (⟨#[90]⟩:ByteArray)] from rfl) (Reps.none _ _)))))))));intro v45005 w24 ho25 hb hg_ hnew_;clear hg_ hnew_;(first|rw [← Ny45004.out] at ho25|(simp only [Int.reduceToNat] at ho25;rw [← Ny45004.out] at ho25));have HO45006:=zk (Kd.R_lower ho25 (keep_size (w:=w) (g:=g) (row:=none) za6));replace HB:=zk (below_step za12 hb);replace HI0:=zk (IsS69.below za5 hb);replace HK:=zk (KeepBut.trans za6 (KeepBut.of_below hb g none) (.inl rfl));clear hb ho25;obtain ⟨Ao26,co26,eo26⟩:=Kd.R_slice HO45006.out;subst eo26)|((with_reducible refine gate_callee (f:=43) rfl ?_);refine goesL_ (some 22) rfl rfl Try.func43 (by kernel_rfl) rfl #[.pointer (some ⟨g,0,none⟩),.slice Ao26 y45004.length co26] rfl za4 ?_;(with_reducible refine (spec_l1Pick.calls g s0_0 x1001_1 x1002_1 _ _ y45004 t45007 t45008 t45009 w0 _ za5 za12 ?side3 ?side4 ?side5 A7.out).mono ?_);(case side3=>repeat (first|exact (Kd.R_reads' HO45006.out).2.2|(with_reducible refine Kd.C_alloc ?_ _)|(with_reducible refine Kd.C_drewN ?_ _)|(with_reducible refine Kd.C_drew ?_)));(case side4=>exact (Kd.R_reads' HO45006.out).2.1);(case side5=>exact far_slice (IsS69.own_ne HI0.out HO45006.out (by decide)));rintro e w27 ⟨rfl,hi,hb,hk⟩;refine ⟨_,rfl,?_⟩;replace HO45006:=zk (Kd.R_mono (Kd.R_keep (IsS69.apart (show IsS69 w0 _ g s0_0 x1001_1 x1002_1 from za5) (za0 HO45006.out) (by decide)) hk (fun _ h=>h.2)) (fun _ h=>h.1));replace HK:=zk (KeepBut.trans za6 hk (.inl rfl));replace HB:=zk (hb);replace HI0:=zk (hi);(try clear hb);(try clear hb2);(try clear hk);(try clear hi);have p9:0≤(0:Int):=(by omega);have q9:0 < t45007.size:=(by have:(0:Int) < (t45007.size:Int):=of_decide_eq_true za7;omega);have hx9:∀ h:0 < t45007.size,((t45007[0]'h).toNat:Int)=bt t45007 0:=bt_at t45007 0;clear p9;have qi9:(0 < (t45007.size:Int))=True:=eq_true (of_decide_eq_true za7);replace q9:=eq_true q9)|((with_reducible refine gate_callee (f:=48) rfl ?_);refine goesL_ (some 25) rfl rfl Try.func48 (by kernel_rfl) rfl #[.int .u8 (bt t45007 0)] rfl za4 ?_;(with_reducible refine (spec_LetterIndex.calls k1 (bt t45007 0) t45010 _ A10.out).mono ?_);rintro e w' ⟨rfl,⟨nd,rfl⟩⟩;refine ⟨_,rfl,?_⟩;have p17:0≤(0:Int):=(by omega);have q17:0 < t45007.size:=(by have:(0:Int) < (t45007.size:Int):=of_decide_eq_true za7;omega);have hx17:∀ h:0 < t45007.size,((t45007[0]'h).toNat:Int)=bt t45007 0:=bt_at t45007 0;clear p17;have qi17:(0 < (t45007.size:Int))=True:=eq_true (of_decide_eq_true za7);replace q17:=eq_true q17)|(go_at_call 18;(with_reducible refine (spec_CountByte.calls k1 a2 (bt t45007 0) t45011 _ A18.out).mono ?_);rintro e w' ⟨rfl,⟨nd,rfl⟩⟩;have p20:0≤(0:Int):=(by omega);have q20:0 < t45007.size:=(by have:(0:Int) < (t45007.size:Int):=of_decide_eq_true za7;omega);have hx20:∀ h:0 < t45007.size,((t45007[0]'h).toNat:Int)=bt t45007 0:=bt_at t45007 0;clear p20;have qi20:(0 < (t45007.size:Int))=True:=eq_true (of_decide_eq_true za7);replace q20:=eq_true q20)|(go_at_call 18;(with_reducible refine (spec_CountByte.calls k1 x7_1 (bt t45007 0) t45012 _ A21.out).mono ?_);rintro e w' ⟨rfl,⟨nd,rfl⟩⟩))
    go_roundg k1
    case measure=>have:=HK1.out;omega
    case rel=>exact ⟨(x7_1 ++ t45007),(wrap64 (x9_1+1)),(t45008),(t45009),za8,za8,H',⟨za60⟩,⟨za5⟩,⟨za6⟩,⟨za12⟩⟩
   ·rw [if_neg c23] at H
    exact absurd H (by simp)
   ·rw [if_neg c22] at H
    have c22b0:=zdnl c22
    clear c22
    have H':=zk H
    clear H
    go_wp2_with (first|((with_reducible refine gate_dst (N:=21) rfl ?_);refine Kd.R_lit Kd.string _ 9 ?hg (N:=21) ?hd (xs:=([(⟨#[97]⟩:ByteArray),(⟨#[98]⟩:ByteArray),(⟨#[88]⟩:ByteArray),(⟨#[89]⟩:ByteArray),(⟨#[88]⟩:ByteArray),(⟨#[97]⟩:ByteArray),(⟨#[90]⟩:ByteArray)]:List ByteArray)) (inner:=[.string (⟨#[97]⟩:ByteArray),.string (⟨#[98]⟩:ByteArray),.string (⟨#[88]⟩:ByteArray),.string (⟨#[89]⟩:ByteArray),.string (⟨#[88]⟩:ByteArray),.string (⟨#[97]⟩:ByteArray),.string (⟨#[90]⟩:ByteArray)]) (ok:=fun _=>True) (okp:=fun _=>True) ?hr ?hp (fun _ hk=>hk) trivial (Below.refl _ _) (Nat.le_refl _) (by simp) ?_;(case hd=>rfl);(case hg=>rfl);(case hr=>first|(go_simp;done)|(go_simp;rfl));(case hp=>exact (Reps.one (show Kd.M Kd.string _ _ _ (⟨#[97]⟩:ByteArray) [.string (⟨#[97]⟩:ByteArray)] from rfl) (Reps.one (show Kd.M Kd.string _ _ _ (⟨#[98]⟩:ByteArray) [.string (⟨#[98]⟩:ByteArray)] from rfl) (Reps.one (show Kd.M Kd.string _ _ _ (⟨#[88]⟩:ByteArray) [.string (⟨#[88]⟩:ByteArray)] from rfl) (Reps.one (show Kd.M Kd.string _ _ _ (⟨#[89]⟩:ByteArray) [.string (⟨#[89]⟩:ByteArray)] from rfl) (Reps.one (show Kd.M Kd.string _ _ _ (⟨#[88]⟩:ByteArray) [.string (⟨#[88]⟩:ByteArray)] from rfl) (Reps.one (show Kd.M Kd.string _ _ _ (⟨#[97]⟩:ByteArray) [.string (⟨#[97]⟩:ByteArray)] from rfl) (Reps.one (show Kd.M Kd.string _ _ _ (⟨#[90]⟩:ByteArray) [.string (⟨#[90]⟩:ByteArray)] from rfl) (Reps.none _ _)))))))));intro v45005 w28 ho29 hb hg_ hnew_;clear hg_ hnew_;(first|rw [← Ny45004.out] at ho29|(simp only [Int.reduceToNat] at ho29;rw [← Ny45004.out] at ho29));have HO45006:=zk (Kd.R_lower ho29 (keep_size (w:=w) (g:=g) (row:=none) za6));replace HB:=zk (below_step za12 hb);replace HI0:=zk (IsS69.below za5 hb);replace HK:=zk (KeepBut.trans za6 (KeepBut.of_below hb g none) (.inl rfl));clear hb ho29;obtain ⟨Ao30,co30,eo30⟩:=Kd.R_slice HO45006.out;subst eo30)|((with_reducible refine gate_callee (f:=43) rfl ?_);refine goesL_ (some 22) rfl rfl Try.func43 (by kernel_rfl) rfl #[.pointer (some ⟨g,0,none⟩),.slice Ao30 y45004.length co30] rfl za4 ?_;(with_reducible refine (spec_l1Pick.calls g s0_0 x1001_1 x1002_1 _ _ y45004 t45007 t45008 t45009 w0 _ za5 za12 ?side3 ?side4 ?side5 A7.out).mono ?_);(case side3=>repeat (first|exact (Kd.R_reads' HO45006.out).2.2|(with_reducible refine Kd.C_alloc ?_ _)|(with_reducible refine Kd.C_drewN ?_ _)|(with_reducible refine Kd.C_drew ?_)));(case side4=>exact (Kd.R_reads' HO45006.out).2.1);(case side5=>exact far_slice (IsS69.own_ne HI0.out HO45006.out (by decide)));rintro e w31 ⟨rfl,hi,hb,hk⟩;refine ⟨_,rfl,?_⟩;replace HO45006:=zk (Kd.R_mono (Kd.R_keep (IsS69.apart (show IsS69 w0 _ g s0_0 x1001_1 x1002_1 from za5) (za0 HO45006.out) (by decide)) hk (fun _ h=>h.2)) (fun _ h=>h.1));replace HK:=zk (KeepBut.trans za6 hk (.inl rfl));replace HB:=zk (hb);replace HI0:=zk (hi);(try clear hb);(try clear hb2);(try clear hk);(try clear hi);have p9:0≤(0:Int):=(by omega);have q9:0 < t45007.size:=(by have:(0:Int) < (t45007.size:Int):=of_decide_eq_true za7;omega);have hx9:∀ h:0 < t45007.size,((t45007[0]'h).toNat:Int)=bt t45007 0:=bt_at t45007 0;clear p9;have qi9:(0 < (t45007.size:Int))=True:=eq_true (of_decide_eq_true za7);replace q9:=eq_true q9)|((with_reducible refine gate_callee (f:=48) rfl ?_);refine goesL_ (some 25) rfl rfl Try.func48 (by kernel_rfl) rfl #[.int .u8 (bt t45007 0)] rfl za4 ?_;(with_reducible refine (spec_LetterIndex.calls k1 (bt t45007 0) t45010 _ A10.out).mono ?_);rintro e w' ⟨rfl,⟨nd,rfl⟩⟩;refine ⟨_,rfl,?_⟩;have p17:0≤(0:Int):=(by omega);have q17:0 < t45007.size:=(by have:(0:Int) < (t45007.size:Int):=of_decide_eq_true za7;omega);have hx17:∀ h:0 < t45007.size,((t45007[0]'h).toNat:Int)=bt t45007 0:=bt_at t45007 0;clear p17;have qi17:(0 < (t45007.size:Int))=True:=eq_true (of_decide_eq_true za7);replace q17:=eq_true q17)|(go_at_call 18;(with_reducible refine (spec_CountByte.calls k1 a2 (bt t45007 0) t45011 _ A18.out).mono ?_);rintro e w' ⟨rfl,⟨nd,rfl⟩⟩;have p20:0≤(0:Int):=(by omega);have q20:0 < t45007.size:=(by have:(0:Int) < (t45007.size:Int):=of_decide_eq_true za7;omega);have hx20:∀ h:0 < t45007.size,((t45007[0]'h).toNat:Int)=bt t45007 0:=bt_at t45007 0;clear p20;have qi20:(0 < (t45007.size:Int))=True:=eq_true (of_decide_eq_true za7);replace q20:=eq_true q20)|(go_at_call 18;(with_reducible refine (spec_CountByte.calls k1 x7_1 (bt t45007 0) t45012 _ A21.out).mono ?_);rintro e w' ⟨rfl,⟨nd,rfl⟩⟩))
    go_roundg k1
    case measure=>have:=HK1.out;omega
    case rel=>exact ⟨(x7_1),(wrap64 (x9_1+1)),(t45008),(t45009),za8,za8,H',⟨za60⟩,⟨za5⟩,⟨za6⟩,⟨za12⟩⟩
   ·rw [if_neg c19] at H
    have c19b0:=zdnl c19
    clear c19
    have H':=zk H
    clear H
    go_wp2_with (first|((with_reducible refine gate_dst (N:=21) rfl ?_);refine Kd.R_lit Kd.string _ 9 ?hg (N:=21) ?hd (xs:=([(⟨#[97]⟩:ByteArray),(⟨#[98]⟩:ByteArray),(⟨#[88]⟩:ByteArray),(⟨#[89]⟩:ByteArray),(⟨#[88]⟩:ByteArray),(⟨#[97]⟩:ByteArray),(⟨#[90]⟩:ByteArray)]:List ByteArray)) (inner:=[.string (⟨#[97]⟩:ByteArray),.string (⟨#[98]⟩:ByteArray),.string (⟨#[88]⟩:ByteArray),.string (⟨#[89]⟩:ByteArray),.string (⟨#[88]⟩:ByteArray),.string (⟨#[97]⟩:ByteArray),.string (⟨#[90]⟩:ByteArray)]) (ok:=fun _=>True) (okp:=fun _=>True) ?hr ?hp (fun _ hk=>hk) trivial (Below.refl _ _) (Nat.le_refl _) (by simp) ?_;(case hd=>rfl);(case hg=>rfl);(case hr=>first|(go_simp;done)|(go_simp;rfl));(case hp=>exact (Reps.one (show Kd.M Kd.string _ _ _ (⟨#[97]⟩:ByteArray) [.string (⟨#[97]⟩:ByteArray)] from rfl) (Reps.one (show Kd.M Kd.string _ _ _ (⟨#[98]⟩:ByteArray) [.string (⟨#[98]⟩:ByteArray)] from rfl) (Reps.one (show Kd.M Kd.string _ _ _ (⟨#[88]⟩:ByteArray) [.string (⟨#[88]⟩:ByteArray)] from rfl) (Reps.one (show Kd.M Kd.string _ _ _ (⟨#[89]⟩:ByteArray) [.string (⟨#[89]⟩:ByteArray)] from rfl) (Reps.one (show Kd.M Kd.string _ _ _ (⟨#[88]⟩:ByteArray) [.string (⟨#[88]⟩:ByteArray)] from rfl) (Reps.one (show Kd.M Kd.string _ _ _ (⟨#[97]⟩:ByteArray) [.string (⟨#[97]⟩:ByteArray)] from rfl) (Reps.one (show Kd.M Kd.string _ _ _ (⟨#[90]⟩:ByteArray) [.string (⟨#[90]⟩:ByteArray)] from rfl) (Reps.none _ _)))))))));intro v45005 w32 ho33 hb hg_ hnew_;clear hg_ hnew_;(first|rw [← Ny45004.out] at ho33|(simp only [Int.reduceToNat] at ho33;rw [← Ny45004.out] at ho33));have HO45006:=zk (Kd.R_lower ho33 (keep_size (w:=w) (g:=g) (row:=none) za6));replace HB:=zk (below_step za12 hb);replace HI0:=zk (IsS69.below za5 hb);replace HK:=zk (KeepBut.trans za6 (KeepBut.of_below hb g none) (.inl rfl));clear hb ho33;obtain ⟨Ao34,co34,eo34⟩:=Kd.R_slice HO45006.out;subst eo34)|((with_reducible refine gate_callee (f:=43) rfl ?_);refine goesL_ (some 22) rfl rfl Try.func43 (by kernel_rfl) rfl #[.pointer (some ⟨g,0,none⟩),.slice Ao34 y45004.length co34] rfl za4 ?_;(with_reducible refine (spec_l1Pick.calls g s0_0 x1001_1 x1002_1 _ _ y45004 t45007 t45008 t45009 w0 _ za5 za12 ?side3 ?side4 ?side5 A7.out).mono ?_);(case side3=>repeat (first|exact (Kd.R_reads' HO45006.out).2.2|(with_reducible refine Kd.C_alloc ?_ _)|(with_reducible refine Kd.C_drewN ?_ _)|(with_reducible refine Kd.C_drew ?_)));(case side4=>exact (Kd.R_reads' HO45006.out).2.1);(case side5=>exact far_slice (IsS69.own_ne HI0.out HO45006.out (by decide)));rintro e w35 ⟨rfl,hi,hb,hk⟩;refine ⟨_,rfl,?_⟩;replace HO45006:=zk (Kd.R_mono (Kd.R_keep (IsS69.apart (show IsS69 w0 _ g s0_0 x1001_1 x1002_1 from za5) (za0 HO45006.out) (by decide)) hk (fun _ h=>h.2)) (fun _ h=>h.1));replace HK:=zk (KeepBut.trans za6 hk (.inl rfl));replace HB:=zk (hb);replace HI0:=zk (hi);(try clear hb);(try clear hb2);(try clear hk);(try clear hi);have p9:0≤(0:Int):=(by omega);have q9:0 < t45007.size:=(by have:(0:Int) < (t45007.size:Int):=of_decide_eq_true za7;omega);have hx9:∀ h:0 < t45007.size,((t45007[0]'h).toNat:Int)=bt t45007 0:=bt_at t45007 0;clear p9;have qi9:(0 < (t45007.size:Int))=True:=eq_true (of_decide_eq_true za7);replace q9:=eq_true q9)|((with_reducible refine gate_callee (f:=48) rfl ?_);refine goesL_ (some 25) rfl rfl Try.func48 (by kernel_rfl) rfl #[.int .u8 (bt t45007 0)] rfl za4 ?_;(with_reducible refine (spec_LetterIndex.calls k1 (bt t45007 0) t45010 _ A10.out).mono ?_);rintro e w' ⟨rfl,⟨nd,rfl⟩⟩;refine ⟨_,rfl,?_⟩;have p17:0≤(0:Int):=(by omega);have q17:0 < t45007.size:=(by have:(0:Int) < (t45007.size:Int):=of_decide_eq_true za7;omega);have hx17:∀ h:0 < t45007.size,((t45007[0]'h).toNat:Int)=bt t45007 0:=bt_at t45007 0;clear p17;have qi17:(0 < (t45007.size:Int))=True:=eq_true (of_decide_eq_true za7);replace q17:=eq_true q17)|(go_at_call 18;(with_reducible refine (spec_CountByte.calls k1 a2 (bt t45007 0) t45011 _ A18.out).mono ?_);rintro e w' ⟨rfl,⟨nd,rfl⟩⟩))
    go_roundg k1
    case measure=>have:=HK1.out;omega
    case rel=>exact ⟨(x7_1),(wrap64 (x9_1+1)),(t45008),(t45009),za8,za8,H',⟨za60⟩,⟨za5⟩,⟨za6⟩,⟨za12⟩⟩
   ·rw [if_neg c8] at H
    exact absurd H (by simp)
   ·rw [if_neg c6] at H
    have c6b0:=zdnl c6
    clear c6
    simp only [Option.some.injEq,Prod.mk.injEq] at H
    obtain ⟨rfl,rfl,rfl⟩:=H
    go_wp2
    go_ret
    exact ⟨za9,za5,za12,za6⟩
def spec_l8Any.f (k:Nat) (s0_0:List Int) (s0_1:Int) (s0_2:Int):Option (ByteArray × Int × Int):=(spec_l8Draw.f k s0_0 s0_1 s0_2 6 (⟨#[88,89,90]⟩:ByteArray)).bind fun bt46001=>((spec_l1Pick.f s0_0 bt46001.2.1 bt46001.2.2 (([(⟨#[]⟩:ByteArray),(⟨#[97,88,98]⟩:ByteArray),(⟨#[88,88]⟩:ByteArray),(⟨#[87]⟩:ByteArray),(⟨#[90,89,88]⟩:ByteArray),(⟨#[97,97,97,97,97,97,97,97,97,97,97,97]⟩:ByteArray),(⟨#[97,97,97,97,97,97,97,97,97,97,97,97,88]⟩:ByteArray),(⟨#[120]⟩:ByteArray),bt46001.1]:List ByteArray))).bind fun bt46007=>(some (bt46007.1,bt46007.2.1,bt46007.2.2)))
theorem spec_l8Any.calls (k:Nat) (g:Nat) (s0_0:List Int) (s0_1:Int) (s0_2:Int) (r1:ByteArray) (r2:Int) (r3:Int) (w0 w:World) (hI:IsS69 w0 w g s0_0 s0_1 s0_2) (hB:Below w0.heap.size w0 w) (h:spec_l8Any.f k s0_0 s0_1 s0_2=some (r1,r2,r3)) :
  Calls Try.prog 46 #[.pointer (some ⟨g,0,none⟩)] w fun e w'=>e = .returned (.string r1)∧IsS69 w0 w' g s0_0 r2 r3∧Below w0.heap.size w0 w'∧KeepBut w w' g none:=by
 have HI0:=zk hI
 have HK:=zk (KeepBut.refl w g none)
 have HL:=zk hB.size
 clear hI
 have HW0:=zk hB.size
 have HB:=zk hB
 clear hB
 have H:=h
 unfold spec_l8Any.f at H
 clear h
 replace H:=zo H
 obtain ⟨⟨t46001,t46002,t46003⟩,A20,H⟩:=H
 try dsimp only at H
 have A2:=zk A20
 clear A20
 obtain ⟨y46004,hy46004⟩:∃ y_:List ByteArray,y_=(([(⟨#[]⟩:ByteArray),(⟨#[97,88,98]⟩:ByteArray),(⟨#[88,88]⟩:ByteArray),(⟨#[87]⟩:ByteArray),(⟨#[90,89,88]⟩:ByteArray),(⟨#[97,97,97,97,97,97,97,97,97,97,97,97]⟩:ByteArray),(⟨#[97,97,97,97,97,97,97,97,97,97,97,97,88]⟩:ByteArray),(⟨#[120]⟩:ByteArray),t46001]:List ByteArray)):=⟨_,rfl⟩
 replace H:((spec_l1Pick.f s0_0 t46002 t46003 y46004).bind fun bt46007=>(some (bt46007.1,bt46007.2.1,bt46007.2.2)))=some (r1,r2,r3):=by first|(rw [hy46004];with_reducible exact H)|(have H2_:=(Option.bind_some _ _).symm.trans H;rw [hy46004];with_reducible exact H2_)|(have H2_:=(Option.bind_some _ _).symm.trans H;with_reducible exact H2_)|with_reducible exact H|(rw [hy46004];exact H)|exact H
 have Ny46004:=zk hy46004
 clear hy46004
 replace H:=zo H
 obtain ⟨⟨t46007,t46008,t46009⟩,A30,H⟩:=H
 try dsimp only at H
 have A3:=zk A30
 clear A30
 simp only [Option.some.injEq,Prod.mk.injEq] at H
 obtain ⟨rfl,rfl,rfl⟩:=H
 go_enter Try.func46,Try.ntmps46
 go_wp2_with (first|((with_reducible refine gate_callee (f:=45) rfl ?_);refine goesL_ (some 5) rfl rfl Try.func45 (by kernel_rfl) rfl #[.pointer (some ⟨g,0,none⟩),.int .i64 6,.string (⟨#[88,89,90]⟩:ByteArray)] rfl za4 ?_;(with_reducible refine (spec_l8Draw.calls k g s0_0 s0_1 s0_2 6 (⟨#[88,89,90]⟩:ByteArray) t46001 t46002 t46003 w0 _ za5 za12 A2.out).mono ?_);rintro e w4 ⟨rfl,hi,hb,hk⟩;refine ⟨_,rfl,?_⟩;replace HK:=zk (KeepBut.trans za6 hk (.inl rfl));replace HB:=zk (hb);replace HI0:=zk (hi);(try clear hb);(try clear hb2);(try clear hk);(try clear hi))|((with_reducible refine gate_dst (N:=6) rfl ?_);refine Kd.R_lit Kd.string _ 9 ?hg (N:=6) ?hd (xs:=([(⟨#[]⟩:ByteArray),(⟨#[97,88,98]⟩:ByteArray),(⟨#[88,88]⟩:ByteArray),(⟨#[87]⟩:ByteArray),(⟨#[90,89,88]⟩:ByteArray),(⟨#[97,97,97,97,97,97,97,97,97,97,97,97]⟩:ByteArray),(⟨#[97,97,97,97,97,97,97,97,97,97,97,97,88]⟩:ByteArray),(⟨#[120]⟩:ByteArray),t46001]:List ByteArray)) (inner:=[.string (⟨#[]⟩:ByteArray),.string (⟨#[97,88,98]⟩:ByteArray),.string (⟨#[88,88]⟩:ByteArray),.string (⟨#[87]⟩:ByteArray),.string (⟨#[90,89,88]⟩:ByteArray),.string (⟨#[97,97,97,97,97,97,97,97,97,97,97,97]⟩:ByteArray),.string (⟨#[97,97,97,97,97,97,97,97,97,97,97,97,88]⟩:ByteArray),.string (⟨#[120]⟩:ByteArray),.string t46001]) (ok:=fun _=>True) (okp:=fun _=>True) ?hr ?hp (fun _ hk=>hk) trivial (Below.refl _ _) (Nat.le_refl _) (by simp) ?_;(case hd=>rfl);(case hg=>rfl);(case hr=>first|(go_simp;done)|(go_simp;rfl));(case hp=>exact (Reps.one (show Kd.M Kd.string _ _ _ (⟨#[]⟩:ByteArray) [.string (⟨#[]⟩:ByteArray)] from rfl) (Reps.one (show Kd.M Kd.string _ _ _ (⟨#[97,88,98]⟩:ByteArray) [.string (⟨#[97,88,98]⟩:ByteArray)] from rfl) (Reps.one (show Kd.M Kd.string _ _ _ (⟨#[88,88]⟩:ByteArray) [.string (⟨#[88,88]⟩:ByteArray)] from rfl) (Reps.one (show Kd.M Kd.string _ _ _ (⟨#[87]⟩:ByteArray) [.string (⟨#[87]⟩:ByteArray)] from rfl) (Reps.one (show Kd.M Kd.string _ _ _ (⟨#[90,89,88]⟩:ByteArray) [.string (⟨#[90,89,88]⟩:ByteArray)] from rfl) (Reps.one (show Kd.M Kd.string _ _ _ (⟨#[97,97,97,97,97,97,97,97,97,97,97,97]⟩:ByteArray) [.string (⟨#[97,97,97,97,97,97,97,97,97,97,97,97]⟩:ByteArray)] from rfl) (Reps.one (show Kd.M Kd.string _ _ _ (⟨#[97,97,97,97,97,97,97,97,97,97,97,97,88]⟩:ByteArray) [.string (⟨#[97,97,97,97,97,97,97,97,97,97,97,97,88]⟩:ByteArray)] from rfl) (Reps.one (show Kd.M Kd.string _ _ _ (⟨#[120]⟩:ByteArray) [.string (⟨#[120]⟩:ByteArray)] from rfl) (Reps.one (show Kd.M Kd.string _ _ _ t46001 [.string t46001] from rfl) (Reps.none _ _)))))))))));intro v46005 w5 ho6 hb hg_ hnew_;clear hg_ hnew_;(first|rw [← Ny46004.out] at ho6|(simp only [Int.reduceToNat] at ho6;rw [← Ny46004.out] at ho6));have HO46006:=zk (Kd.R_lower ho6 (keep_size (w:=w) (g:=g) (row:=none) za6));replace HB:=zk (below_step za12 hb);replace HI0:=zk (IsS69.below za5 hb);replace HK:=zk (KeepBut.trans za6 (KeepBut.of_below hb g none) (.inl rfl));clear hb ho6;obtain ⟨Ao7,co7,eo7⟩:=Kd.R_slice HO46006.out;subst eo7)|((with_reducible refine gate_callee (f:=43) rfl ?_);refine goesL_ (some 7) rfl rfl Try.func43 (by kernel_rfl) rfl #[.pointer (some ⟨g,0,none⟩),.slice Ao7 y46004.length co7] rfl za4 ?_;(with_reducible refine (spec_l1Pick.calls g s0_0 t46002 t46003 _ _ y46004 t46007 t46008 t46009 w0 _ za5 za12 ?side3 ?side4 ?side5 A3.out).mono ?_);(case side3=>repeat (first|exact (Kd.R_reads' HO46006.out).2.2|(with_reducible refine Kd.C_alloc ?_ _)|(with_reducible refine Kd.C_drewN ?_ _)|(with_reducible refine Kd.C_drew ?_)));(case side4=>exact (Kd.R_reads' HO46006.out).2.1);(case side5=>exact far_slice (IsS69.own_ne HI0.out HO46006.out (by decide)));rintro e w8 ⟨rfl,hi,hb,hk⟩;refine ⟨_,rfl,?_⟩;replace HO46006:=zk (Kd.R_mono (Kd.R_keep (IsS69.apart (show IsS69 w0 _ g s0_0 t46002 t46003 from za5) (za0 HO46006.out) (by decide)) hk (fun _ h=>h.2)) (fun _ h=>h.1));replace HK:=zk (KeepBut.trans za6 hk (.inl rfl));replace HB:=zk (hb);replace HI0:=zk (hi);(try clear hb);(try clear hb2);(try clear hk);(try clear hi)))
 go_ret
 exact ⟨za9,za5,za12,za6⟩
def spec_l1New.l0:Nat→List Int→Int→Int→Option (List Int × Int × Int)
 | 0,_,_,_=>none
 | k+1,x0,x3,x4=>if x4 < (x0.length:Int) then (if x4 < 4000 then (if 0≤x4 then (spec_l1New.l0 k x0 (Go.bits .and .i64 (wrap64 ((wrap64 ((wrap64 (x3 * 131))+(wrap64 (rd x0 x4))))+7)) 1073741823) (wrap64 (x4+1))) else (none)) else (some (x0,0,x3))) else (some (x0,0,x3))
def spec_l1New.f (k:Nat) (l0:List Int):Option (List Int × Int × Int):=spec_l1New.l0 k l0 (wrap64 (26583+(l0.length:Int))) 0
theorem spec_l1New.calls (k:Nat) (A0:Option Addr) (c0:Nat) (l0:List Int) (r1:List Int) (r2:Int) (r3:Int) (w0 w:World) (hB:Below w0.heap.size w0 w) (hr0:Kd.C (Kd.int .u8) w0 A0 l0.length l0) (hc0:l0.length≤c0) (h:spec_l1New.f k l0=some (r1,r2,r3)) :
   Calls Try.prog 24 #[.slice A0 l0.length c0] w fun e w'=>∃ g_:Nat,e = .returned (.pointer (some ⟨g_,0,none⟩))∧IsS69 w0 w' g_ r1 r2 r3∧Below w0.heap.size w0 w'∧Below w.heap.size w w':=by
 have hu69:=Try.underlying69
 have HR0:=zk hr0
 have HC0:=zk hc0
 clear hr0 hc0
 have HBW:=zk (Below.refl w.heap.size w)
 have HW0:=zk hB.size
 have HB:=zk hB
 clear hB
 have H:=h
 unfold spec_l1New.f at H
 clear h
 have H':=zk H
 clear H
 go_enter Try.func24,Try.ntmps24
 go_wp2
 try simp only [Act.put,zt,zv,zu]
 go_loopg [3,4] k (fun kq v3 v4 w'=>∃ (x3_1:Int) (x4_1:Int),v3 = .int .i64 x3_1∧v4 = .int .i64 x4_1∧Aside0 (spec_l1New.l0 kq l0 x3_1 x4_1=some (r1,r2,r3))∧Aside0 (kq≤k)∧Aside0 (Below w0.heap.size w0 w')∧Aside0 (Below w.heap.size w w'))
 case atStart=>exact ⟨(wrap64 (26583+(l0.length:Int))),(0),za8,za8,H',⟨Nat.le_refl _⟩,⟨za3⟩,⟨za77⟩⟩
 case round =>
  clear H'
  obtain ⟨x3_1,x4_1,rfl,rfl,HA,HK1,HB,HBW⟩:=hrel
  cases gk with
  | zero=>exact absurd HA.out (by simp [spec_l1New.l0])
  | succ k1 =>
   have H:=HA.out
   clear HA
   simp only [spec_l1New.l0] at H
   by_cases c2:x4_1 < (l0.length:Int)
   rw [if_pos c2] at H
   have c2b0:=zdl c2
   clear c2
   by_cases c3:x4_1 < 4000
   rw [if_pos c3] at H
   have c3b0:=zdl c3
   clear c3
   by_cases c4:0≤x4_1
   ·rw [if_pos c4] at H
    have c4b0:=zdle c4
    clear c4
    have H':=zk H
    clear H
    have p24001:0≤(x4_1:Int):=of_decide_eq_true za7
    have q24001:x4_1 < (l0.length:Int):=of_decide_eq_true za7
    obtain ⟨ad24001,e24001,hx24001_0⟩:=Kd.at_int HR0.out x4_1 p24001 q24001
    cases e24001
    replace hx24001_0:=pw_cell_below HB.out hx24001_0
    replace p24001:=eq_true p24001
    replace q24001:=eq_true q24001
    go_wp2
    go_roundg k1
    case measure=>have:=HK1.out;omega
    case rel=>exact ⟨(Go.bits .and .i64 (wrap64 ((wrap64 ((wrap64 (x3_1 * 131))+(wrap64 (rd l0 x4_1))))+7)) 1073741823),(wrap64 (x4_1+1)),za8,za8,H',⟨za60⟩,⟨za3⟩,⟨za77⟩⟩
   ·rw [if_neg c4] at H
    exact absurd H (by simp)
   ·rw [if_neg c3] at H
    have c3b0:=zdnl c3
    clear c3
    simp only [Option.some.injEq,Prod.mk.injEq] at H
    obtain ⟨rfl,rfl,rfl⟩:=H
    go_wp2_with (first|((with_reducible refine gate_dst (N:=31) rfl ?_);refine zE (N:=31) (cs:=#[.slice A0 l0.length c0,.int .i64 0,.int .i64 x3_1]) (t:=69) ?_;intro gb24002 hg w5 hbox hb;replace HB:=zk (below_step za3 hb);have BK24002:=zk (hbox);have GW24002:=zk (zs (w:=w) hg za77);have GE24002:=zk ((Nat.le_trans HW0.out (by rw [hg];exact (below_size za77):w.heap.size≤gb24002):w0.heap.size≤gb24002));replace HBW:=zk (below_step HBW.out hb);clear hb hbox hg))
    go_ret
    exact ⟨_,rfl,(show IsS69 w0 _ gb24002 l0 0 x3_1 from ⟨_,_,za1 BK24002.out,GE24002.out,HR0.out⟩),za3,by repeat (first|(with_reducible first|exact HBW.out|apply below_alloc|apply pw_below_drewN|apply below_drew1|refine below_set ?_ GW24002.out)|exact HBW.out)⟩
   ·rw [if_neg c2] at H
    have c2b0:=zdnl c2
    clear c2
    simp only [Option.some.injEq,Prod.mk.injEq] at H
    obtain ⟨rfl,rfl,rfl⟩:=H
    go_wp2_with (first|((with_reducible refine gate_dst (N:=31) rfl ?_);refine zE (N:=31) (cs:=#[.slice A0 l0.length c0,.int .i64 0,.int .i64 x3_1]) (t:=69) ?_;intro gb24003 hg w6 hbox hb;replace HB:=zk (below_step za3 hb);have BK24003:=zk (hbox);have GW24003:=zk (zs (w:=w) hg za77);have GE24003:=zk ((Nat.le_trans HW0.out (by rw [hg];exact (below_size za77):w.heap.size≤gb24003):w0.heap.size≤gb24003));replace HBW:=zk (below_step HBW.out hb);clear hb hbox hg))
    go_ret
    exact ⟨_,rfl,(show IsS69 w0 _ gb24003 l0 0 x3_1 from ⟨_,_,za1 BK24003.out,GE24003.out,HR0.out⟩),za3,by repeat (first|(with_reducible first|exact HBW.out|apply below_alloc|apply pw_below_drewN|apply below_drew1|refine below_set ?_ GW24003.out)|exact HBW.out)⟩
def spec_Join.l0:Nat→List ByteArray→ByteArray→List Int→Int→Option (ByteArray)
 | 0,_,_,_,_=>none
 | k+1,x0,x1,x5,x6=>if x6 < (x0.length:Int) then (if x6 > 0 then (if x5.length+x1.size < 140737488355328 then ((some (x5 ++ bytesOf x1:List Int)).bind fun y39004=>(if 0≤x6 then (if y39004.length+(rdOf ByteArray.empty x0 x6).size < 140737488355328 then ((some (y39004 ++ bytesOf (rdOf ByteArray.empty x0 x6):List Int)).bind fun y39008=>(if (y39008.length:Int) > 1048576 then (some (⟨#[]⟩:ByteArray)) else (spec_Join.l0 k x0 x1 y39008 (wrap64 (x6+1))))) else (none)) else (none))) else (none)) else (if 0≤x6 then (if x5.length+(rdOf ByteArray.empty x0 x6).size < 140737488355328 then ((some (x5 ++ bytesOf (rdOf ByteArray.empty x0 x6):List Int)).bind fun y39012=>(if (y39012.length:Int) > 1048576 then (some (⟨#[]⟩:ByteArray)) else (spec_Join.l0 k x0 x1 y39012 (wrap64 (x6+1))))) else (none)) else (none))) else (some (strOfNums x5))
def spec_Join.f (k:Nat) (l0:List ByteArray) (a1:ByteArray):Option (ByteArray):=spec_Join.l0 k l0 a1 (([]:List Int)) 0
theorem spec_Join.calls (k:Nat) (A0:Option Addr) (c0:Nat) (l0:List ByteArray) (a1:ByteArray) (r:ByteArray) (w:World) (hr0:Kd.C Kd.string w A0 l0.length l0) (hc0:l0.length≤c0) (h:spec_Join.f k l0 a1=some r) :
   Calls Try.prog 39 #[.slice A0 l0.length c0,.string a1] w fun e w'=>e = .returned (.string r)∧Below w.heap.size w w':=by
 have HR0:=zk hr0
 have HC0:=zk hc0
 clear hr0 hc0
 have HB:=zk (Below.refl w.heap.size w)
 have H:=h
 unfold spec_Join.f at H
 clear h
 obtain ⟨y39001,hy39001⟩:∃ y_:List Int,y_=(([]:List Int)):=⟨_,rfl⟩
 replace H:(spec_Join.l0 k l0 a1 y39001 0)=some r:=by first|(rw [hy39001];with_reducible exact H)|(have H2_:=(Option.bind_some _ _).symm.trans H;rw [hy39001];with_reducible exact H2_)|(have H2_:=(Option.bind_some _ _).symm.trans H;with_reducible exact H2_)|with_reducible exact H|(rw [hy39001];exact H)|exact H
 have Ny39001:=zk hy39001
 clear hy39001
 have H':=zk H
 clear H
 go_enter Try.func39,Try.ntmps39
 go_wp2_with (first|((with_reducible refine gate_dst (N:=7) rfl ?_);refine Kd.R_lit (Kd.int .u8) _ 5 ?hg (N:=7) ?hd (xs:=([]:List Int)) (inner:=[]) (ok:=fun _=>True) (okp:=fun _=>True) ?hr ?hp (fun _ hk=>hk) trivial (Below.refl _ _) (Nat.le_refl _) (by simp) ?_;(case hd=>rfl);(case hg=>rfl);(case hr=>first|(go_simp;done)|(go_simp;rfl));(case hp=>exact (Reps.none _ _));intro v39002 w3 ho4 hb hg_ hnew_;clear hg_ hnew_;(first|rw [← Ny39001.out] at ho4|(simp only [Int.reduceToNat] at ho4;rw [← Ny39001.out] at ho4));have HO39003:=zk (Kd.R_lower ho4 (below_size za3));replace HB:=zk (below_step za3 hb);clear hb ho4))
 try simp only [Act.put,zt,zv,zu]
 go_loopg [5,6] k (fun kq v5 v6 w'=>∃ (x5_1:List Int) (x6_1:Int),v6 = .int .i64 x6_1∧Aside0 (spec_Join.l0 kq l0 a1 x5_1 x6_1=some r)∧Aside0 (kq≤k)∧Aside0 (Kd.R (Kd.int .u8) 5 w' w.heap.size (fun _=>True) v5 x5_1)∧Aside0 (Below w.heap.size w w'))
 case atStart=>exact ⟨(y39001),(0),za8,H',⟨Nat.le_refl _⟩,⟨za0 HO39003.out⟩,⟨za3⟩⟩
 case round =>
  clear H'
  obtain ⟨x5_1,x6_1,rfl,HA,HK1,HO_5,HB⟩:=hrel
  cases gk with
  | zero=>exact absurd HA.out (by simp [spec_Join.l0])
  | succ k1 =>
   have H:=HA.out
   clear HA
   simp only [spec_Join.l0] at H
   by_cases c5:x6_1 < (l0.length:Int)
   rw [if_pos c5] at H
   have c5b0:=zdl c5
   clear c5
   by_cases c6:x6_1 > 0
   rw [if_pos c6] at H
   have c6b0:=zdl c6
   clear c6
   by_cases c7:x5_1.length+a1.size < 140737488355328
   rw [if_pos c7] at H
   have LMc7:=zk c7
   clear c7
   obtain ⟨y39004,hy39004⟩:∃ y_:List Int,y_=(x5_1 ++ bytesOf a1):=⟨_,rfl⟩
   replace H:(if 0≤x6_1 then (if y39004.length+(rdOf ByteArray.empty l0 x6_1).size < 140737488355328 then ((some (y39004 ++ bytesOf (rdOf ByteArray.empty l0 x6_1):List Int)).bind fun y39008=>(if (y39008.length:Int) > 1048576 then (some (⟨#[]⟩:ByteArray)) else (spec_Join.l0 k1 l0 a1 y39008 (wrap64 (x6_1+1))))) else (none)) else (none))=some r:=by first|(rw [hy39004];with_reducible exact H)|(have H2_:=(Option.bind_some _ _).symm.trans H;rw [hy39004];with_reducible exact H2_)|(have H2_:=(Option.bind_some _ _).symm.trans H;with_reducible exact H2_)|with_reducible exact H|(rw [hy39004];exact H)|exact H
   have Ny39004:=zk hy39004
   clear hy39004
   by_cases c8:0≤x6_1
   rw [if_pos c8] at H
   have c8b0:=zdle c8
   clear c8
   by_cases c9:y39004.length+(rdOf ByteArray.empty l0 x6_1).size < 140737488355328
   rw [if_pos c9] at H
   have LMc9:=zk c9
   clear c9
   obtain ⟨y39008,hy39008⟩:∃ y_:List Int,y_=(y39004 ++ bytesOf (rdOf ByteArray.empty l0 x6_1)):=⟨_,rfl⟩
   replace H:(if (y39008.length:Int) > 1048576 then (some (⟨#[]⟩:ByteArray)) else (spec_Join.l0 k1 l0 a1 y39008 (wrap64 (x6_1+1))))=some r:=by first|(rw [hy39008];with_reducible exact H)|(have H2_:=(Option.bind_some _ _).symm.trans H;rw [hy39008];with_reducible exact H2_)|(have H2_:=(Option.bind_some _ _).symm.trans H;with_reducible exact H2_)|with_reducible exact H|(rw [hy39008];exact H)|exact H
   have Ny39008:=zk hy39008
   clear hy39008
   by_cases c10:(y39008.length:Int) > 1048576
   rw [if_pos c10] at H
   have c10b0:=zdl c10
   have c10b1:decide (1048576 < y39008.length)=true:=decide_eq_true (by omega)
   clear c10
   obtain rfl:=zi H
   have fin0_:=zk trivial
   rotate_left
   rw [if_neg c10] at H
   have c10b0:=zdnl c10
   have c10b1:decide (1048576 < y39008.length)=false:=decide_eq_false (by omega)
   clear c10
   have H':=zk H
   clear H
   have fin1_:=zk trivial
   rotate_left
   · rw [if_neg c9] at H
     exact absurd H (by simp)
   · rw [if_neg c8] at H
     exact absurd H (by simp)
   · rw [if_neg c7] at H
     exact absurd H (by simp)
   rw [if_neg c6] at H
   have c6b0:=zdnl c6
   clear c6
   by_cases c17:0≤x6_1
   rw [if_pos c17] at H
   have c17b0:=zdle c17
   clear c17
   by_cases c18:x5_1.length+(rdOf ByteArray.empty l0 x6_1).size < 140737488355328
   rw [if_pos c18] at H
   have LMc18:=zk c18
   clear c18
   obtain ⟨y39012,hy39012⟩:∃ y_:List Int,y_=(x5_1 ++ bytesOf (rdOf ByteArray.empty l0 x6_1)):=⟨_,rfl⟩
   replace H:(if (y39012.length:Int) > 1048576 then (some (⟨#[]⟩:ByteArray)) else (spec_Join.l0 k1 l0 a1 y39012 (wrap64 (x6_1+1))))=some r:=by first|(rw [hy39012];with_reducible exact H)|(have H2_:=(Option.bind_some _ _).symm.trans H;rw [hy39012];with_reducible exact H2_)|(have H2_:=(Option.bind_some _ _).symm.trans H;with_reducible exact H2_)|with_reducible exact H|(rw [hy39012];exact H)|exact H
   have Ny39012:=zk hy39012
   clear hy39012
   by_cases c19:(y39012.length:Int) > 1048576
   rw [if_pos c19] at H
   have c19b0:=zdl c19
   have c19b1:decide (1048576 < y39012.length)=true:=decide_eq_true (by omega)
   clear c19
   obtain rfl:=zi H
   have p39011:0≤(x6_1:Int):=of_decide_eq_true za7
   have q39011:x6_1 < (l0.length:Int):=of_decide_eq_true za7
   obtain ⟨ad39011,e39011,hx39011_0⟩:=Kd.at_string HR0.out x6_1 p39011 q39011
   cases e39011
   replace hx39011_0:=zx HB.out hx39011_0
   replace p39011:=eq_true p39011
   replace q39011:=eq_true q39011
   have fin0_:=zk trivial
   rotate_left
   rw [if_neg c19] at H
   have c19b0:=zdnl c19
   have c19b1:decide (1048576 < y39012.length)=false:=decide_eq_false (by omega)
   clear c19
   have H':=zk H
   clear H
   have p39011:0≤(x6_1:Int):=of_decide_eq_true za7
   have q39011:x6_1 < (l0.length:Int):=of_decide_eq_true za7
   obtain ⟨ad39011,e39011,hx39011_0⟩:=Kd.at_string HR0.out x6_1 p39011 q39011
   cases e39011
   replace hx39011_0:=zx HB.out hx39011_0
   replace p39011:=eq_true p39011
   replace q39011:=eq_true q39011
   have fin2_:=zk trivial
   rotate_left
   · rw [if_neg c18] at H
     exact absurd H (by simp)
   · rw [if_neg c17] at H
     exact absurd H (by simp)
   rw [if_neg c5] at H
   have c5b0:=zdnl c5
   clear c5
   obtain rfl:=zi H
   have hcv24:=own_string (P:=Try.prog) Try.underlying22 Try.underlying5 Try.underlying9 (Kd.own_of_R HO_5.out)
   have fin0_:=zk trivial
   rotate_left
   all_goals
    go_wp2_with (first|(at_builtin;refine print_append_str (w0:=w) w.heap.size rfl (.tmp 16) _ 22 9 5 rfl Try.underlying22 Try.underlying9 info5 u5 x5_1 a1 rfl rfl ?aO ?aB ?aS ?aL ?_;(case aB=>exact za3);(case aO=>exact (Kd.own_of_R (za0 HO_5.out)));(case aS=>exact (below_size za3));(case aL=>have:=LMc7.out;omega);intro v39005 w11 ho0 hb hg;have ho:=Kd.R_of_own (h1:=fun _=>rfl) (ok:=fun _=>True) ho0 (fun _ _=>trivial);clear ho0;have hat:=True.intro;rw [← Ny39004.out] at ho;change Kd.R (Kd.int .u8) 5 w11 w.heap.size (fun _=>True) v39005 y39004 at ho;replace HB:=zk (hb);have HO39006:=zk (ho);clear HO_5;clear ho hb hg hat;have p39007:0≤(x6_1:Int):=of_decide_eq_true za7;have q39007:x6_1 < (l0.length:Int):=of_decide_eq_true za7;obtain ⟨ad39007,e39007,hx39007_0⟩:=Kd.at_string HR0.out x6_1 p39007 q39007;cases e39007;replace hx39007_0:=zx HB.out hx39007_0;replace p39007:=eq_true p39007;replace q39007:=eq_true q39007)|(at_builtin;refine print_append_str (w0:=w) w.heap.size rfl (.tmp 19) _ 22 9 5 rfl Try.underlying22 Try.underlying9 info5 v39005 y39004 (rdOf ByteArray.empty l0 x6_1) rfl rfl ?aO ?aB ?aS ?aL ?_;(case aB=>exact za3);(case aO=>exact (Kd.own_of_R (za0 HO39006.out)));(case aS=>exact (below_size za3));(case aL=>have:=LMc9.out;omega);intro v39009 w12 ho0 hb hg;have ho:=Kd.R_of_own (h1:=fun _=>rfl) (ok:=fun _=>True) ho0 (fun _ _=>trivial);clear ho0;have hat:=True.intro;rw [← Ny39008.out] at ho;change Kd.R (Kd.int .u8) 5 w12 w.heap.size (fun _=>True) v39009 y39008 at ho;replace HB:=zk (hb);have HO39010:=zk (ho);clear HO39006;clear ho hb hg hat;obtain ⟨Ao13,co13,eo13⟩:=Kd.R_slice HO39010.out;subst eo13)|(at_builtin;refine print_append_str (w0:=w) w.heap.size rfl (.tmp 16) _ 22 9 5 rfl Try.underlying22 Try.underlying9 info5 u5 x5_1 a1 rfl rfl ?aO ?aB ?aS ?aL ?_;(case aB=>exact za3);(case aO=>exact (Kd.own_of_R (za0 HO_5.out)));(case aS=>exact (below_size za3));(case aL=>have:=LMc7.out;omega);intro v39005 w14 ho0 hb hg;have ho:=Kd.R_of_own (h1:=fun _=>rfl) (ok:=fun _=>True) ho0 (fun _ _=>trivial);clear ho0;have hat:=True.intro;rw [← Ny39004.out] at ho;change Kd.R (Kd.int .u8) 5 w14 w.heap.size (fun _=>True) v39005 y39004 at ho;replace HB:=zk (hb);have HO39006:=zk (ho);clear HO_5;clear ho hb hg hat;have p39007:0≤(x6_1:Int):=of_decide_eq_true za7;have q39007:x6_1 < (l0.length:Int):=of_decide_eq_true za7;obtain ⟨ad39007,e39007,hx39007_0⟩:=Kd.at_string HR0.out x6_1 p39007 q39007;cases e39007;replace hx39007_0:=zx HB.out hx39007_0;replace p39007:=eq_true p39007;replace q39007:=eq_true q39007)|(at_builtin;refine print_append_str (w0:=w) w.heap.size rfl (.tmp 19) _ 22 9 5 rfl Try.underlying22 Try.underlying9 info5 v39005 y39004 (rdOf ByteArray.empty l0 x6_1) rfl rfl ?aO ?aB ?aS ?aL ?_;(case aB=>exact za3);(case aO=>exact (Kd.own_of_R (za0 HO39006.out)));(case aS=>exact (below_size za3));(case aL=>have:=LMc9.out;omega);intro v39009 w15 ho0 hb hg;have ho:=Kd.R_of_own (h1:=fun _=>rfl) (ok:=fun _=>True) ho0 (fun _ _=>trivial);clear ho0;have hat:=True.intro;rw [← Ny39008.out] at ho;change Kd.R (Kd.int .u8) 5 w15 w.heap.size (fun _=>True) v39009 y39008 at ho;replace HB:=zk (hb);have HO39010:=zk (ho);clear HO39006;clear ho hb hg hat;obtain ⟨Ao16,co16,eo16⟩:=Kd.R_slice HO39010.out;subst eo16)|(at_builtin;refine print_append_str (w0:=w) w.heap.size rfl (.tmp 19) _ 22 9 5 rfl Try.underlying22 Try.underlying9 info5 u5 x5_1 (rdOf ByteArray.empty l0 x6_1) rfl rfl ?aO ?aB ?aS ?aL ?_;(case aB=>exact za3);(case aO=>exact (Kd.own_of_R (za0 HO_5.out)));(case aS=>exact (below_size za3));(case aL=>have:=LMc18.out;omega);intro v39013 w20 ho0 hb hg;have ho:=Kd.R_of_own (h1:=fun _=>rfl) (ok:=fun _=>True) ho0 (fun _ _=>trivial);clear ho0;have hat:=True.intro;rw [← Ny39012.out] at ho;change Kd.R (Kd.int .u8) 5 w20 w.heap.size (fun _=>True) v39013 y39012 at ho;replace HB:=zk (hb);have HO39014:=zk (ho);clear HO_5;clear ho hb hg hat;obtain ⟨Ao21,co21,eo21⟩:=Kd.R_slice HO39014.out;subst eo21)|(at_builtin;refine print_append_str (w0:=w) w.heap.size rfl (.tmp 19) _ 22 9 5 rfl Try.underlying22 Try.underlying9 info5 u5 x5_1 (rdOf ByteArray.empty l0 x6_1) rfl rfl ?aO ?aB ?aS ?aL ?_;(case aB=>exact za3);(case aO=>exact (Kd.own_of_R (za0 HO_5.out)));(case aS=>exact (below_size za3));(case aL=>have:=LMc18.out;omega);intro v39013 w22 ho0 hb hg;have ho:=Kd.R_of_own (h1:=fun _=>rfl) (ok:=fun _=>True) ho0 (fun _ _=>trivial);clear ho0;have hat:=True.intro;rw [← Ny39012.out] at ho;change Kd.R (Kd.int .u8) 5 w22 w.heap.size (fun _=>True) v39013 y39012 at ho;replace HB:=zk (hb);have HO39014:=zk (ho);clear HO_5;clear ho hb hg hat;obtain ⟨Ao23,co23,eo23⟩:=Kd.R_slice HO39014.out;subst eo23))
    first
    | (
      clear fin0_
      go_ret
      exact ⟨za9,za3⟩)
    | (
      clear fin1_
      go_roundg k1
      case measure=>have:=HK1.out;omega
      case rel=>exact ⟨(y39008),(wrap64 (x6_1+1)),za8,H',⟨za60⟩,⟨za0 HO39010.out⟩,⟨za3⟩⟩)
    | (
      clear fin2_
      go_roundg k1
      case measure=>have:=HK1.out;omega
      case rel=>exact ⟨(y39012),(wrap64 (x6_1+1)),za8,H',⟨za60⟩,⟨za0 HO39014.out⟩,⟨za3⟩⟩)
def spec_l1Max.f (a0:Int) (a1:Int):Option (Int):=if a0 > a1 then (some a0) else (some a1)
theorem spec_l1Max.calls (a0:Int) (a1:Int) (r:Int) (w:World) (h:spec_l1Max.f a0 a1=some r) :
   Calls Try.prog 91 #[.int .i64 a0,.int .i64 a1] w fun e w'=>e = .returned (.int .i64 r)∧Drawn0 w w':=by
 have H:=h
 unfold spec_l1Max.f at H
 clear h
 by_cases c3:a0 > a1
 rw [if_pos c3] at H
 have c3b0:=zdl c3
 rotate_left
 rw [if_neg c3] at H
 have c3b0:=zdnl c3
 rotate_left
 all_goals
  clear c3
  obtain rfl:=zi H
  go_enter Try.func91,Try.ntmps91
  go_wp2
  go_ret
  exact ⟨za8,za20⟩
def spec_l1In.f (a0:Int) (a1:Int) (a2:Int):Option (Bool):=if a0 ≥ a1 then (some (decide (a0≤a2))) else (some false)
theorem spec_l1In.calls (a0:Int) (a1:Int) (a2:Int) (r:Bool) (w:World) (h:spec_l1In.f a0 a1 a2=some r) :
   Calls Try.prog 78 #[.int .i64 a0,.int .i64 a1,.int .i64 a2] w fun e w'=>e = .returned (.bool r)∧Drawn0 w w':=by
 have H:=h
 unfold spec_l1In.f at H
 clear h
 by_cases c4:a0 ≥ a1
 rw [if_pos c4] at H
 have c4b0:=zdle c4
 rotate_left
 rw [if_neg c4] at H
 have c4b0:=zdnle c4
 rotate_left
 all_goals
  clear c4
  obtain rfl:=zi H
  go_enter Try.func78,Try.ntmps78
  go_wp2
  go_ret
  exact ⟨za8,za20⟩
mutual
def spec_l3Left.l0:Nat→Int→Int→Int→ByteArray→List (S58)→Option (Int)
 | 0,_,_,_,_,_=>none
 | k+1,x1,x5,x84002000,x84002001,x84002002=>if x5 < (x84002002.length:Int) then (if x1 ≥ 0 then (if 0≤x5 then ((spec_l3Left.f k ((rd_T58 x84002002 x5).f0) ((rd_T58 x84002002 x5).f1) ((rd_T58 x84002002 x5).f2) x1).bind fun t84003=>(spec_l3Left.l0 k t84003 (wrap64 (x5+1)) x84002000 x84002001 x84002002)) else (none)) else (some x1)) else (some x1)
def spec_l3Left.f:Nat→Int→ByteArray→List (S58)→Int→Option (Int)
 | 0,_,_,_,_=>none
 | k+1,a0_0,a0_1,l0_2,a1=>spec_l3Left.l0 k (wrap64 (a1 - 1)) 0 a0_0 a0_1 l0_2
end
theorem spec_l3Left.calls (k:Nat):∀ (a0_0:Int) (a0_1:ByteArray) (A0_2:Option Addr) (c0_2:Nat) (l0_2:List (S58)) (a1:Int) (r:Int) (w:World) (hr0_2:Kd.C k58 w A0_2 l0_2.length l0_2) (hc0_2:l0_2.length≤c0_2) (h:spec_l3Left.f k a0_0 a0_1 l0_2 a1=some r),
   Calls Try.prog 84 #[.agg #[.int .i64 a0_0,.string a0_1,.slice A0_2 l0_2.length c0_2],.int .i64 a1] w fun e w'=>e = .returned (.int .i64 r)∧Below w.heap.size w w':=by
 induction k using Nat.strongRecOn with
 | _ k ih =>
 intro a0_0 a0_1 A0_2 c0_2 l0_2 a1 r w hr0_2 hc0_2 h
 cases k with
 | zero=>exact absurd h (by simp [spec_l3Left.f])
 | succ k =>
 simp only [spec_l3Left.f] at h
 have hu58:=Try.underlying58
 have HR0_2:=zk hr0_2
 have HC0_2:=zk hc0_2
 clear hr0_2 hc0_2
 have HB:=zk (Below.refl w.heap.size w)
 have H:=h
 clear h
 have H':=zk H
 clear H
 go_enter Try.func84,Try.ntmps84
 go_wp2_with (first|((with_reducible refine gate_dst (N:=2) rfl ?_);refine zE (N:=2) (cs:=#[.int .i64 a0_0,.string a0_1,.slice A0_2 l0_2.length c0_2]) (t:=58) ?_;intro gb84001 hg w3 hbox hb;have BK84001:=zk (hbox);have GW84001:=zk (zs (w:=w) hg za3);have GE84001:=zk (zs (w:=w) hg za3);replace HB:=zk (below_step za3 hb);clear hb hbox hg))
 try simp only [Act.put,zt,zv,zu]
 go_loopg [1,5] k (fun kq v1 v5 w'=>∃ (x1_1:Int) (x5_1:Int),v1 = .int .i64 x1_1∧v5 = .int .i64 x5_1∧Aside0 (spec_l3Left.l0 kq x1_1 x5_1 a0_0 a0_1 l0_2=some r)∧Aside0 (kq≤k)∧Aside0 (w'.heap[gb84001]? = some (.cells #[.int .i64 a0_0,.string a0_1,(.slice A0_2 l0_2.length c0_2)] 58 (0,0)))∧Aside0 (Below w.heap.size w w'))
 case atStart=>exact ⟨(wrap64 (a1 - 1)),(0),za8,za8,H',⟨Nat.le_refl _⟩,⟨za1 BK84001.out⟩,⟨za3⟩⟩
 case round =>
  clear H'
  obtain ⟨x1_1,x5_1,rfl,rfl,HA,HK1,BK84001,HB⟩:=hrel
  cases gk with
  | zero=>exact absurd HA.out (by simp [spec_l3Left.l0])
  | succ k1 =>
   have H:=HA.out
   clear HA
   simp only [spec_l3Left.l0] at H
   by_cases c4:x5_1 < (l0_2.length:Int)
   rw [if_pos c4] at H
   have c4b0:=zdl c4
   clear c4
   by_cases c5:x1_1 ≥ 0
   rw [if_pos c5] at H
   have c5b0:=zdle c5
   clear c5
   by_cases c6:0≤x5_1
   · rw [if_pos c6] at H
     have c6b0:=zdle c6
     clear c6
     replace H:=zo H
     obtain ⟨t84003,A70,H⟩:=H
     try dsimp only at H
     have A7:=zk A70
     clear A70
     have H':=zk H
     clear H
     obtain ⟨hcz8_0,hcz8_1,hcz8_2,hfz8_0,hfz8_1,hfz8_2⟩:=blk3 BK84001.out
     have p84002:0≤(x5_1:Int):=of_decide_eq_true za7
     have q84002:x5_1 < (l0_2.length:Int):=of_decide_eq_true za7
     obtain ⟨ad84002,A84002_2,c84002_2,e84002,hx84002_0,hx84002_1,hx84002_2,hl84002_2,hi84002_2⟩:=at_T58 HR0_2.out x5_1 p84002 q84002
     cases e84002
     replace hx84002_0:=zx HB.out hx84002_0
     replace hx84002_1:=zx HB.out hx84002_1
     replace hx84002_2:=zx HB.out hx84002_2
     have HR84002_2:=zk hi84002_2
     have HC84002_2:=zk hl84002_2
     clear hi84002_2 hl84002_2
     replace p84002:=eq_true p84002
     replace q84002:=eq_true q84002
     go_wp2_with (first|((with_reducible refine gate_callee (f:=84) rfl ?_);refine goesL_ (some 25) rfl rfl Try.func84 (by kernel_rfl) rfl #[.agg #[.int .i64 ((rd_T58 l0_2 x5_1).f0),.string ((rd_T58 l0_2 x5_1).f1),.slice A84002_2 ((rd_T58 l0_2 x5_1).f2).length c84002_2],.int .i64 x1_1] rfl za4 ?_;(with_reducible refine (ih k1 za60 ((rd_T58 l0_2 x5_1).f0) ((rd_T58 l0_2 x5_1).f1) _ _ ((rd_T58 l0_2 x5_1).f2) x1_1 t84003 _ ?side1 ?side2 A7.out).mono ?_);(case side1=>repeat (first|exact (Kd.C_below HR84002_2.out HB.out)|(with_reducible refine Kd.C_alloc ?_ _)|(with_reducible refine Kd.C_drewN ?_ _)|(with_reducible refine Kd.C_drew ?_)));(case side2=>exact HC84002_2.out);rintro e w9 ⟨rfl,hb⟩;refine ⟨_,rfl,?_⟩;replace BK84001:=zk (zb BK84001.out hb);replace HB:=zk (below_step za3 hb);(try clear hb);(try clear hb2);(try clear hk);(try clear hi)))
     go_roundg k1
     case measure=>have:=HK1.out;omega
     case rel=>exact ⟨(t84003),(wrap64 (x5_1+1)),za8,za8,H',⟨za60⟩,⟨za1 BK84001.out⟩,⟨za3⟩⟩
   · rw [if_neg c6] at H
     exact absurd H (by simp)
   rw [if_neg c5] at H
   have c5b0:=zdnle c5
   clear c5
   rotate_left
   rw [if_neg c4] at H
   have c4b0:=zdnl c4
   clear c4
   rotate_left
   all_goals
    obtain rfl:=zi H
    obtain ⟨hcz10_0,hcz10_1,hcz10_2,hfz10_0,hfz10_1,hfz10_2⟩:=blk3 BK84001.out
    go_wp2
    go_ret
    exact ⟨za9,za3⟩
mutual
def spec_l3Depth.l0:Nat→Int→Int→Int→ByteArray→List (S58)→Option (Int)
 | 0,_,_,_,_,_=>none
 | k+1,x3,x4,x85002000,x85002001,x85002002=>if x4 < (x85002002.length:Int) then (if 0≤x4 then ((spec_l3Depth.f k ((rd_T58 x85002002 x4).f0) ((rd_T58 x85002002 x4).f1) ((rd_T58 x85002002 x4).f2)).bind fun t85003=>((spec_l1Max.f x3 t85003).bind fun t85004=>(spec_l3Depth.l0 k t85004 (wrap64 (x4+1)) x85002000 x85002001 x85002002))) else (none)) else (some (wrap64 (x3+1)))
def spec_l3Depth.f:Nat→Int→ByteArray→List (S58)→Option (Int)
 | 0,_,_,_=>none
 | k+1,a0_0,a0_1,l0_2=>spec_l3Depth.l0 k 0 0 a0_0 a0_1 l0_2
end
theorem spec_l3Depth.calls (k:Nat):∀ (a0_0:Int) (a0_1:ByteArray) (A0_2:Option Addr) (c0_2:Nat) (l0_2:List (S58)) (r:Int) (w:World) (hr0_2:Kd.C k58 w A0_2 l0_2.length l0_2) (hc0_2:l0_2.length≤c0_2) (h:spec_l3Depth.f k a0_0 a0_1 l0_2=some r),
   Calls Try.prog 85 #[.agg #[.int .i64 a0_0,.string a0_1,.slice A0_2 l0_2.length c0_2]] w fun e w'=>e = .returned (.int .i64 r)∧Below w.heap.size w w':=by
 induction k using Nat.strongRecOn with
 | _ k ih =>
 intro a0_0 a0_1 A0_2 c0_2 l0_2 r w hr0_2 hc0_2 h
 cases k with
 | zero=>exact absurd h (by simp [spec_l3Depth.f])
 | succ k =>
 simp only [spec_l3Depth.f] at h
 have hu58:=Try.underlying58
 have HR0_2:=zk hr0_2
 have HC0_2:=zk hc0_2
 clear hr0_2 hc0_2
 have HB:=zk (Below.refl w.heap.size w)
 have H:=h
 clear h
 have H':=zk H
 clear H
 go_enter Try.func85,Try.ntmps85
 go_wp2_with (first|((with_reducible refine gate_dst (N:=1) rfl ?_);refine zE (N:=1) (cs:=#[.int .i64 a0_0,.string a0_1,.slice A0_2 l0_2.length c0_2]) (t:=58) ?_;intro gb85001 hg w2 hbox hb;have BK85001:=zk (hbox);have GW85001:=zk (zs (w:=w) hg za3);have GE85001:=zk (zs (w:=w) hg za3);replace HB:=zk (below_step za3 hb);clear hb hbox hg))
 try simp only [Act.put,zt,zv,zu]
 go_loopg [3,4] k (fun kq v3 v4 w'=>∃ (x3_1:Int) (x4_1:Int),v3 = .int .i64 x3_1∧v4 = .int .i64 x4_1∧Aside0 (spec_l3Depth.l0 kq x3_1 x4_1 a0_0 a0_1 l0_2=some r)∧Aside0 (kq≤k)∧Aside0 (w'.heap[gb85001]? = some (.cells #[.int .i64 a0_0,.string a0_1,(.slice A0_2 l0_2.length c0_2)] 58 (0,0)))∧Aside0 (Below w.heap.size w w'))
 case atStart=>exact ⟨(0),(0),za8,za8,H',⟨Nat.le_refl _⟩,⟨za1 BK85001.out⟩,⟨za3⟩⟩
 case round =>
  clear H'
  obtain ⟨x3_1,x4_1,rfl,rfl,HA,HK1,BK85001,HB⟩:=hrel
  cases gk with
  | zero=>exact absurd HA.out (by simp [spec_l3Depth.l0])
  | succ k1 =>
   have H:=HA.out
   clear HA
   simp only [spec_l3Depth.l0] at H
   by_cases c3:x4_1 < (l0_2.length:Int)
   rw [if_pos c3] at H
   have c3b0:=zdl c3
   clear c3
   by_cases c4:0≤x4_1
   ·rw [if_pos c4] at H
    have c4b0:=zdle c4
    clear c4
    replace H:=zo H
    obtain ⟨t85003,A50,H⟩:=H
    try dsimp only at H
    have A5:=zk A50
    clear A50
    replace H:=zo H
    obtain ⟨t85004,A60,H⟩:=H
    try dsimp only at H
    have A6:=zk A60
    clear A60
    have H':=zk H
    clear H
    obtain ⟨hcz7_0,hcz7_1,hcz7_2,hfz7_0,hfz7_1,hfz7_2⟩:=blk3 BK85001.out
    have p85002:0≤(x4_1:Int):=of_decide_eq_true za7
    have q85002:x4_1 < (l0_2.length:Int):=of_decide_eq_true za7
    obtain ⟨ad85002,A85002_2,c85002_2,e85002,hx85002_0,hx85002_1,hx85002_2,hl85002_2,hi85002_2⟩:=at_T58 HR0_2.out x4_1 p85002 q85002
    cases e85002
    replace hx85002_0:=zx HB.out hx85002_0
    replace hx85002_1:=zx HB.out hx85002_1
    replace hx85002_2:=zx HB.out hx85002_2
    have HR85002_2:=zk hi85002_2
    have HC85002_2:=zk hl85002_2
    clear hi85002_2 hl85002_2
    replace p85002:=eq_true p85002
    replace q85002:=eq_true q85002
    go_wp2_with (first|((with_reducible refine gate_callee (f:=85) rfl ?_);refine goesL_ (some 18) rfl rfl Try.func85 (by kernel_rfl) rfl #[.agg #[.int .i64 ((rd_T58 l0_2 x4_1).f0),.string ((rd_T58 l0_2 x4_1).f1),.slice A85002_2 ((rd_T58 l0_2 x4_1).f2).length c85002_2]] rfl za4 ?_;(with_reducible refine (ih k1 za60 ((rd_T58 l0_2 x4_1).f0) ((rd_T58 l0_2 x4_1).f1) _ _ ((rd_T58 l0_2 x4_1).f2) t85003 _ ?side1 ?side2 A5.out).mono ?_);(case side1=>repeat (first|exact (Kd.C_below HR85002_2.out HB.out)|(with_reducible refine Kd.C_alloc ?_ _)|(with_reducible refine Kd.C_drewN ?_ _)|(with_reducible refine Kd.C_drew ?_)));(case side2=>exact HC85002_2.out);rintro e w8 ⟨rfl,hb⟩;refine ⟨_,rfl,?_⟩;replace BK85001:=zk (zb BK85001.out hb);replace HB:=zk (below_step za3 hb);(try clear hb);(try clear hb2);(try clear hk);(try clear hi))|((with_reducible refine gate_callee (f:=91) rfl ?_);refine goesL_ (some 19) rfl rfl Try.func91 (by kernel_rfl) rfl #[.int .i64 x3_1,.int .i64 t85003] rfl za4 ?_;(with_reducible refine (spec_l1Max.calls x3_1 t85003 t85004 _ A6.out).mono ?_);rintro e w' ⟨rfl,⟨nd,rfl⟩⟩;refine ⟨_,rfl,?_⟩))
    go_roundg k1
    case measure=>have:=HK1.out;omega
    case rel=>exact ⟨(t85004),(wrap64 (x4_1+1)),za8,za8,H',⟨za60⟩,⟨za1 BK85001.out⟩,⟨za3⟩⟩
   ·rw [if_neg c4] at H
    exact absurd H (by simp)
   ·rw [if_neg c3] at H
    have c3b0:=zdnl c3
    clear c3
    obtain rfl:=zi H
    obtain ⟨hcz9_0,hcz9_1,hcz9_2,hfz9_0,hfz9_1,hfz9_2⟩:=blk3 BK85001.out
    go_wp2
    go_ret
    exact ⟨za9,za3⟩
def spec_l3Args.j0:Nat→Int→Bool→Option (Int)
 | 0,_,_=>none
 | k+1,x3,x4=>if x4=true then (some 2) else (if x3=8 then (some 1) else (if x3=9 then (some 1) else (some 0)))
def spec_l3Args.f (k:Nat) (a0:Int):Option (Int):=if a0=5 then (spec_l3Args.j0 k a0 (a0 == 5)) else (if a0=6 then (spec_l3Args.j0 k a0 (a0 == 6)) else (spec_l3Args.j0 k a0 (a0 == 7)))
theorem spec_l3Args.calls (k:Nat) (a0:Int) (r:Int) (w:World) (h:spec_l3Args.f k a0=some r) :
   Calls Try.prog 93 #[.int .i64 a0] w fun e w'=>e = .returned (.int .i64 r)∧Drawn0 w w':=by
 have H:=h
 unfold spec_l3Args.f at H
 clear h
 have HC2:=zk H
 clear H
 go_enter Try.func93,Try.ntmps93
 go_upto_if 4 with (fail)
 go_cut [4] (fun v4 wc=>∃ (kq:Nat) (x4_1:Bool),v4 = .bool x4_1∧Aside0 (spec_l3Args.j0 kq a0 x4_1=some r)∧Aside0 (kq≤k)∧Drawn0 w wc)
 case first =>
  have H:=HC2.out
  clear HC2
  by_cases c3:a0=5
  · rw [if_pos c3] at H
    have c3b0:=zbt c3
    have c3b1:=zqn c3
    clear c3
    (first|rw [c3b0]|(simp only [i64_w,i32_w];rw [c3b0])|skip)
    have H':=zk H
    clear H
    go_wp2
    go_meet
    case rel=>exact ⟨_,((a0 == 5)),za8,H',⟨za63⟩,za20⟩
  rw [if_neg c3] at H
  have c3b0:=zbn c3
  have c3b1:=zqt c3
  (first|rw [c3b0]|(simp only [i64_w,i32_w];rw [c3b0])|skip)
  by_cases c4:a0=6
  · rw [if_pos c4] at H
    have c4b0:=zbt c4
    have c4b1:=zqn c4
    clear c4
    have H':=zk H
    clear H
    go_wp2
    go_meet
    case rel=>exact ⟨_,((a0 == 6)),za8,H',⟨za63⟩,za20⟩
  · rw [if_neg c4] at H
    have c4b0:=zbn c4
    have c4b1:=zqt c4
    have H':=zk H
    clear H
    go_wp2
    go_meet
    case rel=>exact ⟨_,((a0 == 7)),za8,H',⟨za63⟩,za20⟩
 case rest =>
  clear HC2
  obtain ⟨kq,x4_1,rfl,HA,HJ1,⟨mc1,rfl⟩⟩:=hcut
  cases kq with
  | zero=>exact absurd HA.out (by simp [spec_l3Args.j0])
  | succ kj1 =>
   have H:=HA.out
   clear HA
   simp only [spec_l3Args.j0] at H
   by_cases c5:x4_1=true
   subst c5
   rw [if_pos rfl] at H
   try dsimp only at H
   rotate_left
   replace c5:=Bool.eq_false_iff.mpr c5
   subst c5
   rw [if_neg (show ¬ (false=true) by decide)] at H
   try dsimp only at H
   by_cases c6:a0=8
   rw [if_pos c6] at H
   have c6b0:=zbt c6
   have c6b1:=zqn c6
   clear c6
   rotate_left
   rw [if_neg c6] at H
   have c6b0:=zbn c6
   have c6b1:=zqt c6
   by_cases c7:a0=9
   rw [if_pos c7] at H
   have c7b0:=zbt c7
   have c7b1:=zqn c7
   clear c7
   rotate_left
   rw [if_neg c7] at H
   have c7b0:=zbn c7
   have c7b1:=zqt c7
   rotate_left
   all_goals
    obtain rfl:=zi H
    go_wp2
    go_ret
    exact ⟨za8,za20⟩
mutual
def spec_l3All.l0:Nat→Int→Int→ByteArray→List (S58)→Option (Bool)
 | 0,_,_,_,_=>none
 | k+1,x3,x86002000,x86002001,x86002002=>if x3 < (x86002002.length:Int) then (if 0≤x3 then ((spec_l3All.f k ((rd_T58 x86002002 x3).f0) ((rd_T58 x86002002 x3).f1) ((rd_T58 x86002002 x3).f2)).bind fun t86003=>(if t86003=true then (spec_l3All.l0 k (wrap64 (x3+1)) x86002000 x86002001 x86002002) else (some false))) else (none)) else (if x86002000=3 then (if (x86002001.size:Int)=1 then ((spec_IsWord.f k x86002001).bind fun t86004=>(if t86004=true then (some ((x86002002.length:Int) == 0)) else (some false))) else (some false)) else ((spec_l1In.f x86002000 1 9).bind fun t86005=>(if t86005=true then (if x86002001.toList=([]:List UInt8) then ((spec_l3Args.f k x86002000).bind fun t86006=>(some ((x86002002.length:Int) == t86006))) else (some false)) else (some false))))
def spec_l3All.f:Nat→Int→ByteArray→List (S58)→Option (Bool)
 | 0,_,_,_=>none
 | k+1,a0_0,a0_1,l0_2=>spec_l3All.l0 k 0 a0_0 a0_1 l0_2
end
theorem spec_l3All.calls (k:Nat):∀ (a0_0:Int) (a0_1:ByteArray) (A0_2:Option Addr) (c0_2:Nat) (l0_2:List (S58)) (r:Bool) (w:World) (hr0_2:Kd.C k58 w A0_2 l0_2.length l0_2) (hc0_2:l0_2.length≤c0_2) (h:spec_l3All.f k a0_0 a0_1 l0_2=some r),
   Calls Try.prog 86 #[.agg #[.int .i64 a0_0,.string a0_1,.slice A0_2 l0_2.length c0_2]] w fun e w'=>e = .returned (.bool r)∧Below w.heap.size w w':=by
 induction k using Nat.strongRecOn with
 | _ k ih =>
 intro a0_0 a0_1 A0_2 c0_2 l0_2 r w hr0_2 hc0_2 h
 cases k with
 | zero=>exact absurd h (by simp [spec_l3All.f])
 | succ k =>
 simp only [spec_l3All.f] at h
 have hu58:=Try.underlying58
 have HR0_2:=zk hr0_2
 have HC0_2:=zk hc0_2
 clear hr0_2 hc0_2
 have HB:=zk (Below.refl w.heap.size w)
 have H:=h
 clear h
 have H':=zk H
 clear H
 go_enter Try.func86,Try.ntmps86
 go_wp2_with (first|((with_reducible refine gate_dst (N:=1) rfl ?_);(try (refine gate_guard (by rfl) ?_;dsimp only));refine zE (N:=1) (cs:=#[.int .i64 a0_0,.string a0_1,.slice A0_2 l0_2.length c0_2]) (t:=58) ?_;intro gb86001 hg w2 hbox hb;have BK86001:=zk (hbox);have GW86001:=zk (zs (w:=w) hg za3);have GE86001:=zk (zs (w:=w) hg za3);replace HB:=zk (below_step za3 hb);clear hb hbox hg))
 repeat (go_quiet (first|((with_reducible refine gate_dst (N:=1) rfl ?_);(try (refine gate_guard (by rfl) ?_;dsimp only));refine zE (N:=1) (cs:=#[.int .i64 a0_0,.string a0_1,.slice A0_2 l0_2.length c0_2]) (t:=58) ?_;intro gb86001 hg w2 hbox hb;have BK86001:=zk (hbox);have GW86001:=zk (zs (w:=w) hg za3);have GE86001:=zk (zs (w:=w) hg za3);replace HB:=zk (below_step za3 hb);clear hb hbox hg));try go_wp2_with (first|((with_reducible refine gate_dst (N:=1) rfl ?_);(try (refine gate_guard (by rfl) ?_;dsimp only));refine zE (N:=1) (cs:=#[.int .i64 a0_0,.string a0_1,.slice A0_2 l0_2.length c0_2]) (t:=58) ?_;intro gb86001 hg w2 hbox hb;have BK86001:=zk (hbox);have GW86001:=zk (zs (w:=w) hg za3);have GE86001:=zk (zs (w:=w) hg za3);replace HB:=zk (below_step za3 hb);clear hb hbox hg)))
 try simp only [Act.put,zt,zv,zu]
 go_loopg [3] k (fun kq v3 w'=>∃ (x3_1:Int),v3 = .int .i64 x3_1∧Aside0 (spec_l3All.l0 kq x3_1 a0_0 a0_1 l0_2=some r)∧Aside0 (kq≤k)∧Aside0 (w'.heap[gb86001]? = some (.cells #[.int .i64 a0_0,.string a0_1,(.slice A0_2 l0_2.length c0_2)] 58 (0,0)))∧Aside0 (Below w.heap.size w w'))
 case atStart=>exact ⟨(0),za8,H',⟨Nat.le_refl _⟩,⟨za1 BK86001.out⟩,⟨za3⟩⟩
 case round =>
  clear H'
  obtain ⟨x3_1,rfl,HA,HK1,BK86001,HB⟩:=hrel
  cases gk with
  | zero=>exact absurd HA.out (by simp [spec_l3All.l0])
  | succ k1 =>
   have H:=HA.out
   clear HA
   simp only [spec_l3All.l0] at H
   by_cases c3:x3_1 < (l0_2.length:Int)
   rw [if_pos c3] at H
   have c3b0:=zdl c3
   clear c3
   by_cases c4:0≤x3_1
   rw [if_pos c4] at H
   have c4b0:=zdle c4
   clear c4
   replace H:=zo H
   obtain ⟨t86003,A50,H⟩:=H
   try dsimp only at H
   have A5:=zk A50
   clear A50
   by_cases c6:t86003=true
   · subst c6
     rw [if_pos rfl] at H
     try dsimp only at H
     have H':=zk H
     clear H
     obtain ⟨hcz7_0,hcz7_1,hcz7_2,hfz7_0,hfz7_1,hfz7_2⟩:=blk3 BK86001.out
     have p86002:0≤(x3_1:Int):=of_decide_eq_true za7
     have q86002:x3_1 < (l0_2.length:Int):=of_decide_eq_true za7
     obtain ⟨ad86002,A86002_2,c86002_2,e86002,hx86002_0,hx86002_1,hx86002_2,hl86002_2,hi86002_2⟩:=at_T58 HR0_2.out x3_1 p86002 q86002
     cases e86002
     replace hx86002_0:=zx HB.out hx86002_0
     replace hx86002_1:=zx HB.out hx86002_1
     replace hx86002_2:=zx HB.out hx86002_2
     have HR86002_2:=zk hi86002_2
     have HC86002_2:=zk hl86002_2
     clear hi86002_2 hl86002_2
     replace p86002:=eq_true p86002
     replace q86002:=eq_true q86002
     go_wp2_with (first|(go_at_call 86;(with_reducible refine (ih k1 za60 ((rd_T58 l0_2 x3_1).f0) ((rd_T58 l0_2 x3_1).f1) _ _ ((rd_T58 l0_2 x3_1).f2) true _ ?side1 ?side2 A5.out).mono ?_);(case side1=>repeat (first|exact (Kd.C_below HR86002_2.out HB.out)|(with_reducible refine Kd.C_alloc ?_ _)|(with_reducible refine Kd.C_drewN ?_ _)|(with_reducible refine Kd.C_drew ?_)));(case side2=>exact HC86002_2.out);rintro e w8 ⟨rfl,hb⟩;replace BK86001:=zk (zb BK86001.out hb);replace HB:=zk (below_step za3 hb);(try clear hb);(try clear hb2);(try clear hk);(try clear hi)))
     repeat (go_quiet (first|(go_at_call 86;(with_reducible refine (ih k1 za60 ((rd_T58 l0_2 x3_1).f0) ((rd_T58 l0_2 x3_1).f1) _ _ ((rd_T58 l0_2 x3_1).f2) true _ ?side1 ?side2 A5.out).mono ?_);(case side1=>repeat (first|exact (Kd.C_below HR86002_2.out HB.out)|(with_reducible refine Kd.C_alloc ?_ _)|(with_reducible refine Kd.C_drewN ?_ _)|(with_reducible refine Kd.C_drew ?_)));(case side2=>exact HC86002_2.out);rintro e w8 ⟨rfl,hb⟩;replace BK86001:=zk (zb BK86001.out hb);replace HB:=zk (below_step za3 hb);(try clear hb);(try clear hb2);(try clear hk);(try clear hi)));try go_wp2_with (first|(go_at_call 86;(with_reducible refine (ih k1 za60 ((rd_T58 l0_2 x3_1).f0) ((rd_T58 l0_2 x3_1).f1) _ _ ((rd_T58 l0_2 x3_1).f2) true _ ?side1 ?side2 A5.out).mono ?_);(case side1=>repeat (first|exact (Kd.C_below HR86002_2.out HB.out)|(with_reducible refine Kd.C_alloc ?_ _)|(with_reducible refine Kd.C_drewN ?_ _)|(with_reducible refine Kd.C_drew ?_)));(case side2=>exact HC86002_2.out);rintro e w8 ⟨rfl,hb⟩;replace BK86001:=zk (zb BK86001.out hb);replace HB:=zk (below_step za3 hb);(try clear hb);(try clear hb2);(try clear hk);(try clear hi))))
     go_roundg k1
     case measure=>have:=HK1.out;omega
     case rel=>exact ⟨(wrap64 (x3_1+1)),za8,H',⟨za60⟩,⟨za1 BK86001.out⟩,⟨za3⟩⟩
   replace c6:=Bool.eq_false_iff.mpr c6
   subst c6
   rw [if_neg (show ¬ (false=true) by decide)] at H
   try dsimp only at H
   obtain rfl:=zi H
   obtain ⟨hcz9_0,hcz9_1,hcz9_2,hfz9_0,hfz9_1,hfz9_2⟩:=blk3 BK86001.out
   have p86002:0≤(x3_1:Int):=of_decide_eq_true za7
   have q86002:x3_1 < (l0_2.length:Int):=of_decide_eq_true za7
   obtain ⟨ad86002,A86002_2,c86002_2,e86002,hx86002_0,hx86002_1,hx86002_2,hl86002_2,hi86002_2⟩:=at_T58 HR0_2.out x3_1 p86002 q86002
   cases e86002
   replace hx86002_0:=zx HB.out hx86002_0
   replace hx86002_1:=zx HB.out hx86002_1
   replace hx86002_2:=zx HB.out hx86002_2
   have HR86002_2:=zk hi86002_2
   have HC86002_2:=zk hl86002_2
   clear hi86002_2 hl86002_2
   replace p86002:=eq_true p86002
   replace q86002:=eq_true q86002
   rotate_left
   · rw [if_neg c4] at H
     exact absurd H (by simp)
   rw [if_neg c3] at H
   have c3b0:=zdnl c3
   clear c3
   by_cases c11:a0_0=3
   rw [if_pos c11] at H
   have c11b0:=zbt c11
   have c11b1:=zqn c11
   clear c11
   by_cases c12:(a0_1.size:Int)=1
   rw [if_pos c12] at H
   have c12b0:=zbt c12
   have c12b1:=zqn c12
   clear c12
   replace H:=zo H
   obtain ⟨t86004,A130,H⟩:=H
   try dsimp only at H
   have A13:=zk A130
   clear A130
   by_cases c14:t86004=true
   subst c14
   rw [if_pos rfl] at H
   try dsimp only at H
   obtain rfl:=zi H
   obtain ⟨hcz15_0,hcz15_1,hcz15_2,hfz15_0,hfz15_1,hfz15_2⟩:=blk3 BK86001.out
   rotate_left
   replace c14:=Bool.eq_false_iff.mpr c14
   subst c14
   rw [if_neg (show ¬ (false=true) by decide)] at H
   try dsimp only at H
   obtain rfl:=zi H
   obtain ⟨hcz16_0,hcz16_1,hcz16_2,hfz16_0,hfz16_1,hfz16_2⟩:=blk3 BK86001.out
   rotate_left
   rw [if_neg c12] at H
   have c12b0:=zbn c12
   have c12b1:=zqt c12
   obtain rfl:=zi H
   obtain ⟨hcz17_0,hcz17_1,hcz17_2,hfz17_0,hfz17_1,hfz17_2⟩:=blk3 BK86001.out
   rotate_left
   rw [if_neg c11] at H
   have c11b0:=zbn c11
   have c11b1:=zqt c11
   replace H:=zo H
   obtain ⟨t86005,A180,H⟩:=H
   try dsimp only at H
   have A18:=zk A180
   clear A180
   by_cases c19:t86005=true
   subst c19
   rw [if_pos rfl] at H
   try dsimp only at H
   by_cases c20:a0_1.toList=([]:List UInt8)
   rw [if_pos c20] at H
   have c20b0:=zbt c20
   have c20b1:=zqn c20
   clear c20
   replace H:=zo H
   obtain ⟨t86006,A210,H⟩:=H
   try dsimp only at H
   have A21:=zk A210
   clear A210
   obtain rfl:=zi H
   obtain ⟨hcz22_0,hcz22_1,hcz22_2,hfz22_0,hfz22_1,hfz22_2⟩:=blk3 BK86001.out
   rotate_left
   rw [if_neg c20] at H
   have c20b0:=zbn c20
   have c20b1:=zqt c20
   obtain rfl:=zi H
   obtain ⟨hcz23_0,hcz23_1,hcz23_2,hfz23_0,hfz23_1,hfz23_2⟩:=blk3 BK86001.out
   rotate_left
   replace c19:=Bool.eq_false_iff.mpr c19
   subst c19
   rw [if_neg (show ¬ (false=true) by decide)] at H
   try dsimp only at H
   obtain rfl:=zi H
   obtain ⟨hcz24_0,hcz24_1,hcz24_2,hfz24_0,hfz24_1,hfz24_2⟩:=blk3 BK86001.out
   rotate_left
   all_goals
    go_wp2_with (first|(go_at_call 86;(with_reducible refine (ih k1 za60 ((rd_T58 l0_2 x3_1).f0) ((rd_T58 l0_2 x3_1).f1) _ _ ((rd_T58 l0_2 x3_1).f2) false _ ?side1 ?side2 A5.out).mono ?_);(case side1=>repeat (first|exact (Kd.C_below HR86002_2.out HB.out)|(with_reducible refine Kd.C_alloc ?_ _)|(with_reducible refine Kd.C_drewN ?_ _)|(with_reducible refine Kd.C_drew ?_)));(case side2=>exact HC86002_2.out);rintro e w10 ⟨rfl,hb⟩;replace BK86001:=zk (zb BK86001.out hb);replace HB:=zk (below_step za3 hb);(try clear hb);(try clear hb2);(try clear hk);(try clear hi))|(go_at_call 78;(with_reducible refine (spec_l1In.calls a0_0 1 9 _ _ A18.out).mono ?_);rintro e w' ⟨rfl,⟨nd,rfl⟩⟩;(try first|exact ⟨rfl,_,World.drewN_drewN _ _ _⟩|exact ⟨rfl,_,Eq.trans (World.drewN_drewN _ _ _) (congrArg (World.drewN _) (Nat.add_assoc _ _ _))⟩))|(go_at_call 93;(with_reducible refine (spec_l3Args.calls k1 a0_0 t86006 _ A21.out).mono ?_);rintro e w' ⟨rfl,⟨nd,rfl⟩⟩;(try first|exact ⟨rfl,_,World.drewN_drewN _ _ _⟩|exact ⟨rfl,_,Eq.trans (World.drewN_drewN _ _ _) (congrArg (World.drewN _) (Nat.add_assoc _ _ _))⟩))|(go_at_call 92;(with_reducible refine (spec_IsWord.calls k1 a0_1 _ _ A13.out).mono ?_);rintro e w' ⟨rfl,⟨nd,rfl⟩⟩;(try first|exact ⟨rfl,_,World.drewN_drewN _ _ _⟩|exact ⟨rfl,_,Eq.trans (World.drewN_drewN _ _ _) (congrArg (World.drewN _) (Nat.add_assoc _ _ _))⟩)))
    repeat (go_quiet (first|(go_at_call 86;(with_reducible refine (ih k1 za60 ((rd_T58 l0_2 x3_1).f0) ((rd_T58 l0_2 x3_1).f1) _ _ ((rd_T58 l0_2 x3_1).f2) false _ ?side1 ?side2 A5.out).mono ?_);(case side1=>repeat (first|exact (Kd.C_below HR86002_2.out HB.out)|(with_reducible refine Kd.C_alloc ?_ _)|(with_reducible refine Kd.C_drewN ?_ _)|(with_reducible refine Kd.C_drew ?_)));(case side2=>exact HC86002_2.out);rintro e w10 ⟨rfl,hb⟩;replace BK86001:=zk (zb BK86001.out hb);replace HB:=zk (below_step za3 hb);(try clear hb);(try clear hb2);(try clear hk);(try clear hi))|(go_at_call 78;(with_reducible refine (spec_l1In.calls a0_0 1 9 _ _ A18.out).mono ?_);rintro e w' ⟨rfl,⟨nd,rfl⟩⟩;(try first|exact ⟨rfl,_,World.drewN_drewN _ _ _⟩|exact ⟨rfl,_,Eq.trans (World.drewN_drewN _ _ _) (congrArg (World.drewN _) (Nat.add_assoc _ _ _))⟩))|(go_at_call 93;(with_reducible refine (spec_l3Args.calls k1 a0_0 t86006 _ A21.out).mono ?_);rintro e w' ⟨rfl,⟨nd,rfl⟩⟩;(try first|exact ⟨rfl,_,World.drewN_drewN _ _ _⟩|exact ⟨rfl,_,Eq.trans (World.drewN_drewN _ _ _) (congrArg (World.drewN _) (Nat.add_assoc _ _ _))⟩))|(go_at_call 92;(with_reducible refine (spec_IsWord.calls k1 a0_1 _ _ A13.out).mono ?_);rintro e w' ⟨rfl,⟨nd,rfl⟩⟩;(try first|exact ⟨rfl,_,World.drewN_drewN _ _ _⟩|exact ⟨rfl,_,Eq.trans (World.drewN_drewN _ _ _) (congrArg (World.drewN _) (Nat.add_assoc _ _ _))⟩)));try go_wp2_with (first|(go_at_call 86;(with_reducible refine (ih k1 za60 ((rd_T58 l0_2 x3_1).f0) ((rd_T58 l0_2 x3_1).f1) _ _ ((rd_T58 l0_2 x3_1).f2) false _ ?side1 ?side2 A5.out).mono ?_);(case side1=>repeat (first|exact (Kd.C_below HR86002_2.out HB.out)|(with_reducible refine Kd.C_alloc ?_ _)|(with_reducible refine Kd.C_drewN ?_ _)|(with_reducible refine Kd.C_drew ?_)));(case side2=>exact HC86002_2.out);rintro e w10 ⟨rfl,hb⟩;replace BK86001:=zk (zb BK86001.out hb);replace HB:=zk (below_step za3 hb);(try clear hb);(try clear hb2);(try clear hk);(try clear hi))|(go_at_call 78;(with_reducible refine (spec_l1In.calls a0_0 1 9 _ _ A18.out).mono ?_);rintro e w' ⟨rfl,⟨nd,rfl⟩⟩;(try first|exact ⟨rfl,_,World.drewN_drewN _ _ _⟩|exact ⟨rfl,_,Eq.trans (World.drewN_drewN _ _ _) (congrArg (World.drewN _) (Nat.add_assoc _ _ _))⟩))|(go_at_call 93;(with_reducible refine (spec_l3Args.calls k1 a0_0 t86006 _ A21.out).mono ?_);rintro e w' ⟨rfl,⟨nd,rfl⟩⟩;(try first|exact ⟨rfl,_,World.drewN_drewN _ _ _⟩|exact ⟨rfl,_,Eq.trans (World.drewN_drewN _ _ _) (congrArg (World.drewN _) (Nat.add_assoc _ _ _))⟩))|(go_at_call 92;(with_reducible refine (spec_IsWord.calls k1 a0_1 _ _ A13.out).mono ?_);rintro e w' ⟨rfl,⟨nd,rfl⟩⟩;(try first|exact ⟨rfl,_,World.drewN_drewN _ _ _⟩|exact ⟨rfl,_,Eq.trans (World.drewN_drewN _ _ _) (congrArg (World.drewN _) (Nat.add_assoc _ _ _))⟩))))
    go_ret
    exact ⟨za9,za3⟩
def spec_IsValidRegex.f (k:Nat) (a0_0:Int) (a0_1:ByteArray) (l0_2:List (S58)):Option (Bool):=(spec_l3Left.f k a0_0 a0_1 l0_2 16).bind fun t76002=>(if t76002 ≥ 0 then ((spec_l3Depth.f k a0_0 a0_1 l0_2).bind fun t76003=>(if t76003≤6 then ((spec_l3All.f k a0_0 a0_1 l0_2).bind fun t76004=>(some t76004)) else (some false))) else (some false))
theorem spec_IsValidRegex.calls (k:Nat) (a0_0:Int) (a0_1:ByteArray) (A0_2:Option Addr) (c0_2:Nat) (l0_2:List (S58)) (r:Bool) (w:World) (hr0_2:Kd.C k58 w A0_2 l0_2.length l0_2) (hc0_2:l0_2.length≤c0_2) (h:spec_IsValidRegex.f k a0_0 a0_1 l0_2=some r) :
   Calls Try.prog 76 #[.agg #[.int .i64 a0_0,.string a0_1,.slice A0_2 l0_2.length c0_2]] w fun e w'=>e = .returned (.bool r)∧Below w.heap.size w w':=by
 have hu58:=Try.underlying58
 have HR0_2:=zk hr0_2
 have HC0_2:=zk hc0_2
 clear hr0_2 hc0_2
 have HB:=zk (Below.refl w.heap.size w)
 have H:=h
 unfold spec_IsValidRegex.f at H
 clear h
 replace H:=zo H
 obtain ⟨t76002,A20,H⟩:=H
 try dsimp only at H
 have A2:=zk A20
 clear A20
 by_cases c3:t76002 ≥ 0
 rw [if_pos c3] at H
 have c3b0:=zdle c3
 clear c3
 replace H:=zo H
 obtain ⟨t76003,A40,H⟩:=H
 try dsimp only at H
 have A4:=zk A40
 clear A40
 by_cases c5:t76003≤6
 rw [if_pos c5] at H
 have c5b0:=zdle c5
 clear c5
 replace H:=zo H
 obtain ⟨t76004,A60,H⟩:=H
 try dsimp only at H
 have A6:=zk A60
 clear A60
 rotate_left
 rw [if_neg c5] at H
 have c5b0:=zdnle c5
 clear c5
 rotate_left
 rw [if_neg c3] at H
 have c3b0:=zdnle c3
 clear c3
 rotate_left
 all_goals
  obtain rfl:=zi H
  go_enter Try.func76,Try.ntmps76
  go_wp2_with (first|((with_reducible refine gate_dst (N:=1) rfl ?_);refine zE (N:=1) (cs:=#[.int .i64 a0_0,.string a0_1,.slice A0_2 l0_2.length c0_2]) (t:=58) ?_;intro gb76001 hg w14 hbox hb;have BK76001:=zk (hbox);have GW76001:=zk (zs (w:=w) hg za3);have GE76001:=zk (zs (w:=w) hg za3);replace HB:=zk (below_step za3 hb);clear hb hbox hg;obtain ⟨hcz15_0,hcz15_1,hcz15_2,hfz15_0,hfz15_1,hfz15_2⟩:=blk3 BK76001.out)|((with_reducible refine gate_callee (f:=84) rfl ?_);refine goesL_ (some 4) rfl rfl Try.func84 (by kernel_rfl) rfl #[.agg #[.int .i64 a0_0,.string a0_1,.slice A0_2 l0_2.length c0_2],.int .i64 16] rfl za4 ?_;(with_reducible refine (spec_l3Left.calls k a0_0 a0_1 _ _ l0_2 16 t76002 _ ?side1 ?side2 A2.out).mono ?_);(case side1=>repeat (first|exact (Kd.C_below HR0_2.out HB.out)|(with_reducible refine Kd.C_alloc ?_ _)|(with_reducible refine Kd.C_drewN ?_ _)|(with_reducible refine Kd.C_drew ?_)));(case side2=>exact HC0_2.out);rintro e w16 ⟨rfl,hb⟩;refine ⟨_,rfl,?_⟩;replace BK76001:=zk (zb BK76001.out hb);replace HB:=zk (below_step za3 hb);(try clear hb);(try clear hb2);(try clear hk);(try clear hi);obtain ⟨hcz17_0,hcz17_1,hcz17_2,hfz17_0,hfz17_1,hfz17_2⟩:=blk3 BK76001.out)|(go_at_call 85;(with_reducible refine (spec_l3Depth.calls k a0_0 a0_1 _ _ l0_2 t76003 _ ?side1 ?side2 A4.out).mono ?_);(case side1=>repeat (first|exact (Kd.C_below HR0_2.out HB.out)|(with_reducible refine Kd.C_alloc ?_ _)|(with_reducible refine Kd.C_drewN ?_ _)|(with_reducible refine Kd.C_drew ?_)));(case side2=>exact HC0_2.out);rintro e w11 ⟨rfl,hb⟩;replace BK76001:=zk (zb BK76001.out hb);replace HB:=zk (below_step za3 hb);(try clear hb);(try clear hb2);(try clear hk);(try clear hi);obtain ⟨hcz12_0,hcz12_1,hcz12_2,hfz12_0,hfz12_1,hfz12_2⟩:=blk3 BK76001.out)|(go_at_call 86;(with_reducible refine (spec_l3All.calls k a0_0 a0_1 _ _ l0_2 t76004 _ ?side1 ?side2 A6.out).mono ?_);(case side1=>repeat (first|exact (Kd.C_below HR0_2.out HB.out)|(with_reducible refine Kd.C_alloc ?_ _)|(with_reducible refine Kd.C_drewN ?_ _)|(with_reducible refine Kd.C_drew ?_)));(case side2=>exact HC0_2.out);rintro e w13 ⟨rfl,hb⟩;replace BK76001:=zk (zb BK76001.out hb);replace HB:=zk (below_step za3 hb);(try clear hb);(try clear hb2);(try clear hk);(try clear hi)))
  go_ret
  exact ⟨za9,za3⟩
def spec_l1Bit.f (a0:Bool):Option (Int):=if a0=true then (some 1) else (some 0)
theorem spec_l1Bit.calls (a0:Bool) (r:Int) (w:World) (h:spec_l1Bit.f a0=some r) :
   Calls Try.prog 63 #[.bool a0] w fun e w'=>e = .returned (.int .i64 r)∧Drawn0 w w':=by
 have H:=h
 unfold spec_l1Bit.f at H
 clear h
 by_cases c2:a0=true
 subst c2
 have H1:(some 1)=some r:=by rw [if_pos rfl] at H;exact H
 rotate_left
 replace c2:=Bool.eq_false_iff.mpr c2
 subst c2
 have H1:(some 0)=some r:=by rw [if_neg (show ¬ (false=true) by decide)] at H;exact H
 rotate_left
 all_goals
  clear H
  have H:=H1
  clear H1
  obtain rfl:=zi H
  go_enter Try.func63,Try.ntmps63
  go_wp2
  go_ret
  exact ⟨za8,za20⟩
def spec_l9Zero.f (a0_0:Int) (a0_1:ByteArray) (l0_2:List (S58)):Option (Bool):=if a0_0=0 then (if a0_1.toList=([]:List UInt8) then (some ((l0_2.length:Int) == 0)) else (some false)) else (some false)
theorem spec_l9Zero.calls (a0_0:Int) (a0_1:ByteArray) (A0_2:Option Addr) (c0_2:Nat) (l0_2:List (S58)) (r:Bool) (w:World) (hr0_2:Kd.C k58 w A0_2 l0_2.length l0_2) (hc0_2:l0_2.length≤c0_2) (h:spec_l9Zero.f a0_0 a0_1 l0_2=some r) :
   Calls Try.prog 75 #[.agg #[.int .i64 a0_0,.string a0_1,.slice A0_2 l0_2.length c0_2]] w fun e w'=>e = .returned (.bool r)∧Below w.heap.size w w':=by
 have hu58:=Try.underlying58
 have HR0_2:=zk hr0_2
 have HC0_2:=zk hc0_2
 clear hr0_2 hc0_2
 have HB:=zk (Below.refl w.heap.size w)
 have H:=h
 unfold spec_l9Zero.f at H
 clear h
 by_cases c2:a0_0=0
 rw [if_pos c2] at H
 have c2b0:=zbt c2
 have c2b1:=zqn c2
 clear c2
 by_cases c3:a0_1.toList=([]:List UInt8)
 rw [if_pos c3] at H
 have c3b0:=zbt c3
 have c3b1:=zqn c3
 clear c3
 rotate_left
 rw [if_neg c3] at H
 have c3b0:=zbn c3
 have c3b1:=zqt c3
 rotate_left
 rw [if_neg c2] at H
 have c2b0:=zbn c2
 have c2b1:=zqt c2
 rotate_left
 all_goals
  obtain rfl:=zi H
  go_enter Try.func75,Try.ntmps75
  go_wp2_with (((with_reducible refine gate_dst (N:=1) rfl ?_);(try (refine gate_guard (by rfl) ?_;dsimp only));refine zE (N:=1) (cs:=#[.int .i64 a0_0,.string a0_1,.slice A0_2 l0_2.length c0_2]) (t:=58) ?_;intro gb75001 hg w4 hbox hb;have BK75001:=zk (hbox);have GW75001:=zk (zs (w:=w) hg za3);have GE75001:=zk (zs (w:=w) hg za3);replace HB:=zk (below_step za3 hb);clear hb hbox hg;obtain ⟨hcz5_0,hcz5_1,hcz5_2,hfz5_0,hfz5_1,hfz5_2⟩:=blk3 BK75001.out))
  go_ret
  exact ⟨za9,za3⟩
def spec_l9Coeffs.l0:Nat→List Int→Int→Option (Bool)
 | 0,_,_=>none
 | k+1,x0,x3=>if x3 < (x0.length:Int) then (if 0≤x3 then ((spec_l1In.f (rd x0 x3) (-9) 9).bind fun t77002=>(if t77002=true then (spec_l9Coeffs.l0 k x0 (wrap64 (x3+1))) else (some false))) else (none)) else (some ((x0.length:Int) == 3))
def spec_l9Coeffs.f (k:Nat) (l0:List Int):Option (Bool):=spec_l9Coeffs.l0 k l0 0
theorem spec_l9Coeffs.calls (k:Nat) (A0:Option Addr) (c0:Nat) (l0:List Int) (r:Bool) (w:World) (hr0:Kd.C (Kd.int .i64) w A0 l0.length l0) (hc0:l0.length≤c0) (h:spec_l9Coeffs.f k l0=some r) :
   Calls Try.prog 77 #[.slice A0 l0.length c0] w fun e w'=>e = .returned (.bool r)∧Drawn0 w w':=by
 have HR0:=zk hr0
 have HC0:=zk hc0
 clear hr0 hc0
 have H:=h
 unfold spec_l9Coeffs.f at H
 clear h
 have H':=zk H
 clear H
 go_enter Try.func77,Try.ntmps77
 go_wp2
 try simp only [Act.put,zt,zv,zu]
 go_loopg [3] k (fun kq v3 w'=>∃ (x3_1:Int),v3 = .int .i64 x3_1∧Aside0 (spec_l9Coeffs.l0 kq l0 x3_1=some r)∧Aside0 (kq≤k)∧Drawn0 w w')
 case atStart=>exact ⟨(0),za8,H',⟨Nat.le_refl _⟩,za20⟩
 case round =>
  clear H'
  obtain ⟨x3_1,rfl,HA,HK1,⟨m1,rfl⟩⟩:=hrel
  cases gk with
  | zero=>exact absurd HA.out (by simp [spec_l9Coeffs.l0])
  | succ k1 =>
   have H:=HA.out
   clear HA
   simp only [spec_l9Coeffs.l0] at H
   by_cases c2:x3_1 < (l0.length:Int)
   rw [if_pos c2] at H
   have c2b0:=zdl c2
   clear c2
   by_cases c3:0≤x3_1
   rw [if_pos c3] at H
   have c3b0:=zdle c3
   clear c3
   replace H:=zo H
   obtain ⟨t77002,A40,H⟩:=H
   try dsimp only at H
   have A4:=zk A40
   clear A40
   by_cases c5:t77002=true
   subst c5
   rw [if_pos rfl] at H
   try dsimp only at H
   have H':=zk H
   clear H
   have fin0_:=zk trivial
   rotate_left
   replace c5:=Bool.eq_false_iff.mpr c5
   subst c5
   rw [if_neg (show ¬ (false=true) by decide)] at H
   try dsimp only at H
   obtain rfl:=zi H
   have fin1_:=zk trivial
   rotate_left
   · rw [if_neg c3] at H
     exact absurd H (by simp)
   · rw [if_neg c2] at H
     have c2b0:=zdnl c2
     clear c2
     obtain rfl:=zi H
     go_wp2
     go_ret
     exact ⟨za8,za20⟩
   all_goals
    have p77001:0≤(x3_1:Int):=of_decide_eq_true za7
    have q77001:x3_1 < (l0.length:Int):=of_decide_eq_true za7
    obtain ⟨ad77001,e77001,hx77001_0⟩:=Kd.at_int HR0.out x3_1 p77001 q77001
    cases e77001
    replace p77001:=eq_true p77001
    replace q77001:=eq_true q77001
    go_wp2_with (((with_reducible refine gate_callee (f:=78) rfl ?_);refine goesL_ (some 14) rfl rfl Try.func78 (by kernel_rfl) rfl #[.int .i64 (rd l0 x3_1),.int .i64 (-9),.int .i64 9] rfl za4 ?_;(with_reducible refine (spec_l1In.calls (rd l0 x3_1) (-9) 9 _ _ A4.out).mono ?_);rintro e w' ⟨rfl,⟨nd,rfl⟩⟩;refine ⟨_,rfl,?_⟩))
    first
    | (
      clear fin0_
      go_roundg k1
      case measure=>have:=HK1.out;omega
      case rel=>exact ⟨(wrap64 (x3_1+1)),za8,H',⟨za60⟩,za20⟩)
    | (
      clear fin1_
      go_ret
      exact ⟨za8,za20⟩)
mutual
def spec_IsValidConstraint.j0:Nat→Bool→Int→ByteArray→ByteArray→Int→ByteArray→List (S58)→List Int→Int→Option (Bool)
 | 0,_,_,_,_,_,_,_,_,_=>none
 | k+1,x3,x58002000,x58002001,x58002002,x58002003,x58002004,x58002005,x58002006,x58002007=>if x58002000=1 then (spec_IsValidConstraint.j1 k x3 x58002000 (x58002000 == 1) x58002000 x58002001 x58002002 x58002003 x58002004 x58002005 x58002006 x58002007) else (spec_IsValidConstraint.j1 k x3 x58002000 (x58002000 == 2) x58002000 x58002001 x58002002 x58002003 x58002004 x58002005 x58002006 x58002007)
def spec_IsValidConstraint.j1:Nat→Bool→Int→Bool→Int→ByteArray→ByteArray→Int→ByteArray→List (S58)→List Int→Int→Option (Bool)
 | 0,_,_,_,_,_,_,_,_,_,_,_=>none
 | k+1,x3,x14,x15,x58002000,x58002001,x58002002,x58002003,x58002004,x58002005,x58002006,x58002007=>if x15=true then ((spec_IsTerm.f k x58002001).bind fun t58002=>(if t58002=true then ((spec_IsTerm.f k x58002002).bind fun t58003=>(if t58003=true then ((spec_l9Zero.f x58002003 x58002004 x58002005).bind fun t58004=>(if t58004=true then (some x3) else (some false))) else (some false))) else (some false))) else (if x14=3 then (spec_IsValidConstraint.j2 k x3 x14 (x14 == 3) x58002000 x58002001 x58002002 x58002003 x58002004 x58002005 x58002006 x58002007) else (spec_IsValidConstraint.j2 k x3 x14 (x14 == 4) x58002000 x58002001 x58002002 x58002003 x58002004 x58002005 x58002006 x58002007))
def spec_IsValidConstraint.j2:Nat→Bool→Int→Bool→Int→ByteArray→ByteArray→Int→ByteArray→List (S58)→List Int→Int→Option (Bool)
 | 0,_,_,_,_,_,_,_,_,_,_,_=>none
 | k+1,x3,x14,x34,x58002000,x58002001,x58002002,x58002003,x58002004,x58002005,x58002006,x58002007=>if x34=true then ((spec_IsTerm.f k x58002001).bind fun t58005=>(if t58005=true then (if x58002002.toList=([]:List UInt8) then ((spec_IsValidRegex.f k x58002003 x58002004 x58002005).bind fun t58006=>(if t58006=true then (some x3) else (some false))) else (some false)) else (some false))) else (if x14=5 then (if x58002001.toList=([]:List UInt8) then (if x58002002.toList=([]:List UInt8) then ((spec_l9Zero.f x58002003 x58002004 x58002005).bind fun t58007=>(if t58007=true then ((spec_l9Coeffs.f k x58002006).bind fun t58008=>(if t58008=true then ((spec_l1In.f x58002007 (-99) 99).bind fun t58009=>(some t58009)) else (some false))) else (some false))) else (some false)) else (some false)) else (some false))
end
def spec_IsValidConstraint.f (k:Nat) (a0_0:Int) (a0_1:ByteArray) (a0_2:ByteArray) (a0_3:Int) (a0_4:ByteArray) (l0_5:List (S58)) (l0_6:List Int) (a0_7:Int):Option (Bool):=if (l0_6.length:Int)=0 then (spec_IsValidConstraint.j0 k (a0_7 == 0) a0_0 a0_1 a0_2 a0_3 a0_4 l0_5 l0_6 a0_7) else (spec_IsValidConstraint.j0 k false a0_0 a0_1 a0_2 a0_3 a0_4 l0_5 l0_6 a0_7)
theorem spec_IsValidConstraint.calls (k:Nat) (a0_0:Int) (a0_1:ByteArray) (a0_2:ByteArray) (a0_3:Int) (a0_4:ByteArray) (A0_5:Option Addr) (c0_5:Nat) (l0_5:List (S58)) (A0_6:Option Addr) (c0_6:Nat) (l0_6:List Int) (a0_7:Int) (r:Bool) (w:World) (hr0_5:Kd.C k58 w A0_5 l0_5.length l0_5) (hc0_5:l0_5.length≤c0_5) (hr0_6:Kd.C (Kd.int .i64) w A0_6 l0_6.length l0_6) (hc0_6:l0_6.length≤c0_6) (h:spec_IsValidConstraint.f k a0_0 a0_1 a0_2 a0_3 a0_4 l0_5 l0_6 a0_7=some r) :
   Calls Try.prog 58 #[.agg #[.int .i64 a0_0,.string a0_1,.string a0_2,.int .i64 a0_3,.string a0_4,.slice A0_5 l0_5.length c0_5,.slice A0_6 l0_6.length c0_6,.int .i64 a0_7]] w fun e w'=>e = .returned (.bool r)∧Below w.heap.size w w':=by
 have hu61:=Try.underlying61
 have hu58:=Try.underlying58
 have HR0_5:=zk hr0_5
 have HC0_5:=zk hc0_5
 clear hr0_5 hc0_5
 have HR0_6:=zk hr0_6
 have HC0_6:=zk hc0_6
 clear hr0_6 hc0_6
 have HB:=zk (Below.refl w.heap.size w)
 have H:=h
 unfold spec_IsValidConstraint.f at H
 clear h
 have HC2:=zk H
 clear H
 go_enter Try.func58,Try.ntmps58
 go_upto_region 1 with (first|((with_reducible refine gate_dst (N:=1) rfl ?_);refine zE (N:=1) (cs:=#[.int .i64 a0_0,.string a0_1,.string a0_2,.int .i64 a0_3,.string a0_4,.slice A0_5 l0_5.length c0_5,.slice A0_6 l0_6.length c0_6,.int .i64 a0_7]) (t:=61) ?_;intro gb58001 hg w3 hbox hb;have BK58001:=zk (hbox);have GW58001:=zk (zs (w:=w) hg za3);have GE58001:=zk (zs (w:=w) hg za3);replace HB:=zk (below_step za3 hb);clear hb hbox hg))
 (try simp only [Act.put,zt,zu,zv])
 go_cut [3] (fun v3 wc=>∃ (kq:Nat) (x3_1:Bool),v3 = .bool x3_1∧Aside0 (spec_IsValidConstraint.j0 kq x3_1 a0_0 a0_1 a0_2 a0_3 a0_4 l0_5 l0_6 a0_7=some r)∧Aside0 (kq≤k)∧Aside0 (wc.heap[gb58001]? = some (.cells #[.int .i64 a0_0,.string a0_1,.string a0_2,.int .i64 a0_3,.string a0_4,(.slice A0_5 l0_5.length c0_5),(.slice A0_6 l0_6.length c0_6),.int .i64 a0_7] 61 (0,0)))∧Aside0 (Below w.heap.size w wc))
 case first =>
  have H:=HC2.out
  clear HC2
  by_cases c4:(l0_6.length:Int)=0
  · rw [if_pos c4] at H
    have c4b0:=zbt c4
    have c4b1:=zqn c4
    clear c4
    (first|rw [c4b0]|(simp only [i64_w,i32_w];rw [c4b0])|skip)
    have H':=zk H
    clear H
    obtain ⟨hcz5_0,hcz5_1,hcz5_2,hcz5_3,hcz5_4,hcz5_5,hcz5_6,hcz5_7,hfz5_0,hfz5_1,hfz5_2,hfz5_3,hfz5_4,hfz5_5,hfz5_6,hfz5_7⟩:=blk8 BK58001.out
    go_wp2
    go_meet
    case rel=>exact ⟨_,((a0_7 == 0)),za8,H',⟨za63⟩,⟨za1 BK58001.out⟩,⟨za3⟩⟩
  · rw [if_neg c4] at H
    have c4b0:=zbn c4
    have c4b1:=zqt c4
    have c4b2:¬ (l0_6 = []):=fun h_=>c4 (by rw [h_];rfl)
    (first|rw [c4b0]|(simp only [i64_w,i32_w];rw [c4b0])|skip)
    have H':=zk H
    clear H
    obtain ⟨hcz6_0,hcz6_1,hcz6_2,hcz6_3,hcz6_4,hcz6_5,hcz6_6,hcz6_7,hfz6_0,hfz6_1,hfz6_2,hfz6_3,hfz6_4,hfz6_5,hfz6_6,hfz6_7⟩:=blk8 BK58001.out
    go_wp2
    go_meet
    case rel=>exact ⟨_,(false),za8,H',⟨za63⟩,⟨za1 BK58001.out⟩,⟨za3⟩⟩
 case rest =>
  clear HC2
  obtain ⟨kq,x3_1,rfl,HA,HJ1,BK58001,HB⟩:=hcut
  cases kq with
  | zero=>exact absurd HA.out (by simp [spec_IsValidConstraint.j0])
  | succ kj1 =>
   have H:=HA.out
   clear HA
   simp only [spec_IsValidConstraint.j0] at H
   have HC7:=zk H
   clear H
   obtain ⟨hcz8_0,hcz8_1,hcz8_2,hcz8_3,hcz8_4,hcz8_5,hcz8_6,hcz8_7,hfz8_0,hfz8_1,hfz8_2,hfz8_3,hfz8_4,hfz8_5,hfz8_6,hfz8_7⟩:=blk8 BK58001.out
   go_upto_if 15 with (fail)
   go_cut [15] (fun v15 wc=>∃ (kq:Nat) (x15_6:Bool),v15 = .bool x15_6∧Aside0 (spec_IsValidConstraint.j1 kq x3_1 a0_0 x15_6 a0_0 a0_1 a0_2 a0_3 a0_4 l0_5 l0_6 a0_7=some r)∧Aside0 (kq≤kj1)∧Aside0 (wc.heap[gb58001]? = some (.cells #[.int .i64 a0_0,.string a0_1,.string a0_2,.int .i64 a0_3,.string a0_4,(.slice A0_5 l0_5.length c0_5),(.slice A0_6 l0_6.length c0_6),.int .i64 a0_7] 61 (0,0)))∧Aside0 (Below w.heap.size w wc))
   case first =>
    have H:=HC7.out
    clear HC7
    by_cases c9:a0_0=1
    · rw [if_pos c9] at H
      have c9b0:=zbt c9
      have c9b1:=zqn c9
      clear c9
      (first|rw [c9b0]|(simp only [i64_w,i32_w];rw [c9b0])|skip)
      have H':=zk H
      clear H
      go_wp2
      go_meet
      case rel=>exact ⟨_,((a0_0 == 1)),za8,H',⟨za100⟩,⟨za1 BK58001.out⟩,⟨za3⟩⟩
    · rw [if_neg c9] at H
      have c9b0:=zbn c9
      have c9b1:=zqt c9
      (first|rw [c9b0]|(simp only [i64_w,i32_w];rw [c9b0])|skip)
      have H':=zk H
      clear H
      go_wp2
      go_meet
      case rel=>exact ⟨_,((a0_0 == 2)),za8,H',⟨za100⟩,⟨za1 BK58001.out⟩,⟨za3⟩⟩
   case rest =>
    clear HC7
    try clear hcz8_0
    try clear hcz8_1
    try clear hcz8_2
    try clear hcz8_3
    try clear hcz8_4
    try clear hcz8_5
    try clear hcz8_6
    try clear hcz8_7
    try clear hfz8_0
    try clear hfz8_1
    try clear hfz8_2
    try clear hfz8_3
    try clear hfz8_4
    try clear hfz8_5
    try clear hfz8_6
    try clear hfz8_7
    obtain ⟨kq,x15_6,rfl,HA,HJ6,BK58001,HB⟩:=hcut
    cases kq with
    | zero=>exact absurd HA.out (by simp [spec_IsValidConstraint.j1])
    | succ kj6 =>
     have H:=HA.out
     clear HA
     simp only [spec_IsValidConstraint.j1] at H
     by_cases c10:x15_6=true
     subst c10
     rw [if_pos rfl] at H
     try dsimp only at H
     replace H:=zo H
     obtain ⟨t58002,A110,H⟩:=H
     try dsimp only at H
     have A11:=zk A110
     clear A110
     by_cases c12:t58002=true
     subst c12
     rw [if_pos rfl] at H
     try dsimp only at H
     replace H:=zo H
     obtain ⟨t58003,A130,H⟩:=H
     try dsimp only at H
     have A13:=zk A130
     clear A130
     by_cases c14:t58003=true
     subst c14
     rw [if_pos rfl] at H
     try dsimp only at H
     replace H:=zo H
     obtain ⟨t58004,A150,H⟩:=H
     try dsimp only at H
     have A15:=zk A150
     clear A150
     by_cases c16:t58004=true
     subst c16
     have H1:(some x3_1)=some r:=by rw [if_pos rfl] at H;exact H
     rotate_left
     replace c16:=Bool.eq_false_iff.mpr c16
     subst c16
     have H1:(some false)=some r:=by rw [if_neg (show ¬ (false=true) by decide)] at H;exact H
     rotate_left
     replace c14:=Bool.eq_false_iff.mpr c14
     subst c14
     have H1:(some false)=some r:=by rw [if_neg (show ¬ (false=true) by decide)] at H;exact H
     rotate_left
     replace c12:=Bool.eq_false_iff.mpr c12
     subst c12
     have H1:(some false)=some r:=by rw [if_neg (show ¬ (false=true) by decide)] at H;exact H
     rotate_left
     · replace c10:=Bool.eq_false_iff.mpr c10
       subst c10
       rw [if_neg (show ¬ (false=true) by decide)] at H
       try dsimp only at H
       have HC23:=zk H
       clear H
       go_upto_if 34 with (fail)
       go_cut [34] (fun v34 wc=>∃ (kq:Nat) (x34_22:Bool),v34 = .bool x34_22∧Aside0 (spec_IsValidConstraint.j2 kq x3_1 a0_0 x34_22 a0_0 a0_1 a0_2 a0_3 a0_4 l0_5 l0_6 a0_7=some r)∧Aside0 (kq≤kj6)∧Aside0 (wc.heap[gb58001]? = some (.cells #[.int .i64 a0_0,.string a0_1,.string a0_2,.int .i64 a0_3,.string a0_4,(.slice A0_5 l0_5.length c0_5),(.slice A0_6 l0_6.length c0_6),.int .i64 a0_7] 61 (0,0)))∧Aside0 (Below w.heap.size w wc))
       case first =>
        have H:=HC23.out
        clear HC23
        by_cases c24:a0_0=3
        · rw [if_pos c24] at H
          have c24b0:=zbt c24
          have c24b1:=zqn c24
          clear c24
          (first|rw [c24b0]|(simp only [i64_w,i32_w];rw [c24b0])|skip)
          have H':=zk H
          clear H
          go_wp2
          go_meet
          case rel=>exact ⟨_,((a0_0 == 3)),za8,H',⟨by have:=HJ1.out;have:=HJ6.out;first|omega|exact Nat.le_refl _⟩,⟨za1 BK58001.out⟩,⟨za3⟩⟩
        · rw [if_neg c24] at H
          have c24b0:=zbn c24
          have c24b1:=zqt c24
          (first|rw [c24b0]|(simp only [i64_w,i32_w];rw [c24b0])|skip)
          have H':=zk H
          clear H
          go_wp2
          go_meet
          case rel=>exact ⟨_,((a0_0 == 4)),za8,H',⟨by have:=HJ1.out;have:=HJ6.out;first|omega|exact Nat.le_refl _⟩,⟨za1 BK58001.out⟩,⟨za3⟩⟩
       case rest =>
        clear HC23
        try clear c10
        try clear hcz8_0
        try clear hcz8_1
        try clear hcz8_2
        try clear hcz8_3
        try clear hcz8_4
        try clear hcz8_5
        try clear hcz8_6
        try clear hcz8_7
        try clear hfz8_0
        try clear hfz8_1
        try clear hfz8_2
        try clear hfz8_3
        try clear hfz8_4
        try clear hfz8_5
        try clear hfz8_6
        try clear hfz8_7
        obtain ⟨kq,x34_22,rfl,HA,HJ22,BK58001,HB⟩:=hcut
        cases kq with
        | zero=>exact absurd HA.out (by simp [spec_IsValidConstraint.j2])
        | succ kj22 =>
         have H:=HA.out
         clear HA
         simp only [spec_IsValidConstraint.j2] at H
         by_cases c25:x34_22=true
         subst c25
         rw [if_pos rfl] at H
         try dsimp only at H
         replace H:=zo H
         obtain ⟨t58005,A260,H⟩:=H
         try dsimp only at H
         have A26:=zk A260
         clear A260
         by_cases c27:t58005=true
         subst c27
         rw [if_pos rfl] at H
         try dsimp only at H
         by_cases c28:a0_2.toList=([]:List UInt8)
         rw [if_pos c28] at H
         have c28b0:=zbt c28
         have c28b1:=zqn c28
         clear c28
         replace H:=zo H
         obtain ⟨t58006,A290,H⟩:=H
         try dsimp only at H
         have A29:=zk A290
         clear A290
         by_cases c30:t58006=true
         subst c30
         rw [if_pos rfl] at H
         try dsimp only at H
         rotate_left
         replace c30:=Bool.eq_false_iff.mpr c30
         subst c30
         rw [if_neg (show ¬ (false=true) by decide)] at H
         try dsimp only at H
         rotate_left
         rw [if_neg c28] at H
         have c28b0:=zbn c28
         have c28b1:=zqt c28
         rotate_left
         replace c27:=Bool.eq_false_iff.mpr c27
         subst c27
         rw [if_neg (show ¬ (false=true) by decide)] at H
         try dsimp only at H
         rotate_left
         replace c25:=Bool.eq_false_iff.mpr c25
         subst c25
         rw [if_neg (show ¬ (false=true) by decide)] at H
         try dsimp only at H
         by_cases c37:a0_0=5
         rw [if_pos c37] at H
         have c37b0:=zbt c37
         have c37b1:=zqn c37
         clear c37
         by_cases c38:a0_1.toList=([]:List UInt8)
         rw [if_pos c38] at H
         have c38b0:=zbt c38
         have c38b1:=zqn c38
         clear c38
         by_cases c39:a0_2.toList=([]:List UInt8)
         rw [if_pos c39] at H
         have c39b0:=zbt c39
         have c39b1:=zqn c39
         clear c39
         replace H:=zo H
         obtain ⟨t58007,A400,H⟩:=H
         try dsimp only at H
         have A40:=zk A400
         clear A400
         by_cases c41:t58007=true
         subst c41
         rw [if_pos rfl] at H
         try dsimp only at H
         replace H:=zo H
         obtain ⟨t58008,A420,H⟩:=H
         try dsimp only at H
         have A42:=zk A420
         clear A420
         by_cases c43:t58008=true
         subst c43
         rw [if_pos rfl] at H
         try dsimp only at H
         replace H:=zo H
         obtain ⟨t58009,A440,H⟩:=H
         try dsimp only at H
         have A44:=zk A440
         clear A440
         rotate_left
         replace c43:=Bool.eq_false_iff.mpr c43
         subst c43
         rw [if_neg (show ¬ (false=true) by decide)] at H
         try dsimp only at H
         rotate_left
         replace c41:=Bool.eq_false_iff.mpr c41
         subst c41
         rw [if_neg (show ¬ (false=true) by decide)] at H
         try dsimp only at H
         rotate_left
         rw [if_neg c39] at H
         have c39b0:=zbn c39
         have c39b1:=zqt c39
         rotate_left
         rw [if_neg c38] at H
         have c38b0:=zbn c38
         have c38b1:=zqt c38
         rotate_left
         · rw [if_neg c37] at H
           have c37b0:=zbn c37
           have c37b1:=zqt c37
           obtain rfl:=zi H
           go_wp2
           go_ret
           exact ⟨za9,za3⟩
         all_goals
          obtain rfl:=zi H
          obtain ⟨hcz45_0,hcz45_1,hcz45_2,hcz45_3,hcz45_4,hcz45_5,hcz45_6,hcz45_7,hfz45_0,hfz45_1,hfz45_2,hfz45_3,hfz45_4,hfz45_5,hfz45_6,hfz45_7⟩:=blk8 BK58001.out
          go_wp2_with (first|(go_at_call 75;(with_reducible refine (spec_l9Zero.calls a0_3 a0_4 _ _ l0_5 _ _ ?side1 ?side2 A40.out).mono ?_);(case side1=>repeat (first|exact (Kd.C_below HR0_5.out HB.out)|(with_reducible refine Kd.C_alloc ?_ _)|(with_reducible refine Kd.C_drewN ?_ _)|(with_reducible refine Kd.C_drew ?_)));(case side2=>exact HC0_5.out);rintro e w46 ⟨rfl,hb⟩;replace BK58001:=zk (zb BK58001.out hb);replace HB:=zk (below_step za3 hb);(try clear hb);(try clear hb2);(try clear hk);(try clear hi);obtain ⟨hcz47_0,hcz47_1,hcz47_2,hcz47_3,hcz47_4,hcz47_5,hcz47_6,hcz47_7,hfz47_0,hfz47_1,hfz47_2,hfz47_3,hfz47_4,hfz47_5,hfz47_6,hfz47_7⟩:=blk8 BK58001.out)|(go_at_call 77;(with_reducible refine (spec_l9Coeffs.calls kj22 _ _ l0_6 _ _ ?side1 ?side2 A42.out).mono ?_);(case side1=>repeat (first|exact (Kd.C_below HR0_6.out HB.out)|(with_reducible refine Kd.C_alloc ?_ _)|(with_reducible refine Kd.C_drewN ?_ _)|(with_reducible refine Kd.C_drew ?_)));(case side2=>exact HC0_6.out);rintro e w' ⟨rfl,⟨nd,rfl⟩⟩)|(go_at_call 78;(with_reducible refine (spec_l1In.calls a0_7 (-99) 99 t58009 _ A44.out).mono ?_);rintro e w' ⟨rfl,⟨nd,rfl⟩⟩)|((with_reducible refine gate_callee (f:=74) rfl ?_);refine goesL_ (some 39) rfl rfl Try.func74 (by kernel_rfl) rfl #[.string a0_1] rfl za4 ?_;(with_reducible refine (spec_IsTerm.calls kj22 a0_1 _ _ A26.out).mono ?_);rintro e w' ⟨rfl,⟨nd,rfl⟩⟩;refine ⟨_,rfl,?_⟩)|(go_at_call 76;(with_reducible refine (spec_IsValidRegex.calls kj22 a0_3 a0_4 _ _ l0_5 _ _ ?side1 ?side2 A29.out).mono ?_);(case side1=>repeat (first|exact (Kd.C_below HR0_5.out za3)|(with_reducible refine Kd.C_alloc ?_ _)|(with_reducible refine Kd.C_drewN ?_ _)|(with_reducible refine Kd.C_drew ?_)));(case side2=>exact HC0_5.out);rintro e w32 ⟨rfl,hb⟩;replace BK58001:=zk (zb BK58001.out hb);replace HB:=zk (below_step za3 hb);(try clear hb);(try clear hb2);(try clear hk);(try clear hi)))
          go_ret
          exact ⟨za9,za3⟩
     all_goals
      clear H
      have H:=H1
      clear H1
      obtain rfl:=zi H
      obtain ⟨hcz17_0,hcz17_1,hcz17_2,hcz17_3,hcz17_4,hcz17_5,hcz17_6,hcz17_7,hfz17_0,hfz17_1,hfz17_2,hfz17_3,hfz17_4,hfz17_5,hfz17_6,hfz17_7⟩:=blk8 BK58001.out
      go_wp2_with (first|((with_reducible refine gate_callee (f:=74) rfl ?_);refine goesL_ (some 20) rfl rfl Try.func74 (by kernel_rfl) rfl #[.string a0_1] rfl za4 ?_;(with_reducible refine (spec_IsTerm.calls kj6 a0_1 _ _ A11.out).mono ?_);rintro e w' ⟨rfl,⟨nd,rfl⟩⟩;refine ⟨_,rfl,?_⟩)|(go_at_call 74;(with_reducible refine (spec_IsTerm.calls kj6 a0_2 _ _ A13.out).mono ?_);rintro e w' ⟨rfl,⟨nd,rfl⟩⟩)|(go_at_call 75;(with_reducible refine (spec_l9Zero.calls a0_3 a0_4 _ _ l0_5 _ _ ?side1 ?side2 A15.out).mono ?_);(case side1=>repeat (first|exact (Kd.C_below HR0_5.out za3)|(with_reducible refine Kd.C_alloc ?_ _)|(with_reducible refine Kd.C_drewN ?_ _)|(with_reducible refine Kd.C_drew ?_)));(case side2=>exact HC0_5.out);rintro e w18 ⟨rfl,hb⟩;replace BK58001:=zk (zb BK58001.out hb);replace HB:=zk (below_step za3 hb);(try clear hb);(try clear hb2);(try clear hk);(try clear hi)))
      go_ret
      exact ⟨za9,za3⟩
end Go.Proofs.Ytgajchjnljekgaa.A
