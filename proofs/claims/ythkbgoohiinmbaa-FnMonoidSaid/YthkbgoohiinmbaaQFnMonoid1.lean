/- FnMonoid: what its proof needs, put together by this session's program wip/merge.py out of the texts that wip/xp.py printed and of this session's own. -/
import Derived.Test.YthkbgoohiinmbaaQFnMonoid0
import Derived.Test.YthkbgoohiinmbaaProg
import Derived.Lib.Bytealg
import Derived.Lib.Walk
import Derived.Below
import Derived.Deep.Draws
import Derived.Deep.AppendLies
import Derived.Maps.AppendAt
import Derived.OwnWalk
import Derived.Laws.BytesArg
import Derived.Laws.MakeOwn
import Derived.Laws.OwnMore
import Derived.Deep.OwnRows
import Derived.Tactics
import Derived.Lib.ConvBytes
import Derived.Laws.Slices
import Derived.WalkKit
import Derived.KernelRfl
import Derived.RowKit3
import Derived.Deep.LoopGhost
import Derived.Deep.QuietTactic
import Derived.BigQuiet
import Derived.WideLaws
import Derived.Deep.DeepCutAuto
import Derived.Deep.CutBlock
import Derived.Deep.RegionHeld3
import Derived.Laws.Rows
import Derived.Lib.AppendStr
import Derived.ArgAppend
import Derived.Laws.IdiomCopy
import Derived.OrdersHeld
import Derived.Laws.BitsLemmas
import Derived.RowKit
set_option linter.unusedVariables false
set_option linter.unusedSimpArgs false
set_option linter.unusedSectionVars false
set_option maxHeartbeats 8000000
set_option maxRecDepth 100000
namespace Go.Proofs.Ythkbgoohiinmbaa
open Go Go.RowKit Go.Proofs.YthkbgoohiinmbaaW.PrintWords
theorem zk {P : Prop} (h : P) : Aside0 P := ⟨h⟩
theorem zE {P : Program} {ops : Array Oper} {rest : List Oper} {o : Oper} {a : Act} {Q : Exit → Act → World → Prop} {W : World} {cs : Array Value} {t : TypeId} (h : ∀ g, g = W.heap.size → ∀ w1, w1.heap[g]? = some (.cells cs t (0, 0)) → Below W.heap.size W w1 → wpList P ops Q rest (a.put o.dst (.pointer (some ⟨g, 0, none⟩))) w1) (hgd : o.guard = none := by rfl) (hr : (execOp a.eval o).run P W = .ok (.value (.pointer (some ⟨W.heap.size, 0, none⟩))) (W.alloc (.cells cs t (0, 0))) := by first | (go_simp; done) | (go_simp; rfl)) : wpList P ops Q (o :: rest) a W := Kd.event_run hgd hr (h _ rfl _ (blk_new W _) (below_alloc (Below.refl _ _) _))
theorem zO {α β : Type} {o : Option α} {f : α → Option β} {b : β} (h : o.bind f = some b) : ∃ a, Aside0 (o = some a) ∧ f a = some b := by
 obtain ⟨a, h1, h2⟩ := Option.bind_eq_some_iff.mp h
 exact ⟨a, ⟨h1⟩, h2⟩
theorem zff : ¬ (false = true) := by decide
theorem zm {a b c : Nat} (hg : c = b) (h : a < b) : a ≠ c := by omega
theorem zM {a b c : Nat} (hg : c = b) (h : a < b) : c ≠ a := by omega
theorem zb {W0 W1 W2 : World} {g : Nat} {o : Obj} (h : W0.heap[g]? = some o) (hb : Below W1.heap.size W1 W2) (f : W0.heap[g]? = some o → W1.heap[g]? = some o := by intro h_; (with_reducible repeat (first | refine blk_drewN ?_ _ | refine blk_drew ?_ | refine blk_alloc ?_ _)); exact h_) : W2.heap[g]? = some o := blk_below (f h) hb
theorem zl {W0 W1 : World} {g : Nat} {o : Obj} (h : W0.heap[g]? = some o) (f : W0.heap[g]? = some o → W1.heap[g]? = some o := by intro h_; (with_reducible repeat (first | refine blk_drewN ?_ _ | refine blk_drew ?_ | refine blk_alloc ?_ _)); exact h_) : g < W1.heap.size := blk_lt (f h)
theorem zn {W0 W1 : World} {g c : Nat} {o : Obj} (hg : c = W1.heap.size) (h : W0.heap[g]? = some o) (f : W0.heap[g]? = some o → W1.heap[g]? = some o := by intro h_; (with_reducible repeat (first | refine blk_drewN ?_ _ | refine blk_drew ?_ | refine blk_alloc ?_ _)); exact h_) : g ≠ c := by
 rw [hg]
 exact Nat.ne_of_lt (blk_lt (f h))
theorem zp {W0 W1 : World} {g c : Nat} {o : Obj} (hg : c = W1.heap.size) (h : W0.heap[g]? = some o) (f : W0.heap[g]? = some o → W1.heap[g]? = some o := by intro h_; (with_reducible repeat (first | refine blk_drewN ?_ _ | refine blk_drew ?_ | refine blk_alloc ?_ _)); exact h_) : c ≠ g := by
 rw [hg]
 exact Nat.ne_of_gt (blk_lt (f h))
theorem zq {W0 W1 W2 : World} {g b : Nat} {r : Option Nat} {o : Obj} (hk : KeepBut W1 W2 b r) (h : W0.heap[g]? = some o) (n : g ≠ b) (f : W0.heap[g]? = some o → W1.heap[g]? = some o := by intro h_; (with_reducible repeat (first | refine blk_drewN ?_ _ | refine blk_drew ?_ | refine blk_alloc ?_ _)); exact h_) (e : some g ≠ r := by simp) : W2.heap[g]? = some o := KeepBut.blk hk (f h) n e
theorem zF {W0 W1 : World} {g : Nat} {o : Obj} (h : W0.heap[g]? = some o) (k : Nat) (hk : W1.heap.size ≤ k) (f : W0.heap[g]? = some o → W1.heap[g]? = some o := by intro h_; (with_reducible repeat (first | refine blk_drewN ?_ _ | refine blk_drew ?_ | refine blk_alloc ?_ _)); exact h_) : k ≠ g := Kd.freshB (f h) k hk
theorem zg {P : Program} {ops : Array Oper} {Q : Exit → Act → World → Prop} {rest : List Oper} {oi : Oper} {a : Act} {w : World} (N : Option Tmp) {f : FuncId} {fn : Func} {xs : Array Operand} {ts : Array TypeId} (hf : P.funcs[f]? = some fn) (args : Array Value) (hop : oi.op = .call { callee := .value (.func f), args := xs, argTypes := ts }) (hargs : xs.map a.eval = args) (h : Calls P f args w fun e w' => ∃ v, e = .returned v ∧ wpList P ops Q rest (a.put N v) w') (hd : oi.dst = N := by exact rfl) (hg : oi.guard = none := by exact rfl) (hname : (fn.name == "runtime.NumGoroutine") = false := by kernel_rfl) (hb : fn.body.isSome = true := by exact rfl) : wpList P ops Q (oi :: rest) a w := Go.Proofs.YthkbgoohiinmbaaW.PrintLast.goesL_ N hd hg hf hname hb args hop hargs h
theorem yb {W0 W1 W2 : World} {g : Nat} {o : Obj} (h : Aside0 (W0.heap[g]? = some o)) (hb : Below W1.heap.size W1 W2) (f : W0.heap[g]? = some o → W1.heap[g]? = some o := by intro h_; (with_reducible repeat (first | refine blk_drewN ?_ _ | refine blk_drew ?_ | refine blk_alloc ?_ _)); exact h_) : Aside0 (W2.heap[g]? = some o) := ⟨blk_below (f h.out) hb⟩
theorem yn {W0 W1 : World} {g c : Nat} {o : Obj} (hg : c = W1.heap.size) (h : Aside0 (W0.heap[g]? = some o)) (f : W0.heap[g]? = some o → W1.heap[g]? = some o := by intro h_; (with_reducible repeat (first | refine blk_drewN ?_ _ | refine blk_drew ?_ | refine blk_alloc ?_ _)); exact h_) : Aside0 (g ≠ c) := ⟨zn hg (f h.out) (fun h => h)⟩
theorem yp {W0 W1 : World} {g c : Nat} {o : Obj} (hg : c = W1.heap.size) (h : Aside0 (W0.heap[g]? = some o)) (f : W0.heap[g]? = some o → W1.heap[g]? = some o := by intro h_; (with_reducible repeat (first | refine blk_drewN ?_ _ | refine blk_drew ?_ | refine blk_alloc ?_ _)); exact h_) : Aside0 (c ≠ g) := ⟨zp hg (f h.out) (fun h => h)⟩
theorem yq {W0 W1 W2 : World} {g b : Nat} {r : Option Nat} {o : Obj} (hk : KeepBut W1 W2 b r) (h : Aside0 (W0.heap[g]? = some o)) (n : Aside0 (g ≠ b)) (f : W0.heap[g]? = some o → W1.heap[g]? = some o := by intro h_; (with_reducible repeat (first | refine blk_drewN ?_ _ | refine blk_drew ?_ | refine blk_alloc ?_ _)); exact h_) (e : some g ≠ r := by simp) : Aside0 (W2.heap[g]? = some o) := ⟨KeepBut.blk hk (f h.out) n.out e⟩
theorem zpw {W0 W : World} {g : Nat} {o o' : Obj} (h : W0.heap[g]? = some o) (f : W0.heap[g]? = some o → W.heap[g]? = some o' := by intro h_; repeat (first | with_reducible exact h_ | with_reducible refine blk_drewN ?_ _ | with_reducible refine blk_drew ?_ | with_reducible refine blk_alloc ?_ _ | with_reducible apply blk_put | with_reducible apply blk_far (hp := Aside0.out (by assumption)) | rfl)) : W.heap[g]? = some o' := f h
theorem yB {w W0 W W2 : World} (h : Aside0 (Below w.heap.size w W0)) (hb : Below W.heap.size W W2) (f : Below w.heap.size w W0 → Below w.heap.size w W := by intro h_; repeat (first | (with_reducible first | exact h_ | apply below_alloc | apply pw_below_drewN | apply below_drew1 | refine below_set ?_ (Aside0.out (by assumption))) | exact h_)) : Aside0 (Below w.heap.size w W2) := ⟨below_step (f h.out) hb⟩
theorem yK {w W0 W W2 : World} {g : Nat} (h : Aside0 (KeepBut w W0 g none)) (hk : KeepBut W W2 g none) (f : KeepBut w W0 g none → KeepBut w W g none := by intro h_; repeat (first | (with_reducible first | exact h_ | apply KeepBut.set_ | apply keep_drewN | apply keep_drew | apply keep_alloc | refine keep_far ?_ (Aside0.out (by assumption)) _) | exact h_)) : Aside0 (KeepBut w W2 g none) := ⟨KeepBut.trans (f h.out) hk (.inl rfl)⟩
theorem yk {w W0 W W2 : World} {g : Nat} (h : Aside0 (KeepBut w W0 g none)) (hb : Below W.heap.size W W2) (f : KeepBut w W0 g none → KeepBut w W g none := by intro h_; repeat (first | (with_reducible first | exact h_ | apply KeepBut.set_ | apply keep_drewN | apply keep_drew | apply keep_alloc | refine keep_far ?_ (Aside0.out (by assumption)) _) | exact h_)) : Aside0 (KeepBut w W2 g none) := ⟨KeepBut.trans (f h.out) (KeepBut.of_below hb g none) (.inl rfl)⟩
theorem zo {α β : Type} {o : Option α} {f : α → Option β} {b : β} (h : o.bind f = some b) : ∃ a, o = some a ∧ f a = some b := Option.bind_eq_some_iff.mp h
theorem zi {α : Type} {a b : α} (h : some a = some b) : a = b := Option.some.inj h
theorem zt {α : Type} (l : List α) (i : Nat) (a : α) : l.toArray.setIfInBounds i a = (l.set i a).toArray := List.setIfInBounds_toArray l i a
theorem zu {α : Type} {x : α} {l : List α} {a : α} : (x :: l).set 0 a = a :: l := List.set_cons_zero
theorem zv {α : Type} {x : α} {l : List α} {n : Nat} {a : α} : (x :: l).set (n + 1) a = x :: l.set n a := List.set_cons_succ
theorem zs {w W : World} {g : Nat} (hg : g = W.heap.size) (hb : Below w.heap.size w W) : w.heap.size ≤ g := by
 rw [hg]
 exact below_size hb
theorem zx {w W : World} {a : Addr} {v : Value} (hB : Below w.heap.size w W) (h : w.cell? a = some v) : W.cell? a = some v := (hB.cell (World.block_lt_of_cell? w _ h)).trans h
theorem za0 {P Q : Prop} (h : Q) (f : Q → P := by intro h_; (with_reducible repeat (first | refine blk_drewN ?_ _ | refine blk_drew ?_ | refine blk_alloc ?_ _)); exact h_) : P := f h
theorem za1 {P Q : Prop} (h : Q) (f : Q → P := by intro h_; (with_reducible repeat (first | apply Kd.R_alloc | apply Kd.R_drewN | apply Kd.R_drew)); exact h_) : P := f h
theorem za2 {P Q : Prop} (h : Q) (f : Q → P := by intro h_; (with_reducible repeat (first | apply Kd.S_alloc | apply Kd.S_drewN | apply Kd.S_drew)); exact h_) : P := f h
theorem za3 {P : Prop} (h : P := by repeat (first | (with_reducible first | exact HB.out | apply below_alloc | apply pw_below_drewN | apply below_drew1 | refine below_set ?_ (Aside0.out (by assumption))) | exact HB.out)) : P := h
theorem za4 {P : Prop} (h : P := by (try simp only [List.map_toArray, List.map_cons, List.map_nil]); first | done | rfl | (simp only [List.length_drop, List.length_take]; rfl)) : P := h
theorem za5 {P : Prop} (h : P := by repeat (first | (with_reducible first | exact HK.out | apply KeepBut.set_ | apply keep_drewN | apply keep_drew | apply keep_alloc | refine keep_far ?_ GW1.out _) | exact HK.out)) : P := h
theorem za6 {P : Prop} (h : P := by repeat (first | (with_reducible first | exact HI0.out | apply IsS73.alloc | apply IsS73.drewN | apply IsS73.drew | apply IsS73.set_1 | apply IsS73.set_2) | exact HI0.out)) : P := h
theorem za7 {P : Prop} (h : P := by first | (with_reducible assumption) | assumption) : P := h
theorem za8 {P : Prop} (h : P := by repeat (first | (with_reducible first | exact HI0.out | apply IsS73.alloc | apply IsS73.drewN | apply IsS73.drew | apply IsS73.set_1 | apply IsS73.set_2 | refine IsS73.far ?_ NB0_1.out _) | exact HI0.out)) : P := h
theorem za9 {P : Prop} (h : P := by repeat (first | (with_reducible first | exact HK.out | apply KeepBut.set_ | apply keep_drewN | apply keep_drew | apply keep_alloc) | exact HK.out)) : P := h
theorem za10 {P : Prop} (h : P := by repeat (first | (with_reducible first | exact HI0.out | apply IsS73.alloc | apply IsS73.drewN | apply IsS73.drew | apply IsS73.set_1 | apply IsS73.set_2 | refine IsS73.far ?_ NB0_1.out _ | refine IsS73.far ?_ NB0_13.out _) | exact HI0.out)) : P := h
theorem za11 {P : Prop} (h : P := by repeat (first | (with_reducible first | exact HB.out | apply below_alloc | apply pw_below_drewN | apply below_drew1 | refine below_set ?_ GE1.out | refine below_set ?_ GE2.out | refine below_set ?_ GE13.out) | exact HB.out)) : P := h
theorem za12 {P : Prop} (h : P := by repeat (first | (with_reducible first | exact HB.out | apply below_alloc | apply pw_below_drewN | apply below_drew1 | refine below_set ?_ (IsS73.ge HI0.out)) | exact HB.out)) : P := h
theorem za13 {P : Prop} (h : P := by first | rfl | (simp; done) | (simp [*]; done)) : P := h
theorem za14 {P : Prop} (h : P := by repeat (first | (with_reducible first | exact HB.out | apply below_alloc | apply pw_below_drewN | apply below_drew1 | refine below_set ?_ (IsS73.ge HI5.out) | refine below_set ?_ GE1.out) | exact HB.out)) : P := h
theorem za15 {P : Prop} (h : P := by first | rfl | (simp [errW_none, errW_some] <;> rfl) | (simp [*, errW_none, errW_some] <;> rfl)) : P := h
theorem za16 {P : Prop} (h : P := by repeat (first | (with_reducible first | exact HI0.out | apply IsS73.alloc | apply IsS73.drewN | apply IsS73.drew | apply IsS73.set_1 | apply IsS73.set_2 | refine IsS73.far ?_ NB0_1.out _ | refine IsS73.far ?_ NB0_10.out _) | exact HI0.out)) : P := h
theorem za17 {P : Prop} (h : P := by repeat (first | (with_reducible first | exact HB.out | apply below_alloc | apply pw_below_drewN | apply below_drew1 | refine below_set ?_ (IsS73.ge HI0.out) | refine below_set ?_ GE1.out) | exact HB.out)) : P := h
theorem za18 {P : Prop} (h : P := by repeat (first | (with_reducible first | exact HI0.out | apply IsS73.alloc | apply IsS73.drewN | apply IsS73.drew | apply IsS73.set_1 | apply IsS73.set_2 | refine IsS73.far ?_ NB0_1.out _ | refine IsS73.far ?_ NB0_5.out _) | exact HI0.out)) : P := h
theorem za19 {P : Prop} (h : P := by (try simp only [decide_eq_true_eq, decide_eq_false_iff_not, eq_iff_iff, iff_true, iff_false] at *); (try simp only [ByteArray.size_extract, ByteArray.size_append, show (⟨#[97, 98, 99]⟩ : ByteArray).size = 3 from rfl, show (⟨#[88, 89, 90]⟩ : ByteArray).size = 3 from rfl, show (⟨#[61]⟩ : ByteArray).size = 1 from rfl] at *); omega) : P := h
theorem za20 {P : Prop} (h : P := by repeat (first | (with_reducible first | exact HK.out | apply KeepBut.set_ | apply keep_drewN | apply keep_drew | apply keep_alloc | refine keep_far ?_ GW1.out _ | refine keep_far ?_ GW13.out _) | exact HK.out)) : P := h
theorem za21 {P : Prop} (h : P := by repeat (first | (with_reducible first | exact HK.out | apply KeepBut.set_ | apply keep_drewN | apply keep_drew | apply keep_alloc | refine keep_far ?_ GW1.out _ | refine keep_far ?_ GW5.out _) | exact HK.out)) : P := h
theorem za22 {P : Prop} (h : P := by repeat (first | (with_reducible first | exact HB.out | apply below_alloc | apply pw_below_drewN | apply below_drew1 | refine below_set ?_ (IsS73.ge HI0.out) | refine below_set ?_ GE1.out | refine below_set ?_ GE13.out) | exact HB.out)) : P := h
theorem za23 {P : Prop} (h : P := by repeat (first | (with_reducible first | exact HB.out | apply below_alloc | apply pw_below_drewN | apply below_drew1) | exact HB.out)) : P := h
theorem za24 {P : Prop} (h : P := by repeat (first | (with_reducible first | exact HB.out | apply below_alloc | apply pw_below_drewN | apply below_drew1 | refine below_set ?_ GE1.out | refine below_set ?_ GE2.out) | exact HB.out)) : P := h
theorem za25 {P : Prop} (h : P := by repeat (first | exact Drawn0.refl _ | apply Drawn0.step)) : P := h
theorem za26 {P : Prop} (h : P := by repeat (first | (with_reducible first | exact HB.out | apply below_alloc | apply pw_below_drewN | apply below_drew1 | refine below_set ?_ (IsS73.ge HI0.out) | refine below_set ?_ GE1.out | refine below_set ?_ GE5.out) | exact HB.out)) : P := h
theorem za27 {P : Prop} (h : P := by repeat (first | (with_reducible first | exact HK.out | apply KeepBut.set_ | apply keep_drewN | apply keep_drew | apply keep_alloc | refine keep_far ?_ GW1.out _ | refine keep_far ?_ GW10.out _) | exact HK.out)) : P := h
theorem za28 {P : Prop} (h : P := by repeat (first | (with_reducible first | exact HI5.out | apply IsS73.alloc | apply IsS73.drewN | apply IsS73.drew | apply IsS73.set_1 | apply IsS73.set_2 | refine IsS73.far ?_ NB5_1.out _) | exact HI5.out)) : P := h
theorem za29 {P : Prop} (h : P := by repeat (first | (with_reducible first | exact HI5.out | apply IsS73.alloc | apply IsS73.drewN | apply IsS73.drew | apply IsS73.set_1 | apply IsS73.set_2 | refine IsS73.far ?_ NB5_1.out _ | refine IsS73.far ?_ NB5_17.out _) | exact HI5.out)) : P := h
theorem za30 {P : Prop} (h : P := by repeat (first | (with_reducible first | exact HB.out | apply below_alloc | apply pw_below_drewN | apply below_drew1 | refine below_set ?_ (IsS73.ge HI0.out) | refine below_set ?_ GE1.out | refine below_set ?_ GE10.out) | exact HB.out)) : P := h
theorem za31 {P : Prop} (h : P := by repeat (first | (with_reducible first | exact HB.out | apply below_alloc | apply pw_below_drewN | apply below_drew1 | refine below_set ?_ GE1.out) | exact HB.out)) : P := h
theorem za32 {P : Prop} (h : P := by repeat (first | (with_reducible first | exact HB.out | apply below_alloc | apply pw_below_drewN | apply below_drew1 | refine below_set ?_ (IsS73.ge HI5.out) | refine below_set ?_ GE1.out | refine below_set ?_ GE17.out) | exact HB.out)) : P := h
theorem za33 {P : Prop} (h : P := by (with_reducible repeat (first | apply MapIs.alloc | apply MapIs.drew)); exact HM.out) : P := h
theorem za34 {P : Prop} (h : P := by repeat (first | (with_reducible exact HR7018_0.out) | (with_reducible refine Kd.C_alloc ?_ _) | (with_reducible refine Kd.C_drewN ?_ _) | (with_reducible refine Kd.C_drew ?_) | exact HR7018_0.out)) : P := h
theorem za35 {P : Prop} (h : P := by repeat (first | (with_reducible exact HR7017_0.out) | (with_reducible refine Kd.C_alloc ?_ _) | (with_reducible refine Kd.C_drewN ?_ _) | (with_reducible refine Kd.C_drew ?_) | exact HR7017_0.out)) : P := h
theorem za36 {P : Prop} (h : P := by repeat (first | (with_reducible first | exact HKT.out | apply KeepBut.set_ | apply keep_drewN | apply keep_drew | apply keep_alloc) | exact HKT.out)) : P := h
theorem za37 {P : Prop} (h : P := by first | exact Kd.S_nil _ _ _ _ _ | exact Kd.N_nil _ _ _ _ _ | exact Kd.V_nil _ _ _ _ _ | exact Kd.Q_nil _ _ _ _ _ | exact Kd.R_nil _ _ _ _ _) : P := h
theorem za38 {P : Prop} (h : P := by repeat (first | (with_reducible first | exact HBW.out | apply below_alloc | apply pw_below_drewN | apply below_drew1) | exact HBW.out)) : P := h
theorem za39 {P : Prop} (h : P := by (with_reducible repeat (first | apply Kd.S_alloc | apply Kd.S_drewN | apply Kd.S_drew)); exact (Kd.S_mono (zfS (zfS (zfS (Kd.S_types HO75.out BK77.out (by decide))))) (fun _ h_ => h_.1))) : P := h
theorem za40 {P : Prop} (h : P := by (with_reducible repeat (first | apply Kd.S_alloc | apply Kd.S_drewN | apply Kd.S_drew)); exact (Kd.S_mono (zfS (zfS (zfS (Kd.S_types HO69.out BK77.out (by decide))))) (fun _ h_ => h_.1))) : P := h
theorem za41 {P : Prop} (h : P := by (with_reducible repeat (first | apply Kd.S_alloc | apply Kd.S_drewN | apply Kd.S_drew)); exact (Kd.S_mono (zfS (zfS (zfS (Kd.S_types HO60.out BK62.out (by decide))))) (fun _ h_ => h_.1))) : P := h
theorem za42 {P : Prop} (h : P := by (with_reducible repeat (first | apply Kd.S_alloc | apply Kd.S_drewN | apply Kd.S_drew)); exact (Kd.S_mono (zfS (zfS (zfS (Kd.S_types HO54.out BK62.out (by decide))))) (fun _ h_ => h_.1))) : P := h
theorem za43 {P : Prop} (h : P := by (with_reducible repeat (first | apply Kd.S_alloc | apply Kd.S_drewN | apply Kd.S_drew)); exact (Kd.S_mono (zfS (zfS (zfS (Kd.S_types HO10.out BK13.out (by decide))))) (fun _ h_ => h_.1))) : P := h
theorem za44 {P : Prop} (h : P := by (with_reducible repeat (first | apply Kd.R_alloc | apply Kd.R_drewN | apply Kd.R_drew)); exact (Kd.R_mono (zfR (zfR (zfR (Kd.R_types HO72.out BK77.out (by decide))))) (fun _ h_ => h_.1))) : P := h
theorem za45 {P : Prop} (h : P := by (with_reducible repeat (first | apply Kd.R_alloc | apply Kd.R_drewN | apply Kd.R_drew)); exact (Kd.R_mono (zfR (zfR (zfR (Kd.R_types HO57.out BK62.out (by decide))))) (fun _ h_ => h_.1))) : P := h
theorem za46 {P : Prop} (h : P := by (with_reducible repeat (first | apply Kd.R_alloc | apply Kd.R_drewN | apply Kd.R_drew)); exact (Kd.R_mono (zfR (zfR (zfR (Kd.R_types HO14.out BK19.out (by decide))))) (fun _ h_ => h_.1))) : P := h
theorem za47 {P : Prop} (h : P := by (with_reducible repeat (first | apply Kd.S_alloc | apply Kd.S_drewN | apply Kd.S_drew)); exact (Kd.S_mono (zfS (zfS (zfS (Kd.S_types HO7.out BK19.out (by decide))))) (fun _ h_ => h_.1))) : P := h
theorem za48 {P : Prop} (h : P := by (with_reducible repeat (first | apply Kd.S_alloc | apply Kd.S_drewN | apply Kd.S_drew)); exact (Kd.S_mono (zfS (zfS (zfS (Kd.S_types HO4.out BK13.out (by decide))))) (fun _ h_ => h_.1))) : P := h
theorem za49 {P : Prop} (h : P := by (with_reducible repeat (first | apply Kd.R_alloc | apply Kd.R_drewN | apply Kd.R_drew)); exact (Kd.R_mono (zfR (zfR (zfR (Kd.R_types HO7.out BK13.out (by decide))))) (fun _ h_ => h_.1))) : P := h
theorem za50 {P : Prop} (h : P := by (with_reducible repeat (first | apply Kd.S_alloc | apply Kd.S_drewN | apply Kd.S_drew)); exact (Kd.S_mono (zfS (zfS (Kd.S_types HO7.out BK10.out (by decide)))) (fun _ h_ => h_.1))) : P := h
theorem za51 {P : Prop} (h : P := by (with_reducible repeat (first | apply Kd.R_alloc | apply Kd.R_drewN | apply Kd.R_drew)); exact (Kd.R_mono (zfR (zfR (Kd.R_types HO4.out BK10.out (by decide)))) (fun _ h_ => h_.1))) : P := h
theorem za52 {P : Prop} (h : P := by (with_reducible repeat (first | apply Kd.S_alloc | apply Kd.S_drewN | apply Kd.S_drew)); exact (Kd.S_mono (zfS (zfS (Kd.S_types HO7.out BK8.out (by decide)))) (fun _ h_ => h_.1))) : P := h
theorem za53 {P : Prop} (h : P := by first | exact Kd.R_nil _ _ _ _ _ | exact Kd.N_nil _ _ _ _ _ | exact Kd.V_nil _ _ _ _ _ | exact Kd.Q_nil _ _ _ _ _ | exact Kd.S_nil _ _ _ _ _) : P := h
theorem za54 {P : Prop} (h : P := by (with_reducible repeat (first | apply Kd.S_alloc | apply Kd.S_drewN | apply Kd.S_drew)); exact (Kd.S_mono (zfS (zfS (zfS (Kd.S_types HO17.out BK19.out (by decide))))) (fun _ h_ => h_.1))) : P := h
theorem za55 {P : Prop} (h : P := by (with_reducible repeat (first | apply Kd.S_alloc | apply Kd.S_drewN | apply Kd.S_drew)); exact (Kd.S_mono (zfS (zfS (zfS (Kd.S_types HO11.out BK19.out (by decide))))) (fun _ h_ => h_.1))) : P := h
theorem za56 {P : Prop} (h : P := by (with_reducible repeat (first | apply Kd.S_alloc | apply Kd.S_drewN | apply Kd.S_drew)); exact Kd.S_mono (zfS (zfS (Kd.S_types HO7.out BK1.out (by decide)))) (fun _ hk => trivial)) : P := h
theorem za57 {P : Prop} (h : P := by (with_reducible repeat (first | apply Kd.R_alloc | apply Kd.R_drewN | apply Kd.R_drew)); exact Kd.R_mono (zfR (zfR (Kd.R_types HO4.out BK1.out (by decide)))) (fun _ hk => trivial)) : P := h
theorem za58 {P : Prop} (h : P := by repeat (first | exact Below.refl _ _ | apply below_alloc)) : P := h
theorem za59 {P : Prop} (h : P := by have := HK1.out; have := HK2.out; omega) : P := h
theorem za60 {P : Prop} (h : P := by have := HK1.out; have := HK2.out; have := HK3.out; omega) : P := h
theorem za61 {P : Prop} (h : P := by have := HK1.out; omega) : P := h
theorem za62 {P : Prop} (h : P := by first | omega | exact Nat.le_refl _) : P := h
theorem za63 {P : Prop} (h : P := by (with_reducible repeat (first | apply Kd.R_alloc | apply Kd.R_drewN | apply Kd.R_drew)); exact Kd.R_mono HO_3.out (fun _ hk => hk.2)) : P := h
theorem za64 {P : Prop} (h : P := by first | (rw [add_block]; exact (fun e_ => ((HL19021_0.out.1 _ e_.symm).2) rfl)) | (show some (Addr.add _ _).block ≠ _; rw [add_block]; exact (fun e_ => ((HL19021_0.out.1 _ e_.symm).2) rfl)) | exact (fun e_ => ((HL19021_0.out.1 _ e_.symm).2) rfl)) : P := h
theorem za65 {P : Prop} (h : P := by repeat (first | exact Below.refl _ _ | apply pw_below_drewN | apply below_drew1)) : P := h
theorem za66 {P : Prop} (h : P := by (with_reducible repeat (first | apply Kd.S_alloc | apply Kd.S_drewN | apply Kd.S_drew)); exact Kd.S_mono (zfS (zfS (zfS (Kd.S_types HO14.out BK17.out (by decide))))) (fun _ hk => ⟨hk.1.1, hk.1.2⟩)) : P := h
theorem za67 {P : Prop} (h : P := by repeat (first | exact Below.refl _ _ | apply pw_below_drewN | apply below_drew1 | apply below_alloc)) : P := h
theorem za68 {P : Prop} (h : P := by (with_reducible repeat (first | apply Kd.S_alloc | apply Kd.S_drewN | apply Kd.S_drew)); exact Kd.S_mono (zfS (zfS (zfS (Kd.S_types HO8.out BK17.out (by decide))))) (fun _ hk => ⟨hk.1.1, hk.1.2⟩)) : P := h
theorem za69 {P : Prop} (h : P := by (with_reducible repeat (first | apply Kd.S_alloc | apply Kd.S_drewN | apply Kd.S_drew)); exact Kd.S_mono (zfS (zfS (zfS (Kd.S_types HO14.out BK1.out (by decide))))) (fun _ hk => ⟨hk.1.1, hk.1.2⟩)) : P := h
theorem za70 {P : Prop} (h : P := by (with_reducible repeat (first | apply Kd.S_alloc | apply Kd.S_drewN | apply Kd.S_drew)); exact Kd.S_mono (zfS (zfS (zfS (Kd.S_types HO8.out BK1.out (by decide))))) (fun _ hk => ⟨hk.1.1, hk.1.2⟩)) : P := h
theorem za71 {P : Prop} (h : P := by repeat (first | (with_reducible exact HR7035_0.out) | (with_reducible refine Kd.C_alloc ?_ _) | (with_reducible refine Kd.C_drewN ?_ _) | (with_reducible refine Kd.C_drew ?_) | exact HR7035_0.out)) : P := h
theorem za72 {P : Prop} (h : P := by repeat (first | (with_reducible exact HR7034_0.out) | (with_reducible refine Kd.C_alloc ?_ _) | (with_reducible refine Kd.C_drewN ?_ _) | (with_reducible refine Kd.C_drew ?_) | exact HR7034_0.out)) : P := h
theorem za73 {P : Prop} (h : P := by (with_reducible repeat (first | apply Kd.S_alloc | apply Kd.S_drewN | apply Kd.S_drew)); exact (Kd.S_mono (zfS (zfS (zfS (Kd.S_types HO_3031002.out BK77.out (by decide))))) (fun _ h_ => h_.1))) : P := h
theorem za74 {P : Prop} (h : P := by (with_reducible repeat (first | apply Kd.S_alloc | apply Kd.S_drewN | apply Kd.S_drew)); exact (Kd.S_mono (zfS (zfS (zfS (Kd.S_types HO_3031002.out BK62.out (by decide))))) (fun _ h_ => h_.1))) : P := h
theorem za75 {P : Prop} (h : P := by (with_reducible repeat (first | apply Kd.S_alloc | apply Kd.S_drewN | apply Kd.S_drew)); exact (Kd.S_mono (zfS (zfS (zfS (Kd.S_types HO_3031000.out BK77.out (by decide))))) (fun _ h_ => h_.1))) : P := h
theorem za76 {P : Prop} (h : P := by (with_reducible repeat (first | apply Kd.S_alloc | apply Kd.S_drewN | apply Kd.S_drew)); exact (Kd.S_mono (zfS (zfS (zfS (Kd.S_types HO_3031000.out BK62.out (by decide))))) (fun _ h_ => h_.1))) : P := h
theorem za77 {P : Prop} (h : P := by (with_reducible repeat (first | apply Kd.S_alloc | apply Kd.S_drewN | apply Kd.S_drew)); exact (Kd.S_mono (zfS (zfS (zfS (Kd.S_types HO_3020002.out BK77.out (by decide))))) (fun _ h_ => h_.1))) : P := h
theorem za78 {P : Prop} (h : P := by (with_reducible repeat (first | apply Kd.S_alloc | apply Kd.S_drewN | apply Kd.S_drew)); exact (Kd.S_mono (zfS (zfS (zfS (Kd.S_types HO_3020002.out BK62.out (by decide))))) (fun _ h_ => h_.1))) : P := h
theorem za79 {P : Prop} (h : P := by (with_reducible repeat (first | apply Kd.S_alloc | apply Kd.S_drewN | apply Kd.S_drew)); exact (Kd.S_mono (zfS (zfS (zfS (Kd.S_types HO_3020000.out BK77.out (by decide))))) (fun _ h_ => h_.1))) : P := h
theorem za80 {P : Prop} (h : P := by (with_reducible repeat (first | apply Kd.S_alloc | apply Kd.S_drewN | apply Kd.S_drew)); exact (Kd.S_mono (zfS (zfS (zfS (Kd.S_types HO_3020000.out BK62.out (by decide))))) (fun _ h_ => h_.1))) : P := h
theorem za81 {P : Prop} (h : P := by (with_reducible repeat (first | apply Kd.S_alloc | apply Kd.S_drewN | apply Kd.S_drew)); exact (Kd.S_mono (zfS (zfS (zfS (Kd.S_types HO_3009001.out BK77.out (by decide))))) (fun _ h_ => h_.1))) : P := h
theorem za82 {P : Prop} (h : P := by (with_reducible repeat (first | apply Kd.S_alloc | apply Kd.S_drewN | apply Kd.S_drew)); exact (Kd.S_mono (zfS (zfS (zfS (Kd.S_types HO_3009001.out BK62.out (by decide))))) (fun _ h_ => h_.1))) : P := h
theorem za83 {P : Prop} (h : P := by (with_reducible repeat (first | apply Kd.R_alloc | apply Kd.R_drewN | apply Kd.R_drew)); exact (Kd.R_mono (zfR (zfR (zfR (Kd.R_types HO_3031001.out BK77.out (by decide))))) (fun _ h_ => h_.1))) : P := h
theorem za84 {P : Prop} (h : P := by (with_reducible repeat (first | apply Kd.R_alloc | apply Kd.R_drewN | apply Kd.R_drew)); exact (Kd.R_mono (zfR (zfR (zfR (Kd.R_types HO_3031001.out BK62.out (by decide))))) (fun _ h_ => h_.1))) : P := h
theorem za85 {P : Prop} (h : P := by (with_reducible repeat (first | apply Kd.R_alloc | apply Kd.R_drewN | apply Kd.R_drew)); exact (Kd.R_mono (zfR (zfR (zfR (Kd.R_types HO_3020001.out BK77.out (by decide))))) (fun _ h_ => h_.1))) : P := h
theorem za86 {P : Prop} (h : P := by (with_reducible repeat (first | apply Kd.R_alloc | apply Kd.R_drewN | apply Kd.R_drew)); exact (Kd.R_mono (zfR (zfR (zfR (Kd.R_types HO_3020001.out BK62.out (by decide))))) (fun _ h_ => h_.1))) : P := h
theorem za87 {P : Prop} (h : P := by (with_reducible repeat (first | apply Kd.R_alloc | apply Kd.R_drewN | apply Kd.R_drew)); exact (Kd.R_mono (zfR (zfR (zfR (Kd.R_types HO_3009000.out BK77.out (by decide))))) (fun _ h_ => h_.1))) : P := h
theorem za88 {P : Prop} (h : P := by (with_reducible repeat (first | apply Kd.R_alloc | apply Kd.R_drewN | apply Kd.R_drew)); exact (Kd.R_mono (zfR (zfR (zfR (Kd.R_types HO_3009000.out BK62.out (by decide))))) (fun _ h_ => h_.1))) : P := h
theorem za89 {P : Prop} (h : P := by (with_reducible repeat (first | apply Kd.R_alloc | apply Kd.R_drewN | apply Kd.R_drew)); exact Kd.R_mono (zfR (zfR (zfR (Kd.R_types HO11.out BK17.out (by decide))))) (fun _ hk => trivial)) : P := h
theorem za90 {P : Prop} (h : P := by (with_reducible repeat (first | apply Kd.S_alloc | apply Kd.S_drewN | apply Kd.S_drew)); exact (Kd.S_mono (zfS (zfS (zfS (Kd.S_types HO60.out BK77.out (by decide))))) (fun _ h_ => h_.1))) : P := h
theorem za91 {P : Prop} (h : P := by (with_reducible repeat (first | apply Kd.S_alloc | apply Kd.S_drewN | apply Kd.S_drew)); exact (Kd.S_mono (zfS (zfS (zfS (Kd.S_types HO54.out BK77.out (by decide))))) (fun _ h_ => h_.1))) : P := h
theorem za92 {P : Prop} (h : P := by (with_reducible repeat (first | apply Kd.S_alloc | apply Kd.S_drewN | apply Kd.S_drew)); exact (Kd.S_mono (zfS (zfS (zfS (Kd.S_types HO28.out BK30.out (by decide))))) (fun _ h_ => h_.1))) : P := h
theorem za93 {P : Prop} (h : P := by (with_reducible repeat (first | apply Kd.S_alloc | apply Kd.S_drewN | apply Kd.S_drew)); exact (Kd.S_mono (zfS (zfS (zfS (Kd.S_types HO22.out BK30.out (by decide))))) (fun _ h_ => h_.1))) : P := h
theorem za94 {P : Prop} (h : P := by (with_reducible repeat (first | apply Kd.S_alloc | apply Kd.S_drewN | apply Kd.S_drew)); exact (Kd.S_mono (zfS (zfS (zfS (Kd.S_types HO17.out BK30.out (by decide))))) (fun _ h_ => h_.1))) : P := h
theorem za95 {P : Prop} (h : P := by (with_reducible repeat (first | apply Kd.S_alloc | apply Kd.S_drewN | apply Kd.S_drew)); exact (Kd.S_mono (zfS (zfS (zfS (Kd.S_types HO12.out BK13.out (by decide))))) (fun _ h_ => h_.1))) : P := h
theorem za96 {P : Prop} (h : P := by (with_reducible repeat (first | apply Kd.S_alloc | apply Kd.S_drewN | apply Kd.S_drew)); exact (Kd.S_mono (zfS (zfS (zfS (Kd.S_types HO11.out BK30.out (by decide))))) (fun _ h_ => h_.1))) : P := h
theorem za97 {P : Prop} (h : P := by (with_reducible repeat (first | apply Kd.R_alloc | apply Kd.R_drewN | apply Kd.R_drew)); exact Kd.R_mono (zfR (zfR (zfR (Kd.R_types HO11.out BK1.out (by decide))))) (fun _ hk => trivial)) : P := h
theorem za98 {P : Prop} (h : P := by (with_reducible repeat (first | apply Kd.R_alloc | apply Kd.R_drewN | apply Kd.R_drew)); exact (Kd.R_mono (zfR (zfR (zfR (Kd.R_types HO_8.out BK77.out (by decide))))) (fun _ h_ => h_.1))) : P := h
theorem za99 {P : Prop} (h : P := by (with_reducible repeat (first | apply Kd.R_alloc | apply Kd.R_drewN | apply Kd.R_drew)); exact (Kd.R_mono (zfR (zfR (zfR (Kd.R_types HO_8.out BK62.out (by decide))))) (fun _ h_ => h_.1))) : P := h
theorem za100 {P : Prop} (h : P := by (with_reducible repeat (first | apply Kd.R_alloc | apply Kd.R_drewN | apply Kd.R_drew)); exact (Kd.R_mono (zfR (zfR (zfR (Kd.R_types HO57.out BK77.out (by decide))))) (fun _ h_ => h_.1))) : P := h
theorem za101 {P : Prop} (h : P := by (with_reducible repeat (first | apply Kd.R_alloc | apply Kd.R_drewN | apply Kd.R_drew)); exact (Kd.R_mono (zfR (zfR (zfR (Kd.R_types HO25.out BK30.out (by decide))))) (fun _ h_ => h_.1))) : P := h
theorem za102 {P : Prop} (h : P := by (with_reducible repeat (first | apply Kd.R_alloc | apply Kd.R_drewN | apply Kd.R_drew)); exact (Kd.R_mono (zfR (zfR (zfR (Kd.R_types HO14.out BK30.out (by decide))))) (fun _ h_ => h_.1))) : P := h
theorem za103 {P : Prop} (h : P := by (with_reducible repeat (first | apply Kd.R_alloc | apply Kd.R_drewN | apply Kd.R_drew)); exact Kd.R_mono (zfR (zfR (zfR (Kd.R_types HO7.out BK1.out (by decide))))) (fun _ hk => trivial)) : P := h
theorem za104 {P : Prop} (h : P := by (with_reducible repeat (first | apply Kd.R_alloc | apply Kd.R_drewN | apply Kd.R_drew)); exact (Kd.R_mono (zfR (zfR (zfR (Kd.R_types HO4.out BK19.out (by decide))))) (fun _ h_ => h_.1))) : P := h
theorem za105 {P : Prop} (h : P := by (with_reducible repeat (first | apply Kd.R_alloc | apply Kd.R_drewN | apply Kd.R_drew)); exact (Kd.R_mono (zfR (zfR (Kd.R_types HO4.out BK8.out (by decide)))) (fun _ h_ => h_.1))) : P := h
theorem za106 {P : Prop} (h : P := by have h3 := Kd.R_base HN1.out k_ hk.symm; have h4 := Kd.S_lt HS.out k_ h2.symm; omega) : P := h
theorem za107 {P : Prop} (h : P := by have h3 := Kd.R_base HN1.out k_ hk.symm; have h4 := Kd.R_lt HL.out k_ h2.symm; omega) : P := h
theorem za108 {P : Prop} (h : P := by have := HK2.out; have := HK3.out; have := HK4.out; omega) : P := h
theorem za109 {P : Prop} (h : P := by simp [Value.ownBlock]) : P := h
theorem za110 {P : Prop} (h : P := by (with_reducible repeat (first | apply Kd.S_alloc | apply Kd.S_drewN | apply Kd.S_drew)); exact Kd.S_mono HO_20006001.out (fun _ hk => hk.2)) : P := h
theorem za111 {P : Prop} (h : P := by (with_reducible repeat (first | apply Kd.R_alloc | apply Kd.R_drewN | apply Kd.R_drew)); exact Kd.R_mono HO_7014001.out (fun _ hk => hk.2)) : P := h
theorem zr0 {P : Prop} (h : P := by first | with_reducible rfl | (rw [if_neg (by omega)]; done)) : P := h
theorem zr1 {P : Prop} (h : P := by first | with_reducible rfl | (rw [if_neg (by omega)]; done) | (rw [if_neg za19]; done)) : P := h
end Go.Proofs.Ythkbgoohiinmbaa
namespace Go.Proofs.Ythkbgoohiinmbaa.Ext
open Go.RowKit YthkbgoohiinmbaaW.PrintWords
theorem blk2 {w:World} {g:Nat} {t:TypeId} {a0 a1:Value} (h:w.heap[g]? = some (.cells #[a0,a1] t (0,0))):w.cell? ⟨g,0,none⟩=some a0∧w.cell? ⟨g,1,none⟩=some a1∧w.frozen? ⟨g,0,none⟩=false∧w.frozen? ⟨g,1,none⟩=false:=⟨(blk_cell h 0).trans rfl,(blk_cell h 1).trans rfl,blk_frozen h 0,blk_frozen h 1⟩
theorem blk3 {w:World} {g:Nat} {t:TypeId} {a0 a1 a2:Value} (h:w.heap[g]? = some (.cells #[a0,a1,a2] t (0,0))):w.cell? ⟨g,0,none⟩=some a0∧w.cell? ⟨g,1,none⟩=some a1∧w.cell? ⟨g,2,none⟩=some a2∧w.frozen? ⟨g,0,none⟩=false∧w.frozen? ⟨g,1,none⟩=false∧w.frozen? ⟨g,2,none⟩=false:=⟨(blk_cell h 0).trans rfl,(blk_cell h 1).trans rfl,(blk_cell h 2).trans rfl,blk_frozen h 0,blk_frozen h 1,blk_frozen h 2⟩
-- EXT strings.IndexByte
def strings_IndexByte.f (s:ByteArray) (c:Int):Option Int:=some (Lib.indexByte s.data.toList c.toNat.toUInt8)
theorem stringslite_run (s:ByteArray) (c:Int) (w:World) :
  Calls Try.prog 66 #[.string s,.int .u8 c] w fun e w'=>e = .returned (.int .i64 (Lib.indexByte s.data.toList c.toNat.toUInt8))∧w'=w:=by
 go_enter Try.func66,Try.ntmps66
 go_wp2
 rw [run_callFunc_extern Try.func67 (by kernel_rfl) (by kernel_rfl) (by kernel_rfl) (e:=Extern.BytealgIndexByte.indexByte) (by kernel_rfl),Lib.run_indexByteString]
 simp only [Result.andThen]
 rw [Oper.upon_value]
 go_wp2
 go_ret
 exact ⟨rfl,rfl⟩
theorem strings_IndexByte.calls (s:ByteArray) (c:Int) (r:Int) (w:World) (h:strings_IndexByte.f s c=some r) :
  Calls Try.prog 65 #[.string s,.int .u8 c] w fun e w'=>e = .returned (.int .i64 r)∧Drawn0 w w':=by
 obtain rfl:=zi h
 go_enter Try.func65,Try.ntmps65
 go_wp2_with (go_at_call 66;refine (stringslite_run _ _ _).mono ?_;rintro e w' ⟨rfl,rfl⟩)
 go_ret
 exact ⟨rfl,Drawn0.refl _⟩
end Go.Proofs.Ythkbgoohiinmbaa.Ext
namespace Go.Proofs.Ythkbgoohiinmbaa.Ext
open Go Go.RowKit YthkbgoohiinmbaaW.PrintWords YthkbgoohiinmbaaW.PrintLast
theorem keep_own {wT W w1:World} {g:Nat} {row:Option Nat} (h:KeepBut wT W g none) (hg:W.grownBy w1 row) (hv:∀ k,row=some k→wT.heap.size≤k):KeepBut wT w1 g none:=by
 cases row with
 | none=>exact KeepBut.trans h (KeepBut.of_grown hg g) (.inl rfl)
 | some b=>exact KeepBut.trans h (KeepBut.of_grown hg g) (.inr ⟨b,rfl,hv b rfl⟩)
theorem below_own {w W w1:World} {T:Nat} (h:Below w.heap.size w W) (h1:Below T W w1) (hT:w.heap.size≤T):Below w.heap.size w w1 :=
 h.trans ⟨h1.os,h1.tape,h1.output,h1.size,fun k hk=>h1.block k (Nat.lt_of_lt_of_le hk hT)⟩
end Go.Proofs.Ythkbgoohiinmbaa.Ext
namespace Go.Proofs.Ythkbgoohiinmbaa.Ext
open Go Go.RowKit YthkbgoohiinmbaaW.PrintWords YthkbgoohiinmbaaW.PrintLast YthkbgoohiinmbaaW.PrintMore
theorem zsz0:(⟨#[]⟩:ByteArray).size=0:=rfl
theorem zsz1 {a:UInt8} : (⟨#[a]⟩:ByteArray).size=1:=rfl
theorem zsz2 {a b:UInt8} : (⟨#[a,b]⟩:ByteArray).size=2:=rfl
theorem zsz3 {a b c:UInt8} : (⟨#[a,b,c]⟩:ByteArray).size=3:=rfl
theorem zsz4 {a b c d:UInt8} : (⟨#[a,b,c,d]⟩:ByteArray).size=4:=rfl
theorem zsz5 {a b c d e:UInt8} : (⟨#[a,b,c,d,e]⟩:ByteArray).size=5:=rfl
theorem zrr {p:Prop} (h:p:=by first|with_reducible rfl|(rw [if_neg (by omega)];done)|(rw [if_neg (by (try simp only [decide_eq_true_eq,decide_eq_false_iff_not,eq_iff_iff,iff_true,iff_false] at *);(try simp only [ByteArray.size_extract,ByteArray.size_append,zsz0,zsz1,zsz2,zsz3,zsz4,zsz5] at *);omega)];done)):p:=h
theorem zpu {W0 W:World} {g:Nat} {o o':Obj} (h:W0.heap[g]? = some o) (f:W0.heap[g]? = some o→W.heap[g]? = some o':=by intro h_;repeat (first|with_reducible exact h_|with_reducible refine blk_drewN ?_ _|with_reducible refine blk_drew ?_|with_reducible refine blk_alloc ?_ _|with_reducible apply blk_put|with_reducible refine blk_far ?_ (Aside0.out (by assumption)) _|rfl)):W.heap[g]? = some o':=f h
theorem zdl {α:Type} [LT α] {a b:α} [Decidable (a < b)] (h:a < b):decide (a < b)=true:=decide_eq_true h
theorem zdle {α:Type} [LE α] {a b:α} [Decidable (a≤b)] (h:a≤b):decide (a≤b)=true:=decide_eq_true h
theorem zdnl {α:Type} [LT α] {a b:α} [Decidable (a < b)] (h:¬ a < b):decide (a < b)=false:=decide_eq_false h
theorem zdnle {α:Type} [LE α] {a b:α} [Decidable (a≤b)] (h:¬ a≤b):decide (a≤b)=false:=decide_eq_false h
theorem zbt {α:Type} [BEq α] [LawfulBEq α] {a b:α} (h:a=b):(a == b)=true:=beq_iff_eq.mpr h
theorem zbn {α:Type} [BEq α] [LawfulBEq α] {a b:α} (h:¬ a=b):(a == b)=false:=beq_eq_false_iff_ne.mpr h
theorem zqt {α:Type} [BEq α] [LawfulBEq α] {a b:α} (h:¬ a=b):(a != b)=true:=bne_iff_ne.mpr h
theorem zqn {α:Type} [BEq α] [LawfulBEq α] {a b:α} (h:a=b):(a != b)=false:=bne_eq_false_iff_eq.mpr h
section
variable {α : Type} {d : Kd α} {e base g i : Nat} {ok : Nat → Prop} {w : World} {v u : Value} {xs : List α}
theorem zfR (h:Kd.R d e w base (fun k=>ok k∧k ≠ g) v xs):Kd.R d e (w.setCell ⟨g,i,none⟩ u) base (fun k=>ok k∧k ≠ g) v xs:=Kd.R_far h (fun _ hk=>hk.2) u
theorem zfS (h:Kd.S d e w base (fun k=>ok k∧k ≠ g) v xs):Kd.S d e (w.setCell ⟨g,i,none⟩ u) base (fun k=>ok k∧k ≠ g) v xs:=Kd.S_far h (fun _ hk=>hk.2) u
end
section
variable {P : Program} {ops : Array Oper} {Q : Exit → Act → World → Prop} {md : Region.Mode} {S : World → Prop} {ds : List Nat}
theorem zy (i:Nat) (N:Option Tmp) {T:Bool × List (List Nat × List Nat)} (hT:rtab md ops=T) {oi:Oper} {v:Value} {fuel:Nat} {l l':Array Bool} {a a':Act} {w:World}
 (h:wpAnyLast P md ops Q S ds fuel l' a' w) (hi:ops[i]? = some oi:=by rfl) (hN:oi.dst=N:=by rfl)
 (hl:l.setIfInBounds i true=l':=by simp only [zt,zv,zu];rfl)
 (hc:anyT T l.toList l'.toList i=true:=by kernel_rfl) (hw:Region.wanted oi (yielded ops a.tmps)=true:=by rfl)
 (hy:∀ w,(execOp a.eval oi).run P w = .ok (.value v) w:=by intro w';go_simp;exact zrr)
 (ha:a.put N v=a':=by simp only [Act.put,zt,zv,zu,i64_w,i32_w];rfl)
 (hQ:∀ c a w,Q (.panic c) (a.put oi.dst v) w→Q (.panic c) a w:=by exact fun _ _ _ h=>h) :
 wpAnyLast P md ops Q S ds (fuel+1) l a w:=pure_ l' hi hN (any_of hT hc) hQ (.inl ⟨hw,hy⟩) ha h
theorem zyk (i:Nat) (N:Option Tmp) {oi:Oper} {v:Value} {fuel:Nat} {l l':Array Bool} {a a':Act} {w:World}
 (h:wpAnyLast P md ops Q S ds fuel l' a' w) (hi:ops[i]? = some oi:=by rfl) (hN:oi.dst=N:=by rfl) (hl:l.setIfInBounds i true=l':=by simp only [zt,zv,zu];rfl)
 (hc:anyB md ops l l' i=true:=by kernel_rfl) (hw:Region.wanted oi (yielded ops a.tmps)=true:=by rfl)
 (hy:∀ w,(execOp a.eval oi).run P w = .ok (.value v) w:=by intro w';go_simp;exact zrr) (ha:a.put N v=a':=by simp only [Act.put,zt,zv,zu,i64_w,i32_w];rfl)
 (hQ:∀ c a w,Q (.panic c) (a.put oi.dst v) w→Q (.panic c) a w:=by exact fun _ _ _ h=>h) :
 wpAnyLast P md ops Q S ds (fuel+1) l a w:=pure_ l' hi hN hc hQ (.inl ⟨hw,hy⟩) ha h
theorem ztk (i:Nat) (N:Option Tmp) {T:Bool × List (List Nat × List Nat)} (hT:rtab md ops=T) {B:List Nat} (hB:waitsOk T.2 B=true) {oi:Oper} {v:Value} {fuel:Nat} {l l':Array Bool} {a a':Act} {w:World}
 (hS:S w) (h:wpAnyLast P md ops Q S ds fuel l' a' w) (hi:ops[i]? = some oi:=by rfl) (hN:oi.dst=N:=by rfl) (hl:l.setIfInBounds i true=l':=by simp only [zt,zv,zu];rfl)
 (hc:takeW T B ds l.toList l'.toList i=true:=by kernel_rfl) (hw:Region.wanted oi (yielded ops a.tmps)=true:=by rfl)
 (hy:∀ w,S w→(execOp a.eval oi).run P w = .ok (.value v) w:=by intro w' hs_;(repeat obtain ⟨_,hs_⟩:=hs_);go_simp;exact zrr) (ha:a.put N v=a':=by simp only [Act.put,zt,zv,zu,i64_w,i32_w];rfl)
 (hQ:∀ c a w,Q (.panic c) (a.put oi.dst v) w→Q (.panic c) a w:=by exact fun _ _ _ h=>h) :
 wpAnyLast P md ops Q S ds (fuel+1) l a w:=take_ l' hi hN (take_ofW hT hB hc) hQ (.inl ⟨hw,hy⟩) hS ha h
theorem ztkk (i:Nat) (N:Option Tmp) {oi:Oper} {v:Value} {fuel:Nat} {l l':Array Bool} {a a':Act} {w:World}
 (hS:S w) (h:wpAnyLast P md ops Q S ds fuel l' a' w) (hi:ops[i]? = some oi:=by rfl) (hN:oi.dst=N:=by rfl) (hl:l.setIfInBounds i true=l':=by simp only [zt,zv,zu];rfl)
 (hc:takeB md ops ds l l' i=true:=by kernel_rfl) (hw:Region.wanted oi (yielded ops a.tmps)=true:=by rfl)
 (hy:∀ w,S w→(execOp a.eval oi).run P w = .ok (.value v) w:=by intro w' hs_;(repeat obtain ⟨_,hs_⟩:=hs_);go_simp;exact zrr) (ha:a.put N v=a':=by simp only [Act.put,zt,zv,zu,i64_w,i32_w];rfl)
 (hQ:∀ c a w,Q (.panic c) (a.put oi.dst v) w→Q (.panic c) a w:=by exact fun _ _ _ h=>h) :
 wpAnyLast P md ops Q S ds (fuel+1) l a w:=take_ l' hi hN hc hQ (.inl ⟨hw,hy⟩) hS ha h
theorem zno (N:Option Tmp) {v:Value} {fuel:Nat} {l:Array Bool} {a0 a':Act} {w:World} (h:wpAnyLast P md ops Q S ds fuel l a' w) (ha:a0.put N v=a':=by simp only [Act.put,zt,zv,zu,i64_w,i32_w];rfl) :
 wpAnyLast P md ops Q S ds fuel l (a0.put N v) w:=norm_ ha h
theorem zon (i:Nat) (N:Option Tmp) {T:Bool × List (List Nat × List Nat)} (hT:rtab md ops=T) {oi:Oper} {fuel:Nat} {l l':Array Bool} {a:Act} {w:World}
 (h:∀ K:Act→World→Prop,Shut (∀ a' w',S w'→(S w'→wpAnyLast P md ops Q S ds fuel l' a' w')→K a' w')→if Region.wanted oi (yielded ops a.tmps)=true then Oper.wp P oi a w K Q else K (a.put N undef) w)
 (hi:ops[i]? = some oi:=by rfl) (hN:oi.dst=N:=by rfl) (hl:l.setIfInBounds i true=l':=by simp only [zt,zv,zu];rfl) (hc:(readyT T.2 l.toList == [i] && l.toList.set i true == l'.toList)=true:=by kernel_rfl) (hd:i ∉ ds:=by decide) :
 wpAnyLast P md ops Q S ds (fuel+1) l a w:=one_ l' hi hN (one_of hT hc) hd h
end
end Go.Proofs.Ythkbgoohiinmbaa.Ext
namespace Go.Proofs.Ythkbgoohiinmbaa.A
open Go.RowKit Ythkbgoohiinmbaa.Ext YthkbgoohiinmbaaW.PrintWords YthkbgoohiinmbaaW.PrintLast YthkbgoohiinmbaaW.PrintMore
attribute [local go_sem] max2_int min2_int max_two min_two max_three min_three max_four min_four
def errW:Option Int→Value
 | none => .nilIface
 | some c => .iface 0 (.int .i64 c)
theorem errW_none:errW none = .nilIface:=rfl
theorem errW_some (c:Int):errW (some c) = .iface 0 (.int .i64 c):=rfl
theorem info3:(Try.prog.info? 3).map (fun i=>(i.zero,i.size,i.bytes))=some (some (.int .i64 0),1,8):=by kernel_rfl
theorem info4:(Try.prog.info? 4).map (fun i=>(i.zero,i.size,i.bytes))=some (some (.bool false),1,1):=by kernel_rfl
theorem info9:(Try.prog.info? 9).map (fun i=>(i.zero,i.size,i.bytes))=some (some (.string ⟨#[]⟩),1,16):=by kernel_rfl
theorem info29:(Try.prog.info? 29).map (fun i=>(i.zero,i.size,i.bytes))=some (some (.slice none 0 0),1,24):=by kernel_rfl
-- the values' own types
def rd_L3 (xs:List (List Int)) (i:Int):(List Int):=xs.getD i.toNat ([]:List Int)
theorem at_L3 {w:World} {A:Option Addr} {n:Nat} {xs:List (List Int)} (h:Kd.C (Kd.slice 3 (Kd.int .i64)) w A n xs) (i:Int) (h0:0≤i) (h1:i < n):∃ ad A0 c0,A=some ad∧w.cell? (ad.add i.toNat)=some (.slice A0 (rd_L3 xs i).length c0)∧(rd_L3 xs i).length≤c0∧(Kd.int .i64).C w A0 (rd_L3 xs i).length (rd_L3 xs i):=by
 obtain ⟨ad,c,e,_,hK,hc0⟩:=Kd.C_get h ([]:List Int) i h0 h1
 have hc:∀ j u,c[j]? = some u→w.cell? (ad.add (i.toNat * 1+j))=some u:=hc0
 obtain ⟨A0,c0,rfl,l0,g0⟩:=hK
 exact ⟨ad,A0,c0,e,by have hq:=hc 0 _ rfl;rwa [Nat.mul_one,Nat.add_zero] at hq,l0,g0⟩
def laws_big.f (l0:List Int):Option (Bool):=some (decide ((l0.length:Int) > 1048576))
theorem laws_big.calls (A0:Option Addr) (c0:Nat) (l0:List Int) (r:Bool) (w:World) (hr0:Kd.C (Kd.int .u8) w A0 l0.length l0) (hc0:l0.length≤c0) (h:laws_big.f l0=some r) :
  Calls Try.prog 4 #[.slice A0 l0.length c0] w fun e w'=>e = .returned (.bool r)∧Drawn0 w w':=by
 have HR0:=zk hr0
 have HC0:=zk hc0
 clear hr0 hc0
 have H:=h
 unfold laws_big.f at H
 clear h
 obtain rfl:=zi H
 go_enter Try.func4,Try.ntmps4
 go_wp2
 go_ret
 exact ⟨za13,za25⟩
def IsS73 (w0 W:World) (g:Nat) (f0:List Int) (f1:Int) (f2:Int):Prop:=∃ A0 c0,W.heap[g]? = some (.cells #[.slice A0 f0.length c0,.int .i64 f1,.int .i64 f2] 73 (0,0))∧w0.heap.size≤g∧Kd.C (Kd.int .u8) w0 A0 f0.length f0
theorem IsS73.grown {w0 W:World} {g:Nat} {f0:List Int} {f1:Int} {f2:Int} {W1:World} {row:Option Nat} (h:IsS73 w0 W g f0 f1 f2) (hw:W.grownBy W1 row) (hne:some g ≠ row):IsS73 w0 W1 g f0 f1 f2:=by
 obtain ⟨A0,c0,hb,hg,hr0⟩:=h
 exact ⟨A0,c0,blk_grown hb hw hne,hg,hr0⟩
theorem IsS73.kept {w0 W:World} {g:Nat} {f0:List Int} {f1:Int} {f2:Int} {W1:World} {S:Nat→Prop} (h:IsS73 w0 W g f0 f1 f2) (hk:Kept W W1 S) (hne:¬ S g):IsS73 w0 W1 g f0 f1 f2:=by
 obtain ⟨A0,c0,hb,hg,hr0⟩:=h
 exact ⟨A0,c0,blk_kept hb hk hne,hg,hr0⟩
theorem IsS73.below {w0 W:World} {g:Nat} {f0:List Int} {f1:Int} {f2:Int} {W1:World} (h:IsS73 w0 W g f0 f1 f2) (hw:Below W.heap.size W W1):IsS73 w0 W1 g f0 f1 f2:=h.grown (grown_of_below hw none) (by simp)
theorem IsS73.alloc {w0 W:World} {g:Nat} {f0:List Int} {f1:Int} {f2:Int} (h:IsS73 w0 W g f0 f1 f2) (o:Obj):IsS73 w0 (W.alloc o) g f0 f1 f2:=h.below (below_alloc (Below.refl _ _) o)
theorem IsS73.drewN {w0 W:World} {g:Nat} {f0:List Int} {f1:Int} {f2:Int} (h:IsS73 w0 W g f0 f1 f2) (m:Nat):IsS73 w0 (W.drewN m) g f0 f1 f2:=h
theorem IsS73.drew {w0 W:World} {g:Nat} {f0:List Int} {f1:Int} {f2:Int} (h:IsS73 w0 W g f0 f1 f2):IsS73 w0 W.drew g f0 f1 f2:=h
theorem IsS73.at_ {w0 W:World} {g:Nat} {f0:List Int} {f1:Int} {f2:Int} {w':World} {m:Nat} (hq:W.drewN m=w') (h:IsS73 w0 W g f0 f1 f2):IsS73 w0 w' g f0 f1 f2:=by subst hq;exact IsS73.drewN h m
theorem IsS73.apart {w0 W:World} {g:Nat} {f0:List Int} {f1:Int} {f2:Int} {α:Type} {d:Kd α} {e:Nat} {base:Nat} {ok:Nat→Prop} {v:Value} {xs:List α} (h:IsS73 w0 W g f0 f1 f2) (ho:d.R e W base ok v xs) (ht:∀ q,q ∈ e :: d.E→q ≠ 73):d.R e W base (fun k=>ok k∧k ≠ g) v xs:=by
 obtain ⟨A0,c0,hb,hg,hr0⟩:=h
 exact Kd.R_types ho hb ht
theorem IsS73.own_ne {w0 W:World} {g:Nat} {f0:List Int} {f1:Int} {f2:Int} {α:Type} {d:Kd α} {e:Nat} {base:Nat} {ok:Nat→Prop} {v:Value} {xs:List α} (h:IsS73 w0 W g f0 f1 f2) (ho:d.R e W base ok v xs) (ht:e ≠ 73):some g ≠ v.ownBlock:=by
 obtain ⟨A0,c0,hb,hg,hr0⟩:=h
 exact Kd.R_ne ho hb ht
theorem IsS73.apartS {w0 W:World} {g:Nat} {f0:List Int} {f1:Int} {f2:Int} {α:Type} {d:Kd α} {e:Nat} {base:Nat} {ok:Nat→Prop} {v:Value} {xs:List α} (h:IsS73 w0 W g f0 f1 f2) (ho:d.S e W base ok v xs) (ht:∀ q,q ∈ e :: d.E→q ≠ 73):d.S e W base (fun k=>ok k∧k ≠ g) v xs:=by
 obtain ⟨A0,c0,hb,hg,hr0⟩:=h
 exact Kd.S_types ho hb ht
theorem IsS73.own_neS {w0 W:World} {g:Nat} {f0:List Int} {f1:Int} {f2:Int} {α:Type} {d:Kd α} {e:Nat} {base:Nat} {ok:Nat→Prop} {v:Value} {xs:List α} (h:IsS73 w0 W g f0 f1 f2) (ho:d.S e W base ok v xs) (ht:e ≠ 73):some g ≠ v.ownBlock:=by
 obtain ⟨A0,c0,hb,hg,hr0⟩:=h
 exact Kd.S_ne ho hb ht
theorem IsS73.lt {w0 W:World} {g:Nat} {f0:List Int} {f1:Int} {f2:Int} (h:IsS73 w0 W g f0 f1 f2):g < W.heap.size:=by
 obtain ⟨A0,c0,hb,hg,hr0⟩:=h
 exact blk_lt hb
theorem IsS73.ge {w0 W:World} {g:Nat} {f0:List Int} {f1:Int} {f2:Int} (h:IsS73 w0 W g f0 f1 f2):w0.heap.size≤g:=by
 obtain ⟨A0,c0,hb,hg,hr0⟩:=h
 exact hg
theorem IsS73.ne_blk {w0 W:World} {g:Nat} {f0:List Int} {f1:Int} {f2:Int} {a:Nat} {cs:Array Value} {t:TypeId} {fr:Nat × Nat} (h:IsS73 w0 W g f0 f1 f2) (hb2:W.heap[a]? = some (.cells cs t fr)) (ht:t ≠ 73):g ≠ a:=by
 obtain ⟨A0,c0,hb,hg,hr0⟩:=h
 rintro rfl
 rw [hb] at hb2
 injection hb2 with hb2
 injection hb2 with _ ht2
 exact ht ht2.symm
theorem IsS73.far {w0 W:World} {g:Nat} {f0:List Int} {f1:Int} {f2:Int} {p:Addr} (h:IsS73 w0 W g f0 f1 f2) (hne:g ≠ p.block) (u:Value):IsS73 w0 (W.setCell p u) g f0 f1 f2:=by
 obtain ⟨A0,c0,hb,hg,hr0⟩:=h
 exact ⟨A0,c0,blk_far hb hne u,hg,hr0⟩
theorem cellS73_0 {W:World} {g:Nat} {A0:Option Addr} {c0:Nat} {f0:List Int} {f1:Int} {f2:Int} (h:W.heap[g]? = some (.cells #[.slice A0 f0.length c0,.int .i64 f1,.int .i64 f2] 73 (0,0))):W.cell? ⟨g,0,none⟩=some (.slice A0 f0.length c0):=(blk_cell h 0).trans rfl
theorem cellS73_1 {W:World} {g:Nat} {A0:Option Addr} {c0:Nat} {f0:List Int} {f1:Int} {f2:Int} (h:W.heap[g]? = some (.cells #[.slice A0 f0.length c0,.int .i64 f1,.int .i64 f2] 73 (0,0))):W.cell? ⟨g,1,none⟩=some (.int .i64 f1):=(blk_cell h 1).trans rfl
theorem IsS73.set_1 {w0 W:World} {g:Nat} {f0:List Int} {f1:Int} {f2:Int} (h:IsS73 w0 W g f0 f1 f2) (x:Int):IsS73 w0 (W.setCell ⟨g,1,none⟩ (.int .i64 x)) g f0 x f2:=by
 obtain ⟨A0,c0,hb,hg,hr0⟩:=h
 exact ⟨A0,c0,by simpa using blk_set hb 1 (.int .i64 x),hg,hr0⟩
theorem cellS73_2 {W:World} {g:Nat} {A0:Option Addr} {c0:Nat} {f0:List Int} {f1:Int} {f2:Int} (h:W.heap[g]? = some (.cells #[.slice A0 f0.length c0,.int .i64 f1,.int .i64 f2] 73 (0,0))):W.cell? ⟨g,2,none⟩=some (.int .i64 f2):=(blk_cell h 2).trans rfl
theorem IsS73.set_2 {w0 W:World} {g:Nat} {f0:List Int} {f1:Int} {f2:Int} (h:IsS73 w0 W g f0 f1 f2) (x:Int):IsS73 w0 (W.setCell ⟨g,2,none⟩ (.int .i64 x)) g f0 f1 x:=by
 obtain ⟨A0,c0,hb,hg,hr0⟩:=h
 exact ⟨A0,c0,by simpa using blk_set hb 2 (.int .i64 x),hg,hr0⟩
theorem IsS73.new (w0 W:World) (A0:Option Addr) (c0:Nat) (f0:List Int) (f1:Int) (f2:Int) (hB:Below w0.heap.size w0 W) (hr0:Kd.C (Kd.int .u8) w0 A0 f0.length f0):IsS73 w0 (W.alloc (.cells #[.slice A0 f0.length c0,.int .i64 f1,.int .i64 f2] 73)) W.heap.size f0 f1 f2:=⟨A0,c0,by simpa using heap_alloc_new W _,hB.size,hr0⟩
def spec_l1New.l0:Nat→List Int→Int→Int→Option (List Int × Int × Int)
 | 0,_,_,_=>none
 | k+1,x0,x3,x4=>if x4 < (x0.length:Int) then (if x4 < 4000 then (if 0≤x4 then (spec_l1New.l0 k x0 (Go.bits .and .i64 (wrap64 ((wrap64 ((wrap64 (x3 * 131))+(wrap64 (rd x0 x4))))+7)) 1073741823) (wrap64 (x4+1))) else (none)) else (some (x0,0,x3))) else (some (x0,0,x3))
def spec_l1New.f (k:Nat) (l0:List Int):Option (List Int × Int × Int):=spec_l1New.l0 k l0 (wrap64 (26583+(l0.length:Int))) 0
theorem spec_l1New.calls (k:Nat) (A0:Option Addr) (c0:Nat) (l0:List Int) (r1:List Int) (r2:Int) (r3:Int) (w0 w:World) (hB:Below w0.heap.size w0 w) (hr0:Kd.C (Kd.int .u8) w0 A0 l0.length l0) (hc0:l0.length≤c0) (h:spec_l1New.f k l0=some (r1,r2,r3)) :
   Calls Try.prog 17 #[.slice A0 l0.length c0] w fun e w'=>∃ g_:Nat,e = .returned (.pointer (some ⟨g_,0,none⟩))∧IsS73 w0 w' g_ r1 r2 r3∧Below w0.heap.size w0 w'∧Below w.heap.size w w':=by
 have hu73:=Try.underlying73
 have HR0:=zk hr0
 have HC0:=zk hc0
 clear hr0 hc0
 have HBW:=zk (Below.refl w.heap.size w)
 have HW0:=zk hB.size
 have HB:=zk hB
 clear hB
 have H:=h
 unfold spec_l1New.f at H
 clear h
 have H':=zk H
 clear H
 go_enter Try.func17,Try.ntmps17
 go_wp2
 try simp only [Act.put,zt,zv,zu]
 go_loopg [3,4] k (fun kq v3 v4 w'=>∃ (x3_1:Int) (x4_1:Int),v3 = .int .i64 x3_1∧v4 = .int .i64 x4_1∧Aside0 (spec_l1New.l0 kq l0 x3_1 x4_1=some (r1,r2,r3))∧Aside0 (kq≤k)∧Aside0 (Below w0.heap.size w0 w')∧Aside0 (Below w.heap.size w w'))
 case atStart=>exact ⟨(wrap64 (26583+(l0.length:Int))),(0),za13,za13,H',⟨Nat.le_refl _⟩,⟨za3⟩,⟨za38⟩⟩
 case round =>
  clear H'
  obtain ⟨x3_1,x4_1,rfl,rfl,HA,HK1,HB,HBW⟩:=hrel
  cases gk with
  | zero=>exact absurd HA.out (by simp [spec_l1New.l0])
  | succ k1 =>
   have H:=HA.out
   clear HA
   simp only [spec_l1New.l0] at H
   by_cases c2:x4_1 < (l0.length:Int)
   rw [if_pos c2] at H
   have c2b0:=zdl c2
   clear c2
   by_cases c3:x4_1 < 4000
   rw [if_pos c3] at H
   have c3b0:=zdl c3
   clear c3
   by_cases c4:0≤x4_1
   ·rw [if_pos c4] at H
    have c4b0:=zdle c4
    clear c4
    have H':=zk H
    clear H
    have p17001:0≤(x4_1:Int):=of_decide_eq_true za7
    have q17001:x4_1 < (l0.length:Int):=of_decide_eq_true za7
    obtain ⟨ad17001,e17001,hx17001_0⟩:=Kd.at_int HR0.out x4_1 p17001 q17001
    cases e17001
    replace hx17001_0:=pw_cell_below HB.out hx17001_0
    replace p17001:=eq_true p17001
    replace q17001:=eq_true q17001
    go_wp2
    go_roundg k1
    case measure=>have:=HK1.out;omega
    case rel=>exact ⟨(Go.bits .and .i64 (wrap64 ((wrap64 ((wrap64 (x3_1 * 131))+(wrap64 (rd l0 x4_1))))+7)) 1073741823),(wrap64 (x4_1+1)),za13,za13,H',⟨za61⟩,⟨za3⟩,⟨za38⟩⟩
   ·rw [if_neg c4] at H
    exact absurd H (by simp)
   ·rw [if_neg c3] at H
    have c3b0:=zdnl c3
    clear c3
    simp only [Option.some.injEq,Prod.mk.injEq] at H
    obtain ⟨rfl,rfl,rfl⟩:=H
    go_wp2_with (first|((with_reducible refine gate_dst (N:=31) rfl ?_);refine zE (cs:=#[.slice A0 l0.length c0,.int .i64 0,.int .i64 x3_1]) (t:=73) ?_;intro gb2 hg w5 hbox hb;replace HB:=yB HB hb;have BK2:=zk hbox;have GW2:=zk (zs (w:=w) hg za38);have GE2:=zk ((Nat.le_trans HW0.out (by rw [hg];exact (below_size za38):w.heap.size≤gb2):w0.heap.size≤gb2));replace HBW:=zk (below_step HBW.out hb);clear hb hbox hg))
    go_ret
    exact ⟨_,rfl,(show IsS73 w0 _ gb2 l0 0 x3_1 from ⟨_,_,za0 BK2.out,GE2.out,HR0.out⟩),za3,by repeat (first|(with_reducible first|exact HBW.out|apply below_alloc|apply pw_below_drewN|apply below_drew1|refine below_set ?_ GW2.out)|exact HBW.out)⟩
   ·rw [if_neg c2] at H
    have c2b0:=zdnl c2
    clear c2
    simp only [Option.some.injEq,Prod.mk.injEq] at H
    obtain ⟨rfl,rfl,rfl⟩:=H
    go_wp2_with (first|((with_reducible refine gate_dst (N:=31) rfl ?_);refine zE (cs:=#[.slice A0 l0.length c0,.int .i64 0,.int .i64 x3_1]) (t:=73) ?_;intro gb3 hg w6 hbox hb;replace HB:=yB HB hb;have BK3:=zk hbox;have GW3:=zk (zs (w:=w) hg za38);have GE3:=zk ((Nat.le_trans HW0.out (by rw [hg];exact (below_size za38):w.heap.size≤gb3):w0.heap.size≤gb3));replace HBW:=zk (below_step HBW.out hb);clear hb hbox hg))
    go_ret
    exact ⟨_,rfl,(show IsS73 w0 _ gb3 l0 0 x3_1 from ⟨_,_,za0 BK3.out,GE3.out,HR0.out⟩),za3,by repeat (first|(with_reducible first|exact HBW.out|apply below_alloc|apply pw_below_drewN|apply below_drew1|refine below_set ?_ GW3.out)|exact HBW.out)⟩
def spec_l1Byte.f (s0_0:List Int) (s0_1:Int) (s0_2:Int):Option (Int × Int × Int):=if s0_1 < (s0_0.length:Int) then (if 0≤s0_1 then (some (Go.bits .and .i64 (wrap64 ((Go.bits .and .i64 (Go.bits .xor .i64 ((wrap64 ((wrap64 (s0_2 * 6364136223846793005))+1442695040888963407)) / 8589934592) ((wrap64 ((wrap64 (s0_2 * 6364136223846793005))+1442695040888963407)) / 35184372088832)) 255)+(wrap64 (rd s0_0 s0_1)))) 255,wrap64 (s0_1+1),wrap64 ((wrap64 (s0_2 * 6364136223846793005))+1442695040888963407))) else (none)) else (some (Go.bits .and .i64 (Go.bits .xor .i64 ((wrap64 ((wrap64 (s0_2 * 6364136223846793005))+1442695040888963407)) / 8589934592) ((wrap64 ((wrap64 (s0_2 * 6364136223846793005))+1442695040888963407)) / 35184372088832)) 255,s0_1,wrap64 ((wrap64 (s0_2 * 6364136223846793005))+1442695040888963407)))
theorem spec_l1Byte.calls (g:Nat) (s0_0:List Int) (s0_1:Int) (s0_2:Int) (r1:Int) (r2:Int) (r3:Int) (w0 w:World) (hI:IsS73 w0 w g s0_0 s0_1 s0_2) (hB:Below w0.heap.size w0 w) (h:spec_l1Byte.f s0_0 s0_1 s0_2=some (r1,r2,r3)) :
   Calls Try.prog 60 #[.pointer (some ⟨g,0,none⟩)] w fun e w'=>e = .returned (.int .i64 r1)∧IsS73 w0 w' g s0_0 r2 r3∧Below w0.heap.size w0 w'∧KeepBut w w' g none:=by
 have HI0:=zk hI
 have HK:=zk (KeepBut.refl w g none)
 have HL:=zk hB.size
 clear hI
 have HW0:=zk hB.size
 have HB:=zk hB
 clear hB
 have H:=h
 unfold spec_l1Byte.f at H
 clear h
 by_cases c2:s0_1 < (s0_0.length:Int)
 rw [if_pos c2] at H
 have c2b0:=zdl c2
 clear c2
 by_cases c3:0≤s0_1
 rw [if_pos c3] at H
 have c3b0:=zdle c3
 clear c3
 simp only [Option.some.injEq,Prod.mk.injEq] at H
 obtain ⟨rfl,rfl,rfl⟩:=H
 obtain ⟨ASz4_0,cSz4_0,HGz4,hgz4,HSz4_0⟩:=HI0.out
 have hcz4_0:=cellS73_0 HGz4
 have hcz4_1:=cellS73_1 HGz4
 have hcz4_2:=cellS73_2 HGz4
 have hfz4_1:=blk_frozen HGz4 1
 have hfz4_2:=blk_frozen HGz4 2
 clear HGz4 hgz4
 have p60001:0≤(s0_1:Int):=of_decide_eq_true za7
 have q60001:s0_1 < (s0_0.length:Int):=of_decide_eq_true za7
 obtain ⟨ad60001,e60001,hx60001_0⟩:=Kd.at_int HSz4_0 s0_1 p60001 q60001
 cases e60001
 have hn60001_0:ad60001.block ≠ g:=Nat.ne_of_lt (Nat.lt_of_lt_of_le (by have:=World.block_lt_of_cell? _ _ hx60001_0;first|rwa [add_block] at this|exact this) (IsS73.ge HI0.out))
 replace hx60001_0:=pw_cell_below HB.out hx60001_0
 replace hx60001_0:=(cell_far (p:=⟨g,2,none⟩) (by first|(rw [add_block];exact hn60001_0)|(show (Addr.add _ _).block ≠ _;rw [add_block];exact hn60001_0)|exact hn60001_0) (.int .i64 (wrap64 ((wrap64 (s0_2 * 6364136223846793005))+1442695040888963407)))).trans hx60001_0
 (try have hy60001_0:=fun (n_:Nat)=>(show (((w.drewN n_).setCell ⟨g,2,none⟩ (.int .i64 (wrap64 ((wrap64 (s0_2 * 6364136223846793005))+1442695040888963407))))).cell? _=some _ from hx60001_0))
 clear hn60001_0
 replace p60001:=eq_true p60001
 replace q60001:=eq_true q60001
 rotate_left
 · rw [if_neg c3] at H
   exact absurd H (by simp)
 rw [if_neg c2] at H
 have c2b0:=zdnl c2
 clear c2
 simp only [Option.some.injEq,Prod.mk.injEq] at H
 obtain ⟨rfl,rfl,rfl⟩:=H
 obtain ⟨ASz5_0,cSz5_0,HGz5,hgz5,HSz5_0⟩:=HI0.out
 have hcz5_0:=cellS73_0 HGz5
 have hcz5_1:=cellS73_1 HGz5
 have hcz5_2:=cellS73_2 HGz5
 have hfz5_1:=blk_frozen HGz5 1
 have hfz5_2:=blk_frozen HGz5 2
 clear HGz5 hgz5
 rotate_left
 all_goals
  go_enter Try.func60,Try.ntmps60
  go_wp2
  repeat (go_quiet (fail);try go_wp2)
  go_ret
  exact ⟨za15,za6,za12,za9⟩
def spec_l1Below.f (s0_0:List Int) (s0_1:Int) (s0_2:Int) (a1:Int):Option (Int × Int × Int):=if a1≤0 then (some (0,s0_1,s0_2)) else (if a1≤256 then ((spec_l1Byte.f s0_0 s0_1 s0_2).bind fun bt39001=>(if a1=0 then (none) else (some (Int.tmod bt39001.1 a1,bt39001.2.1,bt39001.2.2)))) else ((spec_l1Byte.f s0_0 s0_1 s0_2).bind fun bt39004=>((spec_l1Byte.f s0_0 bt39004.2.1 bt39004.2.2).bind fun bt39007=>((spec_l1Byte.f s0_0 bt39007.2.1 bt39007.2.2).bind fun bt39010=>((spec_l1Byte.f s0_0 bt39010.2.1 bt39010.2.2).bind fun bt39013=>(if a1=0 then (none) else (some (Int.tmod (wrap64 ((wrap64 ((wrap64 ((wrap64 (bt39004.1 * 16777216))+(wrap64 (bt39007.1 * 65536))))+(wrap64 (bt39010.1 * 256))))+bt39013.1)) a1,bt39013.2.1,bt39013.2.2))))))))
theorem spec_l1Below.calls (g:Nat) (s0_0:List Int) (s0_1:Int) (s0_2:Int) (a1:Int) (r1:Int) (r2:Int) (r3:Int) (w0 w:World) (hI:IsS73 w0 w g s0_0 s0_1 s0_2) (hB:Below w0.heap.size w0 w) (h:spec_l1Below.f s0_0 s0_1 s0_2 a1=some (r1,r2,r3)) :
   Calls Try.prog 39 #[.pointer (some ⟨g,0,none⟩),.int .i64 a1] w fun e w'=>e = .returned (.int .i64 r1)∧IsS73 w0 w' g s0_0 r2 r3∧Below w0.heap.size w0 w'∧KeepBut w w' g none:=by
 have HI0:=zk hI
 have HK:=zk (KeepBut.refl w g none)
 have HL:=zk hB.size
 clear hI
 have HW0:=zk hB.size
 have HB:=zk hB
 clear hB
 have H:=h
 unfold spec_l1Below.f at H
 clear h
 by_cases c3:a1≤0
 rw [if_pos c3] at H
 have c3b0:=zdle c3
 clear c3
 rotate_left
 rw [if_neg c3] at H
 have c3b0:=zdnle c3
 clear c3
 by_cases c4:a1≤256
 rw [if_pos c4] at H
 have c4b0:=zdle c4
 clear c4
 obtain ⟨⟨t1,t2,t3⟩,A5,H⟩:=zO H
 try dsimp only at H
 by_cases c6:a1=0
 · rw [if_pos c6] at H
   exact absurd H (by simp)
 · rw [if_neg c6] at H
   have c6b0:=zbn c6
   have c6b1:=zqt c6
   simp only [Option.some.injEq,Prod.mk.injEq] at H
   obtain ⟨rfl,rfl,rfl⟩:=H
   go_enter Try.func39,Try.ntmps39
   go_wp2_with (first|((with_reducible refine gate_callee (f:=60) rfl ?_);refine zg (some 14) Try.func60 #[.pointer (some ⟨g,0,none⟩)] rfl za4 ?_;(with_reducible refine (spec_l1Byte.calls g s0_0 s0_1 s0_2 t1 t2 t3 w0 _ za6 za12 A5.out).mono ?_);rintro e w7 ⟨rfl,hi,hb,hk⟩;refine ⟨_,rfl,?_⟩;replace HK:=yK HK hk;replace HB:=zk hb;replace HI0:=zk hi;(try clear hb hk hi)))
   go_ret
   exact ⟨za15,za6,za12,za9⟩
 rw [if_neg c4] at H
 have c4b0:=zdnle c4
 clear c4
 obtain ⟨⟨t4,t5,t6⟩,A8,H⟩:=zO H
 try dsimp only at H
 obtain ⟨⟨t7,t8,t9⟩,A9,H⟩:=zO H
 try dsimp only at H
 obtain ⟨⟨t10,t11,t12⟩,A10,H⟩:=zO H
 try dsimp only at H
 obtain ⟨⟨t13,t14,t15⟩,A11,H⟩:=zO H
 try dsimp only at H
 by_cases c12:a1=0
 · rw [if_pos c12] at H
   exact absurd H (by simp)
 rw [if_neg c12] at H
 have c12b0:=zbn c12
 have c12b1:=zqt c12
 rotate_left
 all_goals
  simp only [Option.some.injEq,Prod.mk.injEq] at H
  obtain ⟨rfl,rfl,rfl⟩:=H
  go_enter Try.func39,Try.ntmps39
  go_wp2_with (first|((with_reducible refine gate_callee (f:=60) rfl ?_);refine zg (some 18) Try.func60 #[.pointer (some ⟨g,0,none⟩)] rfl za4 ?_;(with_reducible refine (spec_l1Byte.calls g s0_0 s0_1 s0_2 t4 t5 t6 w0 _ za6 za12 A8.out).mono ?_);rintro e w13 ⟨rfl,hi,hb,hk⟩;refine ⟨_,rfl,?_⟩;replace HK:=yK HK hk;replace HB:=zk hb;replace HI0:=zk hi;(try clear hb hk hi))|((with_reducible refine gate_callee (f:=60) rfl ?_);refine zg (some 20) Try.func60 #[.pointer (some ⟨g,0,none⟩)] rfl za4 ?_;(with_reducible refine (spec_l1Byte.calls g s0_0 t5 t6 t7 t8 t9 w0 _ za6 za12 A9.out).mono ?_);rintro e w14 ⟨rfl,hi,hb,hk⟩;refine ⟨_,rfl,?_⟩;replace HK:=yK HK hk;replace HB:=zk hb;replace HI0:=zk hi;(try clear hb hk hi))|((with_reducible refine gate_callee (f:=60) rfl ?_);refine zg (some 22) Try.func60 #[.pointer (some ⟨g,0,none⟩)] rfl za4 ?_;(with_reducible refine (spec_l1Byte.calls g s0_0 t8 t9 t10 t11 t12 w0 _ za6 za12 A10.out).mono ?_);rintro e w15 ⟨rfl,hi,hb,hk⟩;refine ⟨_,rfl,?_⟩;replace HK:=yK HK hk;replace HB:=zk hb;replace HI0:=zk hi;(try clear hb hk hi))|((with_reducible refine gate_callee (f:=60) rfl ?_);refine zg (some 24) Try.func60 #[.pointer (some ⟨g,0,none⟩)] rfl za4 ?_;(with_reducible refine (spec_l1Byte.calls g s0_0 t11 t12 t13 t14 t15 w0 _ za6 za12 A11.out).mono ?_);rintro e w16 ⟨rfl,hi,hb,hk⟩;refine ⟨_,rfl,?_⟩;replace HK:=yK HK hk;replace HB:=zk hb;replace HI0:=zk hi;(try clear hb hk hi)))
  go_ret
  exact ⟨za15,za6,za12,za9⟩
def spec_l1Once.f (s0_0:List Int) (s0_1:Int) (s0_2:Int) (a1:Int):Option (Bool × Int × Int):=(spec_l1Below.f s0_0 s0_1 s0_2 a1).bind fun bt18001=>(some ((bt18001.1 == 0),bt18001.2.1,bt18001.2.2))
theorem spec_l1Once.calls (g:Nat) (s0_0:List Int) (s0_1:Int) (s0_2:Int) (a1:Int) (r1:Bool) (r2:Int) (r3:Int) (w0 w:World) (hI:IsS73 w0 w g s0_0 s0_1 s0_2) (hB:Below w0.heap.size w0 w) (h:spec_l1Once.f s0_0 s0_1 s0_2 a1=some (r1,r2,r3)) :
  Calls Try.prog 18 #[.pointer (some ⟨g,0,none⟩),.int .i64 a1] w fun e w'=>e = .returned (.bool r1)∧IsS73 w0 w' g s0_0 r2 r3∧Below w0.heap.size w0 w'∧KeepBut w w' g none:=by
 have HI0:=zk hI
 have HK:=zk (KeepBut.refl w g none)
 have HL:=zk hB.size
 clear hI
 have HW0:=zk hB.size
 have HB:=zk hB
 clear hB
 have H:=h
 unfold spec_l1Once.f at H
 clear h
 obtain ⟨⟨t1,t2,t3⟩,A3,H⟩:=zO H
 try dsimp only at H
 simp only [Option.some.injEq,Prod.mk.injEq] at H
 obtain ⟨rfl,rfl,rfl⟩:=H
 go_enter Try.func18,Try.ntmps18
 go_wp2_with (first|((with_reducible refine gate_callee (f:=39) rfl ?_);refine zg (some 7) Try.func39 #[.pointer (some ⟨g,0,none⟩),.int .i64 a1] rfl za4 ?_;(with_reducible refine (spec_l1Below.calls g s0_0 s0_1 s0_2 a1 t1 t2 t3 w0 _ za6 za12 A3.out).mono ?_);rintro e w4 ⟨rfl,hi,hb,hk⟩;refine ⟨_,rfl,?_⟩;replace HK:=yK HK hk;replace HB:=zk hb;replace HI0:=zk hi;(try clear hb hk hi)))
 go_ret
 exact ⟨za15,za6,za12,za9⟩
def spec_l1PickInt.f (s0_0:List Int) (s0_1:Int) (s0_2:Int) (l1:List Int):Option (Int × Int × Int):=(spec_l1Below.f s0_0 s0_1 s0_2 (l1.length:Int)).bind fun bt59001=>(if 0≤bt59001.1 then (if bt59001.1 < (l1.length:Int) then (some (rd l1 bt59001.1,bt59001.2.1,bt59001.2.2)) else (none)) else (none))
theorem spec_l1PickInt.calls (g:Nat) (s0_0:List Int) (s0_1:Int) (s0_2:Int) (A1:Option Addr) (c1:Nat) (l1:List Int) (r1:Int) (r2:Int) (r3:Int) (w0 w:World) (hI:IsS73 w0 w g s0_0 s0_1 s0_2) (hB:Below w0.heap.size w0 w) (hr1:Kd.C (Kd.int .i64) w A1 l1.length l1) (hc1:l1.length≤c1) (hf1:∀ ad,A1=some ad→0 < l1.length→ad.block ≠ g) (h:spec_l1PickInt.f s0_0 s0_1 s0_2 l1=some (r1,r2,r3)) :
  Calls Try.prog 59 #[.pointer (some ⟨g,0,none⟩),.slice A1 l1.length c1] w fun e w'=>e = .returned (.int .i64 r1)∧IsS73 w0 w' g s0_0 r2 r3∧Below w0.heap.size w0 w'∧KeepBut w w' g none:=by
 have HR1:=zk hr1
 have HC1:=zk hc1
 clear hr1 hc1
 have HI0:=zk hI
 have HK:=zk (KeepBut.refl w g none)
 have HL:=zk hB.size
 clear hI
 have HW0:=zk hB.size
 have HB:=zk hB
 clear hB
 have H:=h
 unfold spec_l1PickInt.f at H
 clear h
 obtain ⟨⟨t1,t2,t3⟩,A3,H⟩:=zO H
 try dsimp only at H
 by_cases c4:0≤t1
 rw [if_pos c4] at H
 have c4b0:=zdle c4
 clear c4
 by_cases c5:t1 < (l1.length:Int)
 ·rw [if_pos c5] at H
  have c5b0:=zdl c5
  clear c5
  simp only [Option.some.injEq,Prod.mk.injEq] at H
  obtain ⟨rfl,rfl,rfl⟩:=H
  go_enter Try.func59,Try.ntmps59
  go_wp2_with (first|((with_reducible refine gate_callee (f:=39) rfl ?_);refine zg (some 9) Try.func39 #[.pointer (some ⟨g,0,none⟩),.int .i64 (l1.length:Int)] rfl za4 ?_;(with_reducible refine (spec_l1Below.calls g s0_0 s0_1 s0_2 (l1.length:Int) t1 t2 t3 w0 _ za6 za12 A3.out).mono ?_);rintro e w6 ⟨rfl,hi,hb,hk⟩;refine ⟨_,rfl,?_⟩;replace HK:=yK HK hk;replace HB:=zk hb;replace HI0:=zk hi;(try clear hb hk hi);have p59004:0≤(t1:Int):=of_decide_eq_true za7;have q59004:t1 < (l1.length:Int):=of_decide_eq_true za7;obtain ⟨ad59004,e59004,hx59004_0⟩:=Kd.at_int HR1.out t1 p59004 q59004;cases e59004;replace hx59004_0:=keep_cell HK.out hx59004_0 (by first|(rw [add_block];exact hf1 _ rfl (by omega))|exact hf1 _ rfl (by omega)|exact hf1 ad59004 rfl (by omega));replace p59004:=eq_true p59004;replace q59004:=eq_true q59004))
  go_ret
  exact ⟨za15,za6,za12,za9⟩
 ·rw [if_neg c5] at H
  exact absurd H (by simp)
 ·rw [if_neg c4] at H
  exact absurd H (by simp)
def spec_l1Pick.f (s0_0:List Int) (s0_1:Int) (s0_2:Int) (l1:List ByteArray):Option (ByteArray × Int × Int):=(spec_l1Below.f s0_0 s0_1 s0_2 (l1.length:Int)).bind fun bt62001=>(if 0≤bt62001.1 then (if bt62001.1 < (l1.length:Int) then (some (rdOf ByteArray.empty l1 bt62001.1,bt62001.2.1,bt62001.2.2)) else (none)) else (none))
theorem spec_l1Pick.calls (g:Nat) (s0_0:List Int) (s0_1:Int) (s0_2:Int) (A1:Option Addr) (c1:Nat) (l1:List ByteArray) (r1:ByteArray) (r2:Int) (r3:Int) (w0 w:World) (hI:IsS73 w0 w g s0_0 s0_1 s0_2) (hB:Below w0.heap.size w0 w) (hr1:Kd.C Kd.string w A1 l1.length l1) (hc1:l1.length≤c1) (hf1:∀ ad,A1=some ad→0 < l1.length→ad.block ≠ g) (h:spec_l1Pick.f s0_0 s0_1 s0_2 l1=some (r1,r2,r3)) :
  Calls Try.prog 62 #[.pointer (some ⟨g,0,none⟩),.slice A1 l1.length c1] w fun e w'=>e = .returned (.string r1)∧IsS73 w0 w' g s0_0 r2 r3∧Below w0.heap.size w0 w'∧KeepBut w w' g none:=by
 have HR1:=zk hr1
 have HC1:=zk hc1
 clear hr1 hc1
 have HI0:=zk hI
 have HK:=zk (KeepBut.refl w g none)
 have HL:=zk hB.size
 clear hI
 have HW0:=zk hB.size
 have HB:=zk hB
 clear hB
 have H:=h
 unfold spec_l1Pick.f at H
 clear h
 obtain ⟨⟨t1,t2,t3⟩,A3,H⟩:=zO H
 try dsimp only at H
 by_cases c4:0≤t1
 rw [if_pos c4] at H
 have c4b0:=zdle c4
 clear c4
 by_cases c5:t1 < (l1.length:Int)
 ·rw [if_pos c5] at H
  have c5b0:=zdl c5
  clear c5
  simp only [Option.some.injEq,Prod.mk.injEq] at H
  obtain ⟨rfl,rfl,rfl⟩:=H
  go_enter Try.func62,Try.ntmps62
  go_wp2_with (first|((with_reducible refine gate_callee (f:=39) rfl ?_);refine zg (some 9) Try.func39 #[.pointer (some ⟨g,0,none⟩),.int .i64 (l1.length:Int)] rfl za4 ?_;(with_reducible refine (spec_l1Below.calls g s0_0 s0_1 s0_2 (l1.length:Int) t1 t2 t3 w0 _ za6 za12 A3.out).mono ?_);rintro e w6 ⟨rfl,hi,hb,hk⟩;refine ⟨_,rfl,?_⟩;replace HK:=yK HK hk;replace HB:=zk hb;replace HI0:=zk hi;(try clear hb hk hi);have p62004:0≤(t1:Int):=of_decide_eq_true za7;have q62004:t1 < (l1.length:Int):=of_decide_eq_true za7;obtain ⟨ad62004,e62004,hx62004_0⟩:=Kd.at_string HR1.out t1 p62004 q62004;cases e62004;replace hx62004_0:=keep_cell HK.out hx62004_0 (by first|(rw [add_block];exact hf1 _ rfl (by omega))|exact hf1 _ rfl (by omega)|exact hf1 ad62004 rfl (by omega));replace p62004:=eq_true p62004;replace q62004:=eq_true q62004))
  go_ret
  exact ⟨za15,za6,za12,za9⟩
 ·rw [if_neg c5] at H
  exact absurd H (by simp)
 ·rw [if_neg c4] at H
  exact absurd H (by simp)
mutual
def spec_l5Draw.l0:Nat→Int→Int→List Int→Int→Int→List Bool→List (List Int)→Option (List Bool × (List (List Int)) × Int × Int)
 | 0,_,_,_,_,_,_,_=>none
 | k+1,x5,x7,x1000,x1001,x1002,x20006000,x20006001=>if x7 < x5 then ((spec_l1Once.f x1000 x1001 x1002 2).bind fun bt20006=>(if x20006000.length < 140737488355328 then (spec_l5Draw.l1 k x5 x7 (([]:List Int)) 0 x1000 bt20006.2.1 bt20006.2.2 (x20006000 ++ [bt20006.1]) x20006001) else (none))) else (some (x20006000,x20006001,x1001,x1002))
def spec_l5Draw.l1:Nat→Int→Int→List Int→Int→List Int→Int→Int→List Bool→List (List Int)→Option (List Bool × (List (List Int)) × Int × Int)
 | 0,_,_,_,_,_,_,_,_,_=>none
 | k+1,x5,x7,x8,x9,x1000,x1001,x1002,x20006000,x20006001=>if x9 < 3 then ((spec_l1Below.f x1000 x1001 x1002 x5).bind fun bt20015=>(if x8.length < 17592186044416 then (spec_l5Draw.l1 k x5 x7 (x8 ++ [bt20015.1]) (wrap64 (x9+1)) x1000 bt20015.2.1 bt20015.2.2 x20006000 x20006001) else (none))) else (if x20006001.length < 5864062014805 then (spec_l5Draw.l0 k x5 (wrap64 (x7+1)) x1000 x1001 x1002 x20006000 (x20006001 ++ [x8])) else (none))
end
def spec_l5Draw.f (k:Nat) (s0_0:List Int) (s0_1:Int) (s0_2:Int) (a1:Int):Option (List Bool × (List (List Int)) × Int × Int):=(spec_l1Below.f s0_0 s0_1 s0_2 a1).bind fun bt20002=>(spec_l5Draw.l0 k (wrap64 (1+bt20002.1)) 0 s0_0 bt20002.2.1 bt20002.2.2 ([]:List Bool) ([]:List (List Int)))
def spec_l5Draw.T6:Bool × List (List Nat × List Nat):=(true,[([],[]),([0],[0]),([],[]),([2],[2]),([3],[3]),([1,4,3],[1,4]),([0,1,2,3,4,5],[]),([6,5,5,0,1,2,3,4,5],[5,6])])
def spec_l5Draw.B6:List Nat:=[0,1,0,4,12,31,63,127]
theorem spec_l5Draw.tab6:rtab .any (opsOf Try.f20 6)=spec_l5Draw.T6:=by kernel_rfl
theorem spec_l5Draw.bits6:waitsOk spec_l5Draw.T6.2 spec_l5Draw.B6=true:=by kernel_rfl
theorem spec_l5Draw.calls (k:Nat) (g:Nat) (s0_0:List Int) (s0_1:Int) (s0_2:Int) (a1:Int) (r1:List Bool) (r2:List (List Int)) (r3:Int) (r4:Int) (w0 w:World) (hI:IsS73 w0 w g s0_0 s0_1 s0_2) (hB:Below w0.heap.size w0 w) (h:spec_l5Draw.f k s0_0 s0_1 s0_2 a1=some (r1,r2,r3,r4)) :
   Calls Try.prog 20 #[.pointer (some ⟨g,0,none⟩),.int .i64 a1] w fun e w'=>∃ v0_ v1_:Value,e = .returned (.agg #[v0_,v1_])∧Kd.R Kd.bool 4 w' w.heap.size (fun _=>True) v0_ r1∧Kd.S (Kd.slice 3 (Kd.int .i64)) 29 w' w.heap.size (fun _=>True) v1_ r2∧IsS73 w0 w' g s0_0 r3 r4∧Below w0.heap.size w0 w'∧KeepBut w w' g none:=by
 have hu27:=Try.underlying27
 have HI0:=zk hI
 have HK:=zk (KeepBut.refl w g none)
 have HL:=zk hB.size
 clear hI
 have HW0:=zk hB.size
 have HB:=zk hB
 clear hB
 have H:=h
 unfold spec_l5Draw.f at H
 clear h
 obtain ⟨⟨t2,t3,t4⟩,A3,H⟩:=zO H
 try dsimp only at H
 have H':=zk H
 clear H
 go_enter Try.func20,Try.ntmps20
 go_wp2_with (first|((with_reducible refine gate_dst (N:=4) rfl ?_);refine zE (cs:=#[.slice none 0 0,.slice none 0 0]) (t:=27) ?_;intro gb1 hg w4 hbox hb;replace HB:=zk (below_step za12 hb);have BK1:=zk hbox;have GW1:=zk ((by rw [hg];exact (keep_size (w:=w) (g:=g) (row:=none) za9):w.heap.size≤gb1));have GE1:=zk ((Nat.le_trans HW0.out (by rw [hg];exact (keep_size (w:=w) (g:=g) (row:=none) za9):w.heap.size≤gb1):w0.heap.size≤gb1));have NB0_1:=zk (zm hg (IsS73.lt (show IsS73 w0 _ g s0_0 s0_1 s0_2 from za6)));have NB1_0:=zk (zM hg (IsS73.lt (show IsS73 w0 _ g s0_0 s0_1 s0_2 from za6)));replace HI0:=zk (IsS73.below za6 hb);replace HK:=yk HK hb;clear hb hbox hg)|((with_reducible refine gate_callee (f:=39) rfl ?_);refine zg (some 12) Try.func39 #[.pointer (some ⟨g,0,none⟩),.int .i64 a1] rfl za4 ?_;(with_reducible refine (spec_l1Below.calls g s0_0 s0_1 s0_2 a1 t2 t3 t4 w0 _ za8 za17 A3.out).mono ?_);rintro e w5 ⟨rfl,hi,hb,hk⟩;refine ⟨_,rfl,?_⟩;replace BK1:=yq hk BK1 NB1_0;replace HK:=yK HK hk;replace HB:=zk hb;replace HI0:=zk hi;(try clear hb hk hi))|((with_reducible refine gate_dst (N:=6) rfl ?_);refine zE (cs:=#[.slice none 0 0,.slice none 0 0]) (t:=27) ?_;intro gb5 hg w6 hbox hb;replace HB:=zk (below_step za17 hb);have BK5:=zk hbox;have GW5:=zk ((by rw [hg];exact (keep_size (w:=w) (g:=g) (row:=none) za5):w.heap.size≤gb5));have GE5:=zk ((Nat.le_trans HW0.out (by rw [hg];exact (keep_size (w:=w) (g:=g) (row:=none) za5):w.heap.size≤gb5):w0.heap.size≤gb5));have NB1_5:=yn hg BK1;have NB5_1:=yp hg BK1;have NB0_5:=zk (zm hg (IsS73.lt (show IsS73 w0 _ g s0_0 t3 t4 from za8)));have NB5_0:=zk (zM hg (IsS73.lt (show IsS73 w0 _ g s0_0 t3 t4 from za8)));replace HI0:=zk (IsS73.below za8 hb);replace BK1:=yb BK1 hb;replace HK:=yk HK hb;clear hb hbox hg;have hnb7:=NB5_1.out;have hnc7:=NB1_5.out;have hnb8:=NB5_0.out;have hnc8:=NB0_5.out;obtain ⟨hcz9_0,hcz9_1,hfz9_0,hfz9_1⟩:=blk2 BK5.out))
 try simp only [Act.put,zt,zv,zu]
 go_loopg [7] k (fun kq v7 w'=>∃ (x7_1:Int) (x1001_1:Int) (x1002_1:Int) (x20006000_1:List Bool) (x20006001_1:List (List Int)) (u20006000:Value) (u20006001:Value),v7 = .int .i64 x7_1∧Aside0 (spec_l5Draw.l0 kq (wrap64 (1+t2)) x7_1 s0_0 x1001_1 x1002_1 x20006000_1 x20006001_1=some (r1,r2,r3,r4))∧Aside0 (kq≤k)∧Aside0 (Kd.R Kd.bool 4 w' w.heap.size (fun _=>True) u20006000 x20006000_1)∧Aside0 (Kd.S (Kd.slice 3 (Kd.int .i64)) 29 w' w.heap.size (fun _=>True) u20006001 x20006001_1)∧Aside0 (w'.heap[gb1]? = some (.cells #[(.slice none 0 0),(.slice none 0 0)] 27 (0,0)))∧Aside0 (w'.heap[gb5]? = some (.cells #[u20006000,u20006001] 27 (0,0)))∧Aside0 (IsS73 w0 w' g s0_0 x1001_1 x1002_1)∧Aside0 (KeepBut w w' g none)∧Aside0 (Below w0.heap.size w0 w'))
 case atStart=>exact ⟨(0),(t3),(t4),(([]:List Bool)),(([]:List (List Int))),(.slice none 0 0),(.slice none 0 0),za13,H',⟨Nat.le_refl _⟩,⟨za53⟩,⟨za37⟩,⟨zpw BK1.out⟩,⟨zpu BK5.out⟩,⟨za18⟩,⟨za21⟩,⟨za26⟩⟩
 case round =>
  clear H'
  try clear hcz9_0
  try clear hcz9_1
  try clear hfz9_0
  try clear hfz9_1
  obtain ⟨x7_1,x1001_1,x1002_1,x20006000_1,x20006001_1,u20006000,u20006001,rfl,HA,HK1,HO_20006000,HO_20006001,BK1,BK5,HI0,HK,HB⟩:=hrel
  cases gk with
  | zero=>exact absurd HA.out (by simp [spec_l5Draw.l0])
  | succ k1 =>
   have H:=HA.out
   clear HA
   simp only [spec_l5Draw.l0] at H
   by_cases c10:x7_1 < (wrap64 (1+t2))
   rw [if_pos c10] at H
   have c10b0:=zdl c10
   have c10w:decide (x7_1 < (IntKind.i64.wrap (1+t2)))=true:=by simp only [i64_w];exact c10b0
   clear c10
   obtain ⟨⟨t6,t7,t8⟩,A11,H⟩:=zO H
   try dsimp only at H
   by_cases c12:x20006000_1.length < 140737488355328
   ·rw [if_pos c12] at H
    have LMc12:=zk c12
    clear c12
    obtain ⟨y20009,hy20009⟩:∃ y_:List Bool,y_=(x20006000_1 ++ [t6]):=⟨_,rfl⟩
    replace H:(spec_l5Draw.l1 k1 (wrap64 (1+t2)) x7_1 (([]:List Int)) 0 s0_0 t7 t8 y20009 x20006001_1)=some (r1,r2,r3,r4):=by first|(rw [hy20009];with_reducible exact H)|(have H2_:=(Option.bind_some _ _).symm.trans H;rw [hy20009];with_reducible exact H2_)|(have H2_:=(Option.bind_some _ _).symm.trans H;with_reducible exact H2_)|with_reducible exact H|(rw [hy20009];exact H)|exact H
    have Ny9:=zk hy20009
    clear hy20009
    obtain ⟨y20012,hy20012⟩:∃ y_:List Int,y_=(([]:List Int)):=⟨_,rfl⟩
    replace H:(spec_l5Draw.l1 k1 (wrap64 (1+t2)) x7_1 y20012 0 s0_0 t7 t8 y20009 x20006001_1)=some (r1,r2,r3,r4):=by first|(rw [hy20012];with_reducible exact H)|(have H2_:=(Option.bind_some _ _).symm.trans H;rw [hy20012];with_reducible exact H2_)|(have H2_:=(Option.bind_some _ _).symm.trans H;with_reducible exact H2_)|with_reducible exact H|(rw [hy20012];exact H)|exact H
    have Ny12:=zk hy20012
    clear hy20012
    have H':=zk H
    clear H
    try go_wp2
    replace HO_20006000:=zk (Kd.R_drew HO_20006000.out)
    replace HO_20006001:=zk (Kd.S_drew HO_20006001.out)
    replace BK1:=zk (blk_drew BK1.out)
    replace BK5:=zk (blk_drew BK5.out)
    replace HI0:=zk (IsS73.drew HI0.out)
    replace HK:=zk (keep_drew HK.out)
    replace HB:=zk (below_drew1 HB.out)
    refine start_ (n:=8) (S:=fun w'=>w'.cell? ⟨gb5,0,none⟩=some (u20006000)∧w'.cell? ⟨gb5,1,none⟩=some (u20006001)) (ds:=[7]) #[false,false,false,false,false,false,false,false] (by kernel_rfl) rfl rfl ⟨(blk_cell BK5.out 0).trans rfl,(blk_cell BK5.out 1).trans rfl⟩ (fun hHeld=>?_);refine with_tabW spec_l5Draw.tab6 spec_l5Draw.bits6 (fun HT_ HW_=>?_)
    generalize wr.drew=w13 at HO_20006000 HO_20006001 BK1 BK5 HI0 HK HB hHeld ⊢
    refine zy 0 (some 20) HT_.out ?_
    refine zy 2 (some 22) HT_.out ?_
    refine ztk 1 (some 21) HT_.out HW_.out hHeld ?_
    refine zon 3 (some 23) HT_.out (fun K hK=>?_)
    refine goes_ Try.func18 (by kernel_rfl) rfl #[.pointer (some ⟨g,0,none⟩),.int .i64 2] (by rfl) rfl rfl za4 ?_
    with_reducible refine (spec_l1Once.calls g s0_0 x1001_1 x1002_1 2 t6 t7 t8 w0 _ za18 za26 A11.out).mono ?_
    rintro e w14 ⟨rfl,hi,hb,hk⟩
    refine ⟨_,rfl,?_⟩
    replace HO_20006000:=zk (Kd.R_mono (Kd.R_keep (IsS73.apart (show IsS73 w0 _ g s0_0 x1001_1 x1002_1 from za18) (za1 HO_20006000.out) (by decide)) hk (fun _ h=>h.2)) (fun _ h=>h.1))
    replace HO_20006001:=zk (Kd.S_mono (Kd.S_keep (IsS73.apartS (show IsS73 w0 _ g s0_0 x1001_1 x1002_1 from za18) (za2 HO_20006001.out) (by decide)) hk (fun _ h=>h.2)) (fun _ h=>h.1))
    replace BK1:=yq hk BK1 NB1_0
    replace BK5:=yq hk BK5 NB5_0
    replace HK:=yK HK hk
    replace HB:=zk hb
    replace HI0:=zk hi
    (try clear hb)
    (try clear hb2)
    (try clear hk)
    (try clear hi)
    refine hK.out _ _ ⟨(blk_cell BK5.out 0).trans rfl,(blk_cell BK5.out 1).trans rfl⟩ (fun hHeld=>?_)
    clear hK K
    refine zno (some 23) ?_
    refine zon 4 (some 24) HT_.out (fun K hK=>?_)
    refine value_ (w1:=?_) (v:=?_) (by rfl) rfl ?_ ?_
    rotate_left 2
    · go_simp
      constructor
      · rfl
      · rfl
    refine hK.out _ _ ⟨(blk_cell (blk_alloc BK5.out _) 0).trans rfl,(blk_cell (blk_alloc BK5.out _) 1).trans rfl⟩ (fun hHeld=>?_)
    clear hK K
    refine zno (some 24) ?_
    refine zon 5 (some 25) HT_.out (fun K hK=>?_)
    refine Kd.R_append_step Kd.bool w.heap.size (by rfl) (.tmp 21) (.tmp 24) 24 4 (.bool false) 1 rfl Try.underlying24 info4 rfl (by decide) (by omega) u20006000 x20006000_1 t6 [.bool t6] (fun _=>True) (fun _=>False) rfl rfl ?aP (fun _ hk=>hk.elim) ?aF ?aO (Below.refl _ _) ?aS ?aL ?_
    (case aP=>exact rfl)
    (case aF=>exact (fun _ _=>trivial))
    (case aO=>exact (za1 HO_20006000.out))
    (case aS=>exact (keep_size (w:=w) (g:=g) (row:=none) za21))
    (case aL=>have:=LMc12.out;omega)
    intro v10 w15 ho hb hg hat
    rw [← Ny9.out] at ho
    replace HO_20006001:=zk (Kd.S_over' (za2 HO_20006001.out) (Kd.R_typed (za1 HO_20006000.out)) (by decide) hg)
    replace BK1:=zk (blk_grown (g:=gb1) (o:=.cells #[.slice none 0 0,.slice none 0 0] 27 (0,0)) (za0 BK1.out) hg (Kd.R_ne HO_20006000.out BK1.out (by decide)))
    replace BK5:=zk (blk_grown (g:=gb5) (o:=.cells #[u20006000,u20006001] 27 (0,0)) (za0 BK5.out) hg (Kd.R_ne HO_20006000.out BK5.out (by decide)))
    replace HB:=zk (below_weaken za26 HL.out hb)
    replace HK:=zk (KeepBut.trans za21 (KeepBut.of_grown hg g) (Kd.R_base2 HO_20006000.out))
    have HO11:=zk ho
    replace HI0:=zk (IsS73.grown za18 hg (IsS73.own_ne HI0.out HO_20006000.out (by decide)))
    clear HO_20006000
    clear ho hb hg hat
    obtain ⟨Ao16,co16,eo16⟩:=Kd.R_slice HO11.out
    (first|subst eo16|(injection eo16 with f1_ f2_ f3_;have f4_:=f1_.symm;have f5_:=f3_.symm;clear f1_ f2_ f3_;subst f4_;subst f5_))
    refine hK.out _ _ ⟨(blk_cell BK5.out 0).trans rfl,(blk_cell BK5.out 1).trans rfl⟩ (fun hHeld=>?_)
    clear hK K
    refine zno (some 25) ?_
    refine zy 6 (some 26) HT_.out ?_
    refine last_ (i:=7) (N:=none) #[true,true,true,true,true,true,true,true] rfl rfl (one_of HT_.out (by kernel_rfl)) (by decide) (fun K hK=>?_)
    have hs17:w15.cell? ⟨gb5,0,none⟩=some (u20006000):=(blk_cell BK5.out 0).trans rfl
    have hfs17:=blk_frozen BK5.out 0
    have hns17_0:=NB1_5.out
    have hms17_0:=NB5_1.out
    refine skip_ (w1:=?_) (by rfl) rfl ?_ ?_
    rotate_left
    · go_simp
      rfl
    refine hK.out _ _ ?_
    clear hK K
    refine done_ (done_of HT_.out (by kernel_rfl)) ?_
    try go_wp2_with (first|((with_reducible refine gate_dst (N:=27) rfl ?_);refine Kd.R_lit (Kd.int .i64) _ 3 ?hg (N:=27) ?hd (xs:=([]:List Int)) (inner:=[]) (ok:=fun _=>True) (okp:=fun _=>True) ?hr ?hp (fun _ hk=>hk) trivial (Below.refl _ _) (Nat.le_refl _) (by simp) ?_;(case hd=>rfl);(case hg=>rfl);(case hr=>first|(go_simp;done)|(go_simp;rfl));(case hp=>exact (Reps.none _ _));intro v13 w18 ho19 hb hg_ hnew_;clear hg_ hnew_;(first|rw [← Ny12.out] at ho19|(simp only [Int.reduceToNat] at ho19;rw [← Ny12.out] at ho19));replace HO_20006001:=zk (Kd.S_elder' (by (with_reducible repeat (first|apply Kd.S_alloc|apply Kd.S_drewN|apply Kd.S_drew));exact (Kd.S_mono (zfS (Kd.S_types HO_20006001.out BK5.out (by decide))) (fun _ h_=>h_.1))) (Kd.R_base ho19) hb);replace HO11:=zk (Kd.R_below (by (with_reducible repeat (first|apply Kd.R_alloc|apply Kd.R_drewN|apply Kd.R_drew));exact (Kd.R_mono (zfR (Kd.R_types HO11.out BK5.out (by decide))) (fun _ h_=>h_.1))) hb);have HO14:=zk (Kd.R_lower ho19 (keep_size (w:=w) (g:=g) (row:=none) za21));replace BK1:=zk (blk_below (g:=gb1) (o:=.cells #[.slice none 0 0,.slice none 0 0] 27 (0,0)) (zpw BK1.out) hb);replace HB:=zk (below_step za26 hb);replace BK5:=zk (blk_below (g:=gb5) (o:=.cells #[.slice Ao16 y20009.length co16,u20006001] 27 (0,0)) (zpu BK5.out) hb);replace HI0:=zk (IsS73.below (show IsS73 w0 (w15.setCell ⟨gb5,0,none⟩ (.slice Ao16 y20009.length co16)) g s0_0 t7 t8 from za18) hb);replace HK:=yk HK hb;clear hb ho19))
    try simp only [Act.put,zt,zv,zu]
    go_loopg [8,9] k1 (fun kq v8 v9 w'=>∃ (x8_2:List Int) (x9_2:Int) (x1001_2:Int) (x1002_2:Int),v9 = .int .i64 x9_2∧Aside0 (spec_l5Draw.l1 kq (wrap64 (1+t2)) x7_1 x8_2 x9_2 s0_0 x1001_2 x1002_2 y20009 x20006001_1=some (r1,r2,r3,r4))∧Aside0 (kq≤k1)∧Aside0 (Kd.R (Kd.int .i64) 3 w' w.heap.size (fun _=>True) v8 x8_2)∧Aside0 (Kd.R Kd.bool 4 w' w.heap.size (fun _=>True) (.slice Ao16 y20009.length co16) y20009)∧Aside0 (Kd.S (Kd.slice 3 (Kd.int .i64)) 29 w' w.heap.size (fun k_=>some k_ ≠ (v8:Value).ownBlock) u20006001 x20006001_1)∧Aside0 (w'.heap[gb1]? = some (.cells #[(.slice none 0 0),(.slice none 0 0)] 27 (0,0)))∧Aside0 (w'.heap[gb5]? = some (.cells #[(.slice Ao16 y20009.length co16),u20006001] 27 (0,0)))∧Aside0 (IsS73 w0 w' g s0_0 x1001_2 x1002_2)∧Aside0 (KeepBut w w' g none)∧Aside0 (Below w0.heap.size w0 w'))
    case atStart=>exact ⟨(y20012),(0),(t7),(t8),za13,H',⟨Nat.le_refl _⟩,⟨za1 HO14.out⟩,⟨za1 HO11.out⟩,⟨za110⟩,⟨za0 BK1.out⟩,⟨za0 BK5.out⟩,⟨za18⟩,⟨za21⟩,⟨za26⟩⟩
    case round =>
     clear H'
     try clear hcz9_0
     try clear hcz9_1
     try clear hfz9_0
     try clear hfz9_1
     obtain ⟨x8_2,x9_2,x1001_2,x1002_2,rfl,HA,HK2,HO_8,HO_20006000,HO_20006001,BK1,BK5,HI0,HK,HB⟩:=hrel
     cases gk with
     | zero=>exact absurd HA.out (by simp [spec_l5Draw.l1])
     | succ k2 =>
      have H:=HA.out
      clear HA
      simp only [spec_l5Draw.l1] at H
      by_cases c20:x9_2 < 3
      rw [if_pos c20] at H
      have c20b0:=zdl c20
      clear c20
      obtain ⟨⟨t15,t16,t17⟩,A21,H⟩:=zO H
      try dsimp only at H
      by_cases c22:x8_2.length < 17592186044416
      rw [if_pos c22] at H
      have LMc22:=zk c22
      clear c22
      obtain ⟨y20018,hy20018⟩:∃ y_:List Int,y_=(x8_2 ++ [t15]):=⟨_,rfl⟩
      replace H:(spec_l5Draw.l1 k2 (wrap64 (1+t2)) x7_1 y20018 (wrap64 (x9_2+1)) s0_0 t16 t17 y20009 x20006001_1)=some (r1,r2,r3,r4):=by first|(rw [hy20018];with_reducible exact H)|(have H2_:=(Option.bind_some _ _).symm.trans H;rw [hy20018];with_reducible exact H2_)|(have H2_:=(Option.bind_some _ _).symm.trans H;with_reducible exact H2_)|with_reducible exact H|(rw [hy20018];exact H)|exact H
      have Ny18:=zk hy20018
      clear hy20018
      have H':=zk H
      clear H
      have fin0_:=zk trivial
      rotate_left
      · rw [if_neg c22] at H
        exact absurd H (by simp)
      rw [if_neg c20] at H
      have c20b0:=zdnl c20
      clear c20
      by_cases c25:x20006001_1.length < 5864062014805
      rw [if_pos c25] at H
      have LMc25:=zk c25
      clear c25
      obtain ⟨y20021,hy20021⟩:∃ y_:List (List Int),y_=(x20006001_1 ++ [x8_2]):=⟨_,rfl⟩
      replace H:(spec_l5Draw.l0 k2 (wrap64 (1+t2)) (wrap64 (x7_1+1)) s0_0 x1001_2 x1002_2 y20009 y20021)=some (r1,r2,r3,r4):=by first|(rw [hy20021];with_reducible exact H)|(have H2_:=(Option.bind_some _ _).symm.trans H;rw [hy20021];with_reducible exact H2_)|(have H2_:=(Option.bind_some _ _).symm.trans H;with_reducible exact H2_)|with_reducible exact H|(rw [hy20021];exact H)|exact H
      have Ny21:=zk hy20021
      clear hy20021
      have H':=zk H
      clear H
      have hnb26:=NB5_1.out
      have hnc26:=NB1_5.out
      have hnb27:=NB5_0.out
      have hnc27:=NB0_5.out
      obtain ⟨hcz28_0,hcz28_1,hfz28_0,hfz28_1⟩:=blk2 BK5.out
      obtain ⟨Ao30,co30,eo30⟩:=Kd.R_slice HO_8.out
      subst eo30
      have fin1_:=zk trivial
      rotate_left
      · rw [if_neg c25] at H
        exact absurd H (by simp)
      all_goals
       go_wp2_with (first|((with_reducible refine gate_callee (f:=39) rfl ?_);refine zg (some 35) Try.func39 #[.pointer (some ⟨g,0,none⟩),.int .i64 (wrap64 (1+t2))] rfl za4 ?_;(with_reducible refine (spec_l1Below.calls g s0_0 x1001_2 x1002_2 (wrap64 (1+t2)) t15 t16 t17 w0 _ za18 za26 A21.out).mono ?_);rintro e w23 ⟨rfl,hi,hb,hk⟩;refine ⟨_,rfl,?_⟩;replace HO_8:=zk (Kd.R_mono (Kd.R_keep (IsS73.apart (show IsS73 w0 _ g s0_0 x1001_2 x1002_2 from za18) (za1 HO_8.out) (by decide)) hk (fun _ h=>h.2)) (fun _ h=>h.1));replace HO_20006000:=zk (Kd.R_mono (Kd.R_keep (IsS73.apart (show IsS73 w0 _ g s0_0 x1001_2 x1002_2 from za18) (za1 HO_20006000.out) (by decide)) hk (fun _ h=>h.2)) (fun _ h=>h.1));replace HO_20006001:=zk (Kd.S_mono (Kd.S_keep (IsS73.apartS (show IsS73 w0 _ g s0_0 x1001_2 x1002_2 from za18) (za2 HO_20006001.out) (by decide)) hk (fun _ h=>h.2)) (fun _ h=>h.1));replace BK1:=yq hk BK1 NB1_0;replace BK5:=yq hk BK5 NB5_0;replace HK:=yK HK hk;replace HB:=zk hb;replace HI0:=zk hi;(try clear hb hk hi))|((with_reducible refine gate_builtin (b:=.append) (xs:=#[.tmp 32,.tmp 36]) rfl ?_);at_builtin;refine Kd.R_append (Kd.int .i64) w.heap.size rfl (.tmp 32) (.tmp 36) 29 3 (.int .i64 0) 8 rfl Try.underlying29 info3 rfl (by decide) (by omega) u8 x8_2 t15 [.int .i64 t15] (fun _=>True) (fun _=>False) rfl rfl ?aP (fun _ hk=>hk.elim) ?aF ?aO (Below.refl _ _) ?aS ?aL ?_;(case aP=>exact rfl);(case aF=>exact (fun _ _=>trivial));(case aO=>exact (za1 HO_8.out));(case aS=>exact (keep_size (w:=w) (g:=g) (row:=none) za21));(case aL=>have:=LMc22.out;omega);intro v19 w24 ho hb hg hat;rw [← Ny18.out] at ho;replace HO_20006000:=zk (Kd.R_over' (za1 HO_20006000.out) (Kd.R_typed (za1 HO_8.out)) (by decide) hg);replace HO_20006001:=zk (Kd.S_after (ok:=(fun _=>True)) (by (with_reducible repeat (first|apply Kd.S_alloc|apply Kd.S_drewN|apply Kd.S_drew));exact Kd.S_mono HO_20006001.out (fun _ hk=>⟨trivial,hk⟩)) hg hat);replace BK1:=zk (blk_grown (g:=gb1) (o:=.cells #[.slice none 0 0,.slice none 0 0] 27 (0,0)) (za0 BK1.out) hg (Kd.R_ne HO_8.out BK1.out (by decide)));replace BK5:=zk (blk_grown (g:=gb5) (o:=.cells #[.slice Ao16 y20009.length co16,u20006001] 27 (0,0)) (za0 BK5.out) hg (Kd.R_ne HO_8.out BK5.out (by decide)));replace HB:=zk (below_weaken za26 HL.out hb);replace HK:=zk (KeepBut.trans za21 (KeepBut.of_grown hg g) (Kd.R_base2 HO_8.out));have HO20:=zk ho;replace HI0:=zk (IsS73.grown za18 hg (IsS73.own_ne HI0.out HO_8.out (by decide)));clear HO_8;clear ho hb hg hat)|((with_reducible refine gate_builtin (b:=.append) (xs:=#[.tmp 39,.tmp 41]) rfl ?_);at_builtin;refine Kd.S_append (Kd.slice 3 (Kd.int .i64)) w.heap.size rfl (.tmp 39) (.tmp 41) 25 29 (.slice none 0 0) 24 rfl Try.underlying25 info29 rfl (by decide) (by omega) u20006001 x20006001_1 x8_2 [.slice Ao30 x8_2.length co30] (fun _=>True) (fun k_=>some k_=(.slice Ao30 x8_2.length co30:Value).ownBlock) rfl rfl ?aP (fun k_ hk_=>((Kd.R_mono (ok':=fun k_=>((fun _=>True)) k_∧some k_ ≠ (u20006001:Value).ownBlock) (Kd.R_apart' (HO_8.out) (Kd.S_typed HO_20006001.out) (by decide)) (fun k_ hk=>⟨trivial,hk.2⟩))).1 k_ hk_.symm) ?aF ?aO (Below.refl _ _) ?aS ?aL ?_;(case aP=>exact Kd.M_row (Kd.R_mono (Kd.R_tight rfl (Kd.R_mono (ok':=fun k_=>((fun _=>True)) k_∧some k_ ≠ (u20006001:Value).ownBlock) (Kd.R_apart' (HO_8.out) (Kd.S_typed HO_20006001.out) (by decide)) (fun k_ hk=>⟨trivial,hk.2⟩))) (fun _ h_=>h_)));(case aF=>exact (fun _ _=>trivial));(case aO=>exact (by (with_reducible repeat (first|apply Kd.S_alloc|apply Kd.S_drewN|apply Kd.S_drew));exact Kd.S_mono HO_20006001.out (fun k_ hk=>⟨trivial,fun e_=>hk e_⟩)));(case aS=>exact (keep_size (w:=w) (g:=g) (row:=none) za21));(case aL=>have:=LMc25.out;omega);intro v22 w29 ho hb hg hat;rw [← Ny21.out] at ho;replace HO_20006000:=zk (Kd.R_over' (za1 HO_20006000.out) (Kd.S_typed (za2 HO_20006001.out)) (by decide) hg);replace BK1:=zk (blk_grown (g:=gb1) (o:=.cells #[.slice none 0 0,.slice none 0 0] 27 (0,0)) (za0 BK1.out) hg (Kd.S_ne HO_20006001.out BK1.out (by decide)));replace BK5:=zk (blk_grown (g:=gb5) (o:=.cells #[.slice Ao16 y20009.length co16,u20006001] 27 (0,0)) (za0 BK5.out) hg (Kd.S_ne HO_20006001.out BK5.out (by decide)));replace HB:=zk (below_weaken za26 HL.out hb);replace HK:=zk (KeepBut.trans za21 (KeepBut.of_grown hg g) (Kd.S_base2 HO_20006001.out));have HO23:=zk ho;replace HI0:=zk (IsS73.grown za18 hg (IsS73.own_neS HI0.out HO_20006001.out (by decide)));clear HO_20006001;clear HO_8;clear ho hb hg hat;obtain ⟨Ao31,co31,eo31⟩:=Kd.S_slice HO23.out;subst eo31;obtain ⟨hcz32_0,hcz32_1,hfz32_0,hfz32_1⟩:=blk2 BK5.out))
       first
       | (
         clear fin0_
         go_roundg k2
         case measure=>have:=HK1.out;have:=HK2.out;omega
         case rel=>exact ⟨(y20018),(wrap64 (x9_2+1)),(t16),(t17),za13,H',⟨za59⟩,⟨za1 HO20.out⟩,⟨za1 HO_20006000.out⟩,⟨za110⟩,⟨za0 BK1.out⟩,⟨za0 BK5.out⟩,⟨za18⟩,⟨za21⟩,⟨za26⟩⟩)
       | (
         clear fin1_
         go_roundg k2
         case measure=>have:=HK1.out;have:=HK2.out;omega
         case rel=>exact ⟨(wrap64 (x7_1+1)),(x1001_2),(x1002_2),(y20009),(y20021),(.slice Ao16 y20009.length co16),(.slice Ao31 y20021.length co31),za13,H',⟨za59⟩,⟨by (with_reducible repeat (first|apply Kd.R_alloc|apply Kd.R_drewN|apply Kd.R_drew));exact Kd.R_mono (zfR (Kd.R_types HO_20006000.out BK5.out (by decide))) (fun _ hk=>trivial)⟩,⟨by (with_reducible repeat (first|apply Kd.S_alloc|apply Kd.S_drewN|apply Kd.S_drew));exact Kd.S_mono (zfS (Kd.S_types HO23.out BK5.out (by decide))) (fun _ hk=>trivial)⟩,⟨zpw BK1.out⟩,⟨zpu BK5.out⟩,⟨za18⟩,⟨za21⟩,⟨za26⟩⟩)
   ·rw [if_neg c12] at H
    exact absurd H (by simp)
   ·rw [if_neg c10] at H
    have c10b0:=zdnl c10
    have c10w:decide (x7_1 < (IntKind.i64.wrap (1+t2)))=false:=by simp only [i64_w];exact c10b0
    clear c10
    simp only [Option.some.injEq,Prod.mk.injEq] at H
    obtain ⟨rfl,rfl,rfl,rfl⟩:=H
    have hnb33:=NB5_1.out
    have hnc33:=NB1_5.out
    have hnb34:=NB5_0.out
    have hnc34:=NB0_5.out
    obtain ⟨hcz35_0,hcz35_1,hfz35_0,hfz35_1⟩:=blk2 BK5.out
    obtain ⟨Ao36,co36,eo36⟩:=Kd.R_slice HO_20006000.out
    subst eo36
    have hnb37:=NB1_0.out
    have hnc37:=NB0_1.out
    obtain ⟨hcz38_0,hcz38_1,hfz38_0,hfz38_1⟩:=blk2 BK1.out
    obtain ⟨Ao39,co39,eo39⟩:=Kd.S_slice HO_20006001.out
    subst eo39
    go_wp2
    refine bodyPost_ret (results_cell_row rfl _ _ gb1 27 #[.slice Ao36 x20006000_1.length co36,.slice Ao39 x20006001_1.length co39] (0,0) _ rfl (zpu BK1.out) Try.underlying27 rfl (by kernel_rfl)) rfl ?_
    exact ⟨_,_,za15,by (with_reducible repeat (first|apply Kd.R_alloc|apply Kd.R_drewN|apply Kd.R_drew));exact Kd.R_mono (zfR (zfR (Kd.R_types HO_20006000.out BK1.out (by decide)))) (fun _ hk=>trivial),by (with_reducible repeat (first|apply Kd.S_alloc|apply Kd.S_drewN|apply Kd.S_drew));exact Kd.S_mono (zfS (zfS (Kd.S_types HO_20006001.out BK1.out (by decide)))) (fun _ hk=>trivial),za18,za26,za21⟩
def spec_l5Bent.f (k:Nat) (s0_0:List Int) (s0_1:Int) (s0_2:Int):Option (List Bool × (List (List Int)) × Int × Int):=(spec_l5Draw.f k s0_0 s0_1 s0_2 5).bind fun bt19002=>((spec_l1Below.f s0_0 bt19002.2.2.1 bt19002.2.2.2 12).bind fun bt19011=>(if bt19011.1=0 then (if 0 < (bt19002.2.1.length:Int) then (if 0 < ((rd_L3 bt19002.2.1 0).length:Int) then (some (bt19002.1,(bt19002.2.1.set (0:Int).toNat ((rd_L3 bt19002.2.1 0).set (0:Int).toNat (bt19002.1.length:Int))),bt19011.2.1,bt19011.2.2)) else (none)) else (none)) else (if bt19011.1=1 then (if bt19002.1.length < 140737488355328 then (some ((bt19002.1 ++ [true]),bt19002.2.1,bt19011.2.1,bt19011.2.2)) else (none)) else (if bt19011.1=2 then (if 0 < (bt19002.2.1.length:Int) then (if (rd_L3 bt19002.2.1 0).length < 17592186044416 then (some (bt19002.1,(bt19002.2.1.set (0:Int).toNat ((rd_L3 bt19002.2.1 0) ++ [0])),bt19011.2.1,bt19011.2.2)) else (none)) else (none)) else (some (bt19002.1,bt19002.2.1,bt19011.2.1,bt19011.2.2))))))
def spec_l5Bent.T4:Bool × List (List Nat × List Nat):=(true,[([],[]),([0],[0]),([1],[1]),([2],[2]),([],[]),([4],[4]),([5],[5]),([3,0,1,2,3,4,5,6],[3]),([7,6,0,1,2,3,4,5,6],[6,7])])
def spec_l5Bent.B4:List Nat:=[0,1,3,7,0,16,48,127,255]
theorem spec_l5Bent.tab4:rtab .any (opsOf Try.f19 4)=spec_l5Bent.T4:=by kernel_rfl
theorem spec_l5Bent.bits4:waitsOk spec_l5Bent.T4.2 spec_l5Bent.B4=true:=by kernel_rfl
def spec_l5Bent.T8:Bool × List (List Nat × List Nat):=(true,[([],[]),([0],[0]),([],[]),([2],[2]),([3],[3]),([4],[4]),([],[]),([5,6],[5,6]),([1,0,1,2,3,4,5,6,7],[1]),([8,7,7,0,1,2,3,4,5,6,7],[7,8])])
def spec_l5Bent.B8:List Nat:=[0,1,0,4,12,28,0,124,255,511]
theorem spec_l5Bent.tab8:rtab .any (opsOf Try.f19 8)=spec_l5Bent.T8:=by kernel_rfl
theorem spec_l5Bent.bits8:waitsOk spec_l5Bent.T8.2 spec_l5Bent.B8=true:=by kernel_rfl
theorem spec_l5Bent.calls (k:Nat) (g:Nat) (s0_0:List Int) (s0_1:Int) (s0_2:Int) (r1:List Bool) (r2:List (List Int)) (r3:Int) (r4:Int) (w0 w:World) (hI:IsS73 w0 w g s0_0 s0_1 s0_2) (hB:Below w0.heap.size w0 w) (h:spec_l5Bent.f k s0_0 s0_1 s0_2=some (r1,r2,r3,r4)) :
  Calls Try.prog 19 #[.pointer (some ⟨g,0,none⟩)] w fun e w'=>∃ v0_ v1_:Value,e = .returned (.agg #[v0_,v1_])∧Kd.R Kd.bool 4 w' w.heap.size (fun _=>True) v0_ r1∧Kd.S (Kd.slice 3 (Kd.int .i64)) 29 w' w.heap.size (fun _=>True) v1_ r2∧IsS73 w0 w' g s0_0 r3 r4∧Below w0.heap.size w0 w'∧KeepBut w w' g none:=by
 have hu27:=Try.underlying27
 have HI0:=zk hI
 have HK:=zk (KeepBut.refl w g none)
 have HL:=zk hB.size
 clear hI
 have HW0:=zk hB.size
 have HB:=zk hB
 clear hB
 have H:=h
 unfold spec_l5Bent.f at H
 clear h
 obtain ⟨⟨t2,t5,t8,t9⟩,A2,H⟩:=zO H
 try dsimp only at H
 obtain ⟨⟨t11,t12,t13⟩,A3,H⟩:=zO H
 try dsimp only at H
 by_cases c4:t11=0
 rw [if_pos c4] at H
 have c4b0:=zbt c4
 have c4b1:=zqn c4
 clear c4
 by_cases c5:0 < (t5.length:Int)
 rw [if_pos c5] at H
 have c5b0:=zdl c5
 have c5b1:decide (0 < t5.length)=true:=decide_eq_true (by omega)
 clear c5
 by_cases c6:0 < ((rd_L3 t5 0).length:Int)
 ·rw [if_pos c6] at H
  have c6b0:=zdl c6
  have c6b1:decide (0 < (rd_L3 t5 0).length)=true:=decide_eq_true (by omega)
  clear c6
  obtain ⟨y19015,hy19015⟩:∃ y_:List Int,y_=((rd_L3 t5 0).set (0:Int).toNat (t2.length:Int)):=⟨_,rfl⟩
  replace H:(some (t2,(t5.set (0:Int).toNat y19015),t12,t13))=some (r1,r2,r3,r4):=by first|(rw [hy19015];with_reducible exact H)|(have H2_:=(Option.bind_some _ _).symm.trans H;rw [hy19015];with_reducible exact H2_)|(have H2_:=(Option.bind_some _ _).symm.trans H;with_reducible exact H2_)|with_reducible exact H|(rw [hy19015];exact H)|exact H
  have Ny15:=zk hy19015
  clear hy19015
  obtain ⟨y19017,hy19017⟩:∃ y_:List (List Int),y_=(t5.set (0:Int).toNat y19015):=⟨_,rfl⟩
  replace H:(some (t2,y19017,t12,t13))=some (r1,r2,r3,r4):=by first|(rw [hy19017];with_reducible exact H)|(have H2_:=(Option.bind_some _ _).symm.trans H;rw [hy19017];with_reducible exact H2_)|(have H2_:=(Option.bind_some _ _).symm.trans H;with_reducible exact H2_)|with_reducible exact H|(rw [hy19017];exact H)|exact H
  have Ny17:=zk hy19017
  clear hy19017
  simp only [Option.some.injEq,Prod.mk.injEq] at H
  obtain ⟨rfl,rfl,rfl,rfl⟩:=H
  go_enter Try.func19,Try.ntmps19
  try go_wp2_with (first|((with_reducible refine gate_dst (N:=2) rfl ?_);refine zE (cs:=#[.slice none 0 0,.slice none 0 0]) (t:=27) ?_;intro gb1 hg w8 hbox hb;replace HB:=zk (below_step za12 hb);have BK1:=zk hbox;have GW1:=zk ((by rw [hg];exact (keep_size (w:=w) (g:=g) (row:=none) za9):w.heap.size≤gb1));have GE1:=zk ((Nat.le_trans HW0.out (by rw [hg];exact (keep_size (w:=w) (g:=g) (row:=none) za9):w.heap.size≤gb1):w0.heap.size≤gb1));have NB0_1:=zk (zm hg (IsS73.lt (show IsS73 w0 _ g s0_0 s0_1 s0_2 from za6)));have NB1_0:=zk (zM hg (IsS73.lt (show IsS73 w0 _ g s0_0 s0_1 s0_2 from za6)));replace HI0:=zk (IsS73.below za6 hb);replace HK:=yk HK hb;clear hb hbox hg)|((with_reducible refine gate_callee (f:=20) rfl ?_);refine zg (some 5) Try.func20 #[.pointer (some ⟨g,0,none⟩),.int .i64 5] rfl za4 ?_;(with_reducible refine (spec_l5Draw.calls k g s0_0 s0_1 s0_2 5 t2 t5 t8 t9 w0 _ za8 za17 A2.out).mono ?_);rintro e w9 ⟨v3,v6,rfl,ho0,ho1,hi,hb,hk⟩;refine ⟨_,rfl,?_⟩;replace BK1:=yq hk BK1 NB1_0;have HO4:=zk (Kd.R_lower ho0 (keep_size (w:=w) (g:=g) (row:=none) za5));have HO7:=zk (Kd.S_lower ho1 (keep_size (w:=w) (g:=g) (row:=none) za5));replace HB:=zk hb;replace HI0:=zk hi;replace HK:=yK HK hk;(try clear hb hk hi ho0 ho1))|((with_reducible refine gate_dst (N:=3) rfl ?_);refine zE (cs:=#[.slice none 0 0,.slice none 0 0]) (t:=27) ?_;intro gb10 hg w10 hbox hb;replace HO4:=zk (Kd.R_below (za1 HO4.out) hb);replace HO7:=zk (Kd.S_below (za2 HO7.out) hb);replace HB:=zk (below_step za17 hb);have BK10:=zk hbox;have GW10:=zk ((by rw [hg];exact (keep_size (w:=w) (g:=g) (row:=none) za5):w.heap.size≤gb10));have GE10:=zk ((Nat.le_trans HW0.out (by rw [hg];exact (keep_size (w:=w) (g:=g) (row:=none) za5):w.heap.size≤gb10):w0.heap.size≤gb10));have NB1_10:=yn hg BK1;have NB10_1:=yp hg BK1;have NB0_10:=zk (zm hg (IsS73.lt (show IsS73 w0 _ g s0_0 t8 t9 from za8)));have NB10_0:=zk (zM hg (IsS73.lt (show IsS73 w0 _ g s0_0 t8 t9 from za8)));replace HI0:=zk (IsS73.below za8 hb);replace BK1:=yb BK1 hb;replace HK:=yk HK hb;clear hb hbox hg;obtain ⟨Ao11,co11,eo11⟩:=Kd.R_slice HO4.out;subst eo11;have hnb12:=NB10_1.out;have hnc12:=NB1_10.out;have hnb13:=NB10_0.out;have hnc13:=NB0_10.out;obtain ⟨hcz14_0,hcz14_1,hfz14_0,hfz14_1⟩:=blk2 BK10.out;obtain ⟨Ao15,co15,eo15⟩:=Kd.S_slice HO7.out;subst eo15)|((with_reducible refine gate_callee (f:=39) rfl ?_);refine zg (some 7) Try.func39 #[.pointer (some ⟨g,0,none⟩),.int .i64 12] rfl za4 ?_;(with_reducible refine (spec_l1Below.calls g s0_0 t8 t9 12 t11 t12 t13 w0 _ za16 za30 A3.out).mono ?_);rintro e w16 ⟨rfl,hi,hb,hk⟩;refine ⟨_,rfl,?_⟩;replace BK1:=zk (KeepBut.blk hk (g':=gb1) (o:=.cells #[.slice none 0 0,.slice none 0 0] 27 (0,0)) (zpw BK1.out) NB1_0.out (by simp));replace HO4:=zk (Kd.R_mono (Kd.R_keep (IsS73.apart (show IsS73 w0 _ g s0_0 t8 t9 from za16) za51 (by decide)) hk (fun _ h=>h.2)) (fun _ h=>h.1));replace HO7:=zk (Kd.S_mono (Kd.S_keep (IsS73.apartS (show IsS73 w0 _ g s0_0 t8 t9 from za16) za50 (by decide)) hk (fun _ h=>h.2)) (fun _ h=>h.1));replace HK:=yK HK hk;replace HB:=zk hb;replace BK10:=zk (KeepBut.blk hk (g':=gb10) (o:=.cells #[.slice Ao11 t2.length co11,.slice Ao15 t5.length co15] 27 (0,0)) (zpu BK10.out) NB10_0.out (by simp));replace HI0:=zk hi;(try clear hb hk hi)))
  replace HO4:=zk (Kd.R_drew HO4.out)
  replace HO7:=zk (Kd.S_drew HO7.out)
  replace BK1:=zk (blk_drew BK1.out)
  replace BK10:=zk (blk_drew BK10.out)
  replace HI0:=zk (IsS73.drew HI0.out)
  replace HK:=zk (keep_drew HK.out)
  replace HB:=zk (below_drew1 HB.out)
  have p19014:0≤(0:Int):=(by omega)
  have q19014:0 < (t5.length:Int):=of_decide_eq_true za7
  obtain ⟨ad19014,A19014_0,c19014_0,e19014,hx19014_0,hl19014_0,hi19014_0⟩:=at_L3 (Kd.S_reads' HO7.out).2.2 0 p19014 q19014
  cases e19014
  obtain ⟨ce19014,hce19014,hMe19014,hcc19014⟩:=Kd.S_get HO7.out [] 0 p19014 (by first|exact q19014|exact of_decide_eq_true za7|(have e_:=(Kd.S_reads' HO7.out).1;omega))
  obtain ⟨ve19014_0,rfl,ge19014_0⟩:=hMe19014
  have hv19014_0:=hcc19014 0 _ rfl
  rw [Nat.add_zero,show ((Kd.slice 3 (Kd.int .i64))).sz=1 from rfl,Nat.mul_one] at hv19014_0
  replace hv19014_0:=zi (hv19014_0.symm.trans hx19014_0)
  rw [hv19014_0] at ge19014_0
  have HL19014_0:=zk (show Kd.R (Kd.int .i64) 3 _ _ _ _ (rd_L3 t5 0) from ge19014_0)
  clear hv19014_0 ge19014_0
  have HX19014_0:=zk hx19014_0
  clear hcc19014 hce19014
  have qi19014:(0 < t5.length)=True:=eq_true (by omega)
  (try rw [show ((0:Int)).toNat=0 from rfl] at hx19014_0)
  (try rw [Addr.add_zero'] at hx19014_0)
  have HR19014_0:=zk hi19014_0
  have HC19014_0:=zk hl19014_0
  clear hi19014_0 hl19014_0
  replace p19014:=eq_true p19014
  replace q19014:=eq_true q19014
  have p7:0≤(0:Int):=(by omega)
  have q7:(0:Int) < (((rd_L3 t5 0).length:Int):Int):=of_decide_eq_true za7
  have qi7:(0 < (rd_L3 t5 0).length)=True:=eq_true (by omega)
  obtain ⟨go7,co7,eo7,gb7,gl7,cl7,HG7⟩:=Kd.R_form HL19014_0.out (by omega)
  (first|cases eo7|(injection eo7 with ea_ en_ ec_;(first|subst ea_|(injection ea_ with ea_;subst ea_));subst ec_;clear en_))
  have GB7:=zk gb7
  have GG7:=zk HG7
  clear gb7 gl7 HG7
  obtain ⟨hx7_0,hf7_0⟩:=Kd.R_celln 0 HL19014_0.out (0:Int) p7 q7
  (try rw [show ((0:Int)).toNat=0 from rfl] at hx7_0)
  (try simp only [Nat.reduceMul,Nat.zero_mul,Nat.zero_add,Nat.reduceAdd] at hx7_0)
  (try rw [show ((0:Int)).toNat=0 from rfl] at hf7_0)
  (try simp only [Nat.reduceMul,Nat.zero_mul,Nat.zero_add,Nat.reduceAdd] at hf7_0)
  replace p7:=eq_true p7
  replace q7:=eq_true q7
  have hq18:(0:Int) < (t5.length:Int):=(by have h_:(0:Int) < ((t5.length:Int):Int):=of_decide_eq_true za7;first|exact h_|(have e_:=(Kd.S_reads' HO7.out).1;omega)|simpa only [List.length_set,List.length_set] using h_)
  obtain ⟨oki18,ce18,hcl18,hM18,hcc18,hok18,hbk18⟩:=Kd.S_borrow HO7.out [] (0:Int) (by omega) hq18
  obtain ⟨ve18_0,rfl,ge18_0⟩:=hM18
  have hv18:=hcc18 0 _ rfl
  rw [Nat.add_zero,show ((Kd.slice 3 (Kd.int .i64))).sz=1 from rfl,Nat.mul_one] at hv18
  replace hv18:=zi (hv18.symm.trans HX19014_0.out)
  subst hv18
  clear hcc18 hcl18
  replace ge18_0:=(show Kd.R (Kd.int .i64) 3 _ _ _ _ (rd_L3 t5 0) from ge18_0)
  have HP18:=Kd.R_putg ge18_0 (0:Int) (t2.length:Int)
  have HN0_go7:=zk (show g ≠ go7 from by have h_:=IsS73.own_ne HI0.out HL19014_0.out (by decide);intro e_;exact h_ (by rw [e_];rfl))
  rw [← Ny15.out] at HP18
  have HS18:=hbk18 HP18.2 (fun k_ e_=>by injection e_ with e_;subst e_;exact ge18_0.1 _ rfl) (x':=y19015) (Kd.M_row HP18.1)
  rw [← Ny17.out] at HS18
  have HQ18:=zk HS18
  clear HP18 HS18 hbk18 hok18
  refine start_ (n:=9) (S:=fun w'=>w'.cell? ⟨gb10,0,none⟩=some (.slice Ao11 t2.length co11)∧w'.cell? ⟨gb10,1,none⟩=some (.slice (some ad19014) t5.length co15)∧w'.cell? ad19014=some (.slice (some ⟨go7,0,none⟩) (rd_L3 t5 0).length c19014_0)) (ds:=[8]) #[false,false,false,false,false,false,false,false,false] (by kernel_rfl) rfl rfl ⟨(blk_cell BK10.out 0).trans rfl,(blk_cell BK10.out 1).trans rfl,hx19014_0⟩ (fun hHeld=>?_);refine with_tabW spec_l5Bent.tab4 spec_l5Bent.bits4 (fun HT_ HW_=>?_)
  generalize w16.drew=w17 at HO4 HO7 BK1 BK10 HI0 HK HB GG7 HL19014_0 HQ18 HR19014_0 HX19014_0 hf7_0 hx19014_0 hx7_0 hHeld ⊢
  refine zy 0 (some 10) HT_.out ?_
  refine zy 4 (some 14) HT_.out ?_
  refine ztk 1 (some 11) HT_.out HW_.out hHeld ?_
  refine zy 2 (some 12) HT_.out ?_
  refine ztk 3 (some 13) HT_.out HW_.out hHeld ?_
  refine ztk 5 (some 15) HT_.out HW_.out hHeld ?_
  refine zy 6 (some 16) HT_.out ?_
  refine zy 7 (some 17) HT_.out ?_
  refine last_ (i:=8) (N:=none) #[true,true,true,true,true,true,true,true,true] rfl rfl (one_of HT_.out (by kernel_rfl)) (by decide) (fun K hK=>?_)
  refine skip_ (w1:=?_) (by rfl) rfl ?_ ?_
  rotate_left
  ·go_simp
   rfl
  refine hK.out _ _ ?_
  clear hK K
  refine done_ (done_of HT_.out (by kernel_rfl)) ?_
  have n0_:Aside0 (Kd.R Kd.bool 4 (w17.setCell ⟨go7,0,none⟩ (.int .i64 (t2.length:Int))) w.heap.size (fun _=>True) (.slice Ao11 t2.length co11) t2):=⟨by (with_reducible repeat (first|apply Kd.R_alloc|apply Kd.R_drewN|apply Kd.R_drew));exact Kd.R_mono (zfR (Kd.R_types HO4.out GG7.out (by decide))) (fun _ hk=>trivial)⟩
  have n1_:Aside0 (Kd.S (Kd.slice 3 (Kd.int .i64)) 29 (w17.setCell ⟨go7,0,none⟩ (.int .i64 (t2.length:Int))) w.heap.size (fun _=>True) (.slice (some ad19014) t5.length co15) y19017):=⟨za2 HQ18.out⟩
  have n2_:Aside0 ((w17.setCell ⟨go7,0,none⟩ (.int .i64 (t2.length:Int))).heap[gb1]? = some (.cells #[.slice none 0 0,.slice none 0 0] 27 (0,0))):=⟨by (with_reducible repeat (first|refine blk_drewN ?_ _|refine blk_drew ?_|refine blk_alloc ?_ _));refine blk_far ?_ (by have h_:=Kd.R_ne HL19014_0.out BK1.out (by decide);intro e_;exact h_ (by rw [e_];rfl)) _;(with_reducible repeat (first|refine blk_drewN ?_ _|refine blk_drew ?_|refine blk_alloc ?_ _));exact BK1.out⟩
  have n3_:Aside0 ((w17.setCell ⟨go7,0,none⟩ (.int .i64 (t2.length:Int))).heap[gb10]? = some (.cells #[.slice Ao11 t2.length co11,.slice (some ad19014) t5.length co15] 27 (0,0))):=⟨by (with_reducible repeat (first|refine blk_drewN ?_ _|refine blk_drew ?_|refine blk_alloc ?_ _));refine blk_far ?_ (by have h_:=Kd.R_ne HL19014_0.out BK10.out (by decide);intro e_;exact h_ (by rw [e_];rfl)) _;(with_reducible repeat (first|refine blk_drewN ?_ _|refine blk_drew ?_|refine blk_alloc ?_ _));exact BK10.out⟩
  have n4_:Aside0 (IsS73 w0 (w17.setCell ⟨go7,0,none⟩ (.int .i64 (t2.length:Int))) g s0_0 t12 t13):=⟨by repeat (first|(with_reducible first|exact HI0.out|apply IsS73.alloc|apply IsS73.drewN|apply IsS73.drew|apply IsS73.set_1|apply IsS73.set_2|refine IsS73.far ?_ HN0_go7.out _|refine IsS73.far ?_ NB0_1.out _|refine IsS73.far ?_ NB0_10.out _)|exact HI0.out)⟩
  have n5_:Aside0 (KeepBut w (w17.setCell ⟨go7,0,none⟩ (.int .i64 (t2.length:Int))) g none):=⟨by repeat (first|(with_reducible first|exact HK.out|apply KeepBut.set_|apply keep_drewN|apply keep_drew|apply keep_alloc|refine keep_far ?_ GB7.out _|refine keep_far ?_ GW1.out _|refine keep_far ?_ GW10.out _)|exact HK.out)⟩
  have n6_:Aside0 (Below w0.heap.size w0 (w17.setCell ⟨go7,0,none⟩ (.int .i64 (t2.length:Int)))):=⟨by repeat (first|(with_reducible first|exact HB.out|apply below_alloc|apply pw_below_drewN|apply below_drew1|refine below_set ?_ (Nat.le_trans HL.out GB7.out)|refine below_set ?_ (IsS73.ge HI0.out)|refine below_set ?_ GE1.out|refine below_set ?_ GE10.out)|exact HB.out)⟩
  (try clear HO4)
  (try clear HO7)
  (try clear BK1)
  (try clear BK10)
  (try clear HI0)
  (try clear HK)
  (try clear HB)
  generalize (w17.setCell ⟨go7,0,none⟩ (.int .i64 (t2.length:Int)))=w20 at n0_ n1_ n2_ n3_ n4_ n5_ n6_ ⊢
  have HO4:=n0_
  have HO7:=n1_
  have BK1:=n2_
  have BK10:=n3_
  have HI0:=n4_
  have HK:=n5_
  have HB:=n6_
  clear n0_ n1_ n2_ n3_ n4_ n5_ n6_
  obtain ⟨hcz21_0,hcz21_1,hfz21_0,hfz21_1⟩:=blk2 BK10.out
  have hnb22:=NB1_0.out
  have hnc22:=NB0_1.out
  obtain ⟨hcz23_0,hcz23_1,hfz23_0,hfz23_1⟩:=blk2 BK1.out
  try go_wp2
  refine bodyPost_ret (results_cell_row rfl _ _ gb1 27 #[.slice Ao11 t2.length co11,.slice (some ad19014) t5.length co15] (0,0) _ rfl (zpu BK1.out) Try.underlying27 rfl (by kernel_rfl)) rfl ?_
  exact ⟨_,_,za15,za57,za56,za16,za30,za27⟩
 ·rw [if_neg c6] at H
  exact absurd H (by simp)
 ·rw [if_neg c5] at H
  exact absurd H (by simp)
 rw [if_neg c4] at H
 have c4b0:=zbn c4
 have c4b1:=zqt c4
 by_cases c24:t11=1
 rw [if_pos c24] at H
 have c24b0:=zbt c24
 have c24b1:=zqn c24
 clear c24
 by_cases c25:t2.length < 140737488355328
 ·rw [if_pos c25] at H
  have LMc25:=zk c25
  clear c25
  obtain ⟨y19018,hy19018⟩:∃ y_:List Bool,y_=(t2 ++ [true]):=⟨_,rfl⟩
  replace H:(some (y19018,t5,t12,t13))=some (r1,r2,r3,r4):=by first|(rw [hy19018];with_reducible exact H)|(have H2_:=(Option.bind_some _ _).symm.trans H;rw [hy19018];with_reducible exact H2_)|(have H2_:=(Option.bind_some _ _).symm.trans H;with_reducible exact H2_)|with_reducible exact H|(rw [hy19018];exact H)|exact H
  have Ny18:=zk hy19018
  clear hy19018
  simp only [Option.some.injEq,Prod.mk.injEq] at H
  obtain ⟨rfl,rfl,rfl,rfl⟩:=H
  go_enter Try.func19,Try.ntmps19
  go_wp2_with (first|((with_reducible refine gate_dst (N:=2) rfl ?_);refine zE (cs:=#[.slice none 0 0,.slice none 0 0]) (t:=27) ?_;intro gb1 hg w26 hbox hb;replace HB:=zk (below_step za12 hb);have BK1:=zk hbox;have GW1:=zk ((by rw [hg];exact (keep_size (w:=w) (g:=g) (row:=none) za9):w.heap.size≤gb1));have GE1:=zk ((Nat.le_trans HW0.out (by rw [hg];exact (keep_size (w:=w) (g:=g) (row:=none) za9):w.heap.size≤gb1):w0.heap.size≤gb1));have NB0_1:=zk (zm hg (IsS73.lt (show IsS73 w0 _ g s0_0 s0_1 s0_2 from za6)));have NB1_0:=zk (zM hg (IsS73.lt (show IsS73 w0 _ g s0_0 s0_1 s0_2 from za6)));replace HI0:=zk (IsS73.below za6 hb);replace HK:=yk HK hb;clear hb hbox hg)|((with_reducible refine gate_callee (f:=20) rfl ?_);refine zg (some 5) Try.func20 #[.pointer (some ⟨g,0,none⟩),.int .i64 5] rfl za4 ?_;(with_reducible refine (spec_l5Draw.calls k g s0_0 s0_1 s0_2 5 t2 t5 t8 t9 w0 _ za8 za17 A2.out).mono ?_);rintro e w27 ⟨v3,v6,rfl,ho0,ho1,hi,hb,hk⟩;refine ⟨_,rfl,?_⟩;replace BK1:=yq hk BK1 NB1_0;have HO4:=zk (Kd.R_lower ho0 (keep_size (w:=w) (g:=g) (row:=none) za5));have HO7:=zk (Kd.S_lower ho1 (keep_size (w:=w) (g:=g) (row:=none) za5));replace HB:=zk hb;replace HI0:=zk hi;replace HK:=yK HK hk;(try clear hb hk hi ho0 ho1))|((with_reducible refine gate_dst (N:=3) rfl ?_);refine zE (cs:=#[.slice none 0 0,.slice none 0 0]) (t:=27) ?_;intro gb10 hg w28 hbox hb;replace HO4:=zk (Kd.R_below (za1 HO4.out) hb);replace HO7:=zk (Kd.S_below (za2 HO7.out) hb);replace HB:=zk (below_step za17 hb);have BK10:=zk hbox;have GW10:=zk ((by rw [hg];exact (keep_size (w:=w) (g:=g) (row:=none) za5):w.heap.size≤gb10));have GE10:=zk ((Nat.le_trans HW0.out (by rw [hg];exact (keep_size (w:=w) (g:=g) (row:=none) za5):w.heap.size≤gb10):w0.heap.size≤gb10));have NB1_10:=yn hg BK1;have NB10_1:=yp hg BK1;have NB0_10:=zk (zm hg (IsS73.lt (show IsS73 w0 _ g s0_0 t8 t9 from za8)));have NB10_0:=zk (zM hg (IsS73.lt (show IsS73 w0 _ g s0_0 t8 t9 from za8)));replace HI0:=zk (IsS73.below za8 hb);replace BK1:=yb BK1 hb;replace HK:=yk HK hb;clear hb hbox hg;obtain ⟨Ao29,co29,eo29⟩:=Kd.R_slice HO4.out;subst eo29;have hnb30:=NB10_1.out;have hnc30:=NB1_10.out;have hnb31:=NB10_0.out;have hnc31:=NB0_10.out;obtain ⟨hcz32_0,hcz32_1,hfz32_0,hfz32_1⟩:=blk2 BK10.out;obtain ⟨Ao33,co33,eo33⟩:=Kd.S_slice HO7.out;subst eo33)|((with_reducible refine gate_callee (f:=39) rfl ?_);refine zg (some 7) Try.func39 #[.pointer (some ⟨g,0,none⟩),.int .i64 12] rfl za4 ?_;(with_reducible refine (spec_l1Below.calls g s0_0 t8 t9 12 t11 t12 t13 w0 _ za16 za30 A3.out).mono ?_);rintro e w34 ⟨rfl,hi,hb,hk⟩;refine ⟨_,rfl,?_⟩;replace BK1:=zk (KeepBut.blk hk (g':=gb1) (o:=.cells #[.slice none 0 0,.slice none 0 0] 27 (0,0)) (zpw BK1.out) NB1_0.out (by simp));replace HO4:=zk (Kd.R_mono (Kd.R_keep (IsS73.apart (show IsS73 w0 _ g s0_0 t8 t9 from za16) za51 (by decide)) hk (fun _ h=>h.2)) (fun _ h=>h.1));replace HO7:=zk (Kd.S_mono (Kd.S_keep (IsS73.apartS (show IsS73 w0 _ g s0_0 t8 t9 from za16) za50 (by decide)) hk (fun _ h=>h.2)) (fun _ h=>h.1));replace HK:=yK HK hk;replace HB:=zk hb;replace BK10:=zk (KeepBut.blk hk (g':=gb10) (o:=.cells #[.slice Ao29 t2.length co29,.slice Ao33 t5.length co33] 27 (0,0)) (zpu BK10.out) NB10_0.out (by simp));replace HI0:=zk hi;(try clear hb hk hi);obtain ⟨hcz35_0,hcz35_1,hfz35_0,hfz35_1⟩:=blk2 BK10.out)|((with_reducible refine gate_builtin (b:=.append) (xs:=#[.tmp 21,.tmp 22]) rfl ?_);at_builtin;refine Kd.R_append Kd.bool w.heap.size rfl (.tmp 21) (.tmp 22) 24 4 (.bool false) 1 rfl Try.underlying24 info4 rfl (by decide) (by omega) (.slice Ao29 t2.length co29) t2 true [.bool true] (fun _=>True) (fun _=>False) rfl rfl ?aP (fun _ hk=>hk.elim) ?aF ?aO (Below.refl _ _) ?aS ?aL ?_;(case aP=>exact rfl);(case aF=>exact (fun _ _=>trivial));(case aO=>exact (za1 HO4.out));(case aS=>exact (keep_size (w:=w) (g:=g) (row:=none) za27));(case aL=>have:=LMc25.out;omega);intro v19 w36 ho hb hg hat;rw [← Ny18.out] at ho;replace BK1:=zk (blk_grown (g:=gb1) (o:=.cells #[.slice none 0 0,.slice none 0 0] 27 (0,0)) (za0 BK1.out) hg (Kd.R_ne HO4.out BK1.out (by decide)));replace HO7:=zk (Kd.S_over' (za2 HO7.out) (Kd.R_typed (za1 HO4.out)) (by decide) hg);replace BK10:=zk (blk_grown (g:=gb10) (o:=.cells #[.slice Ao29 t2.length co29,.slice Ao33 t5.length co33] 27 (0,0)) (za0 BK10.out) hg (Kd.R_ne HO4.out BK10.out (by decide)));replace HB:=zk (below_weaken za30 HL.out hb);replace HK:=zk (KeepBut.trans za27 (KeepBut.of_grown hg g) (Kd.R_base2 HO4.out));have HO20:=zk ho;replace HI0:=zk (IsS73.grown za16 hg (IsS73.own_ne HI0.out HO4.out (by decide)));clear HO4;clear ho hb hg hat;obtain ⟨Ao37,co37,eo37⟩:=Kd.R_slice HO20.out;subst eo37;obtain ⟨hcz38_0,hcz38_1,hfz38_0,hfz38_1⟩:=blk2 BK10.out;have hnb39:=NB1_0.out;have hnc39:=NB0_1.out;obtain ⟨hcz40_0,hcz40_1,hfz40_0,hfz40_1⟩:=blk2 BK1.out))
  refine bodyPost_ret (results_cell_row rfl _ _ gb1 27 #[.slice Ao37 y19018.length co37,.slice Ao33 t5.length co33] (0,0) _ rfl (zpw BK1.out) Try.underlying27 rfl (by kernel_rfl)) rfl ?_
  exact ⟨_,_,za15,by (with_reducible repeat (first|apply Kd.R_alloc|apply Kd.R_drewN|apply Kd.R_drew));exact Kd.R_mono (zfR (zfR (Kd.R_far (p:=⟨gb10,0,none⟩) (Kd.R_types (Kd.R_types HO20.out BK10.out (by decide)) BK1.out (by decide)) (fun _ hk=>hk.1.2) (.slice Ao37 y19018.length co37)))) (fun _ hk=>trivial),by (with_reducible repeat (first|apply Kd.S_alloc|apply Kd.S_drewN|apply Kd.S_drew));exact Kd.S_mono (zfS (zfS (Kd.S_far (p:=⟨gb10,0,none⟩) (Kd.S_types (Kd.S_types HO7.out BK10.out (by decide)) BK1.out (by decide)) (fun _ hk=>hk.1.2) (.slice Ao37 y19018.length co37)))) (fun _ hk=>trivial),za16,za30,za27⟩
 ·rw [if_neg c25] at H
  exact absurd H (by simp)
 rw [if_neg c24] at H
 have c24b0:=zbn c24
 have c24b1:=zqt c24
 by_cases c41:t11=2
 rw [if_pos c41] at H
 have c41b0:=zbt c41
 have c41b1:=zqn c41
 clear c41
 by_cases c42:0 < (t5.length:Int)
 rw [if_pos c42] at H
 have c42b0:=zdl c42
 have c42b1:decide (0 < t5.length)=true:=decide_eq_true (by omega)
 clear c42
 by_cases c43:(rd_L3 t5 0).length < 17592186044416
 ·rw [if_pos c43] at H
  have LMc43:=zk c43
  clear c43
  obtain ⟨y19022,hy19022⟩:∃ y_:List Int,y_=((rd_L3 t5 0) ++ [0]):=⟨_,rfl⟩
  replace H:(some (t2,(t5.set (0:Int).toNat y19022),t12,t13))=some (r1,r2,r3,r4):=by first|(rw [hy19022];with_reducible exact H)|(have H2_:=(Option.bind_some _ _).symm.trans H;rw [hy19022];with_reducible exact H2_)|(have H2_:=(Option.bind_some _ _).symm.trans H;with_reducible exact H2_)|with_reducible exact H|(rw [hy19022];exact H)|exact H
  have Ny22:=zk hy19022
  clear hy19022
  obtain ⟨y19025,hy19025⟩:∃ y_:List (List Int),y_=(t5.set (0:Int).toNat y19022):=⟨_,rfl⟩
  replace H:(some (t2,y19025,t12,t13))=some (r1,r2,r3,r4):=by first|(rw [hy19025];with_reducible exact H)|(have H2_:=(Option.bind_some _ _).symm.trans H;rw [hy19025];with_reducible exact H2_)|(have H2_:=(Option.bind_some _ _).symm.trans H;with_reducible exact H2_)|with_reducible exact H|(rw [hy19025];exact H)|exact H
  have Ny25:=zk hy19025
  clear hy19025
  simp only [Option.some.injEq,Prod.mk.injEq] at H
  obtain ⟨rfl,rfl,rfl,rfl⟩:=H
  go_enter Try.func19,Try.ntmps19
  try go_wp2_with (first|((with_reducible refine gate_dst (N:=2) rfl ?_);refine zE (cs:=#[.slice none 0 0,.slice none 0 0]) (t:=27) ?_;intro gb1 hg w45 hbox hb;replace HB:=zk (below_step za12 hb);have BK1:=zk hbox;have GW1:=zk ((by rw [hg];exact (keep_size (w:=w) (g:=g) (row:=none) za9):w.heap.size≤gb1));have GE1:=zk ((Nat.le_trans HW0.out (by rw [hg];exact (keep_size (w:=w) (g:=g) (row:=none) za9):w.heap.size≤gb1):w0.heap.size≤gb1));have NB0_1:=zk (zm hg (IsS73.lt (show IsS73 w0 _ g s0_0 s0_1 s0_2 from za6)));have NB1_0:=zk (zM hg (IsS73.lt (show IsS73 w0 _ g s0_0 s0_1 s0_2 from za6)));replace HI0:=zk (IsS73.below za6 hb);replace HK:=yk HK hb;clear hb hbox hg)|((with_reducible refine gate_callee (f:=20) rfl ?_);refine zg (some 5) Try.func20 #[.pointer (some ⟨g,0,none⟩),.int .i64 5] rfl za4 ?_;(with_reducible refine (spec_l5Draw.calls k g s0_0 s0_1 s0_2 5 t2 t5 t8 t9 w0 _ za8 za17 A2.out).mono ?_);rintro e w46 ⟨v3,v6,rfl,ho0,ho1,hi,hb,hk⟩;refine ⟨_,rfl,?_⟩;replace BK1:=yq hk BK1 NB1_0;have HO4:=zk (Kd.R_lower ho0 (keep_size (w:=w) (g:=g) (row:=none) za5));have HO7:=zk (Kd.S_lower ho1 (keep_size (w:=w) (g:=g) (row:=none) za5));replace HB:=zk hb;replace HI0:=zk hi;replace HK:=yK HK hk;(try clear hb hk hi ho0 ho1))|((with_reducible refine gate_dst (N:=3) rfl ?_);refine zE (cs:=#[.slice none 0 0,.slice none 0 0]) (t:=27) ?_;intro gb10 hg w47 hbox hb;replace HO4:=zk (Kd.R_below (za1 HO4.out) hb);replace HO7:=zk (Kd.S_below (za2 HO7.out) hb);replace HB:=zk (below_step za17 hb);have BK10:=zk hbox;have GW10:=zk ((by rw [hg];exact (keep_size (w:=w) (g:=g) (row:=none) za5):w.heap.size≤gb10));have GE10:=zk ((Nat.le_trans HW0.out (by rw [hg];exact (keep_size (w:=w) (g:=g) (row:=none) za5):w.heap.size≤gb10):w0.heap.size≤gb10));have NB1_10:=yn hg BK1;have NB10_1:=yp hg BK1;have NB0_10:=zk (zm hg (IsS73.lt (show IsS73 w0 _ g s0_0 t8 t9 from za8)));have NB10_0:=zk (zM hg (IsS73.lt (show IsS73 w0 _ g s0_0 t8 t9 from za8)));replace HI0:=zk (IsS73.below za8 hb);replace BK1:=yb BK1 hb;replace HK:=yk HK hb;clear hb hbox hg;obtain ⟨Ao48,co48,eo48⟩:=Kd.R_slice HO4.out;subst eo48;have hnb49:=NB10_1.out;have hnc49:=NB1_10.out;have hnb50:=NB10_0.out;have hnc50:=NB0_10.out;obtain ⟨hcz51_0,hcz51_1,hfz51_0,hfz51_1⟩:=blk2 BK10.out;obtain ⟨Ao52,co52,eo52⟩:=Kd.S_slice HO7.out;subst eo52)|((with_reducible refine gate_callee (f:=39) rfl ?_);refine zg (some 7) Try.func39 #[.pointer (some ⟨g,0,none⟩),.int .i64 12] rfl za4 ?_;(with_reducible refine (spec_l1Below.calls g s0_0 t8 t9 12 t11 t12 t13 w0 _ za16 za30 A3.out).mono ?_);rintro e w53 ⟨rfl,hi,hb,hk⟩;refine ⟨_,rfl,?_⟩;replace BK1:=zk (KeepBut.blk hk (g':=gb1) (o:=.cells #[.slice none 0 0,.slice none 0 0] 27 (0,0)) (zpw BK1.out) NB1_0.out (by simp));replace HO4:=zk (Kd.R_mono (Kd.R_keep (IsS73.apart (show IsS73 w0 _ g s0_0 t8 t9 from za16) za51 (by decide)) hk (fun _ h=>h.2)) (fun _ h=>h.1));replace HO7:=zk (Kd.S_mono (Kd.S_keep (IsS73.apartS (show IsS73 w0 _ g s0_0 t8 t9 from za16) za50 (by decide)) hk (fun _ h=>h.2)) (fun _ h=>h.1));replace HK:=yK HK hk;replace HB:=zk hb;replace BK10:=zk (KeepBut.blk hk (g':=gb10) (o:=.cells #[.slice Ao48 t2.length co48,.slice Ao52 t5.length co52] 27 (0,0)) (zpu BK10.out) NB10_0.out (by simp));replace HI0:=zk hi;(try clear hb hk hi)))
  replace HO4:=zk (Kd.R_drew HO4.out)
  replace HO7:=zk (Kd.S_drew HO7.out)
  replace BK1:=zk (blk_drew BK1.out)
  replace BK10:=zk (blk_drew BK10.out)
  replace HI0:=zk (IsS73.drew HI0.out)
  replace HK:=zk (keep_drew HK.out)
  replace HB:=zk (below_drew1 HB.out)
  have p19021:0≤(0:Int):=(by omega)
  have q19021:0 < (t5.length:Int):=of_decide_eq_true za7
  obtain ⟨ad19021,A19021_0,c19021_0,e19021,hx19021_0,hl19021_0,hi19021_0⟩:=at_L3 (Kd.S_reads' HO7.out).2.2 0 p19021 q19021
  cases e19021
  obtain ⟨ce19021,hce19021,hMe19021,hcc19021⟩:=Kd.S_get HO7.out [] 0 p19021 (by first|exact q19021|exact of_decide_eq_true za7|(have e_:=(Kd.S_reads' HO7.out).1;omega))
  obtain ⟨ve19021_0,rfl,ge19021_0⟩:=hMe19021
  have hv19021_0:=hcc19021 0 _ rfl
  rw [Nat.add_zero,show ((Kd.slice 3 (Kd.int .i64))).sz=1 from rfl,Nat.mul_one] at hv19021_0
  replace hv19021_0:=zi (hv19021_0.symm.trans hx19021_0)
  rw [hv19021_0] at ge19021_0
  have HL19021_0:=zk (show Kd.R (Kd.int .i64) 3 _ _ _ _ (rd_L3 t5 0) from ge19021_0)
  clear hv19021_0 ge19021_0
  have HX19021_0:=zk hx19021_0
  clear hcc19021 hce19021
  have qi19021:(0 < t5.length)=True:=eq_true (by omega)
  (try rw [show ((0:Int)).toNat=0 from rfl] at hx19021_0)
  (try rw [Addr.add_zero'] at hx19021_0)
  have HR19021_0:=zk hi19021_0
  have HC19021_0:=zk hl19021_0
  clear hi19021_0 hl19021_0
  replace p19021:=eq_true p19021
  replace q19021:=eq_true q19021
  obtain ⟨go55,co55,eo55,gb55,gl55,cl55,HG55⟩:=Kd.S_form HO7.out (by have h_:(0:Int) < ((t5.length:Int):Int):=of_decide_eq_true za7;have h2_:0≤(0:Int):=(by omega);omega)
  (first|cases eo55|(injection eo55 with ea_ en_ ec_;(first|subst ea_|(injection ea_ with ea_;subst ea_));subst ec_;clear en_))
  have GB55:=zk gb55
  have GG55:=zk HG55
  clear gb55 gl55 HG55
  (first|simp only [add_plain] at hx19021_0|skip)
  obtain ⟨oki55,ce55,hcl55,hM55,hcc55,_,_,hH55⟩:=Kd.S_elem HO7.out [] (0:Int) (by omega) (by have h_:(0:Int) < ((t5.length:Int):Int):=of_decide_eq_true za7;first|exact h_|(have e_:=(Kd.S_reads' HO7.out).1;omega)|simpa using h_)
  obtain ⟨ve55_0,rfl,ge55_0⟩:=hM55
  have hv55:=hcc55 0 _ rfl
  have hX55:=HX19021_0.out
  (try simp only [add_plain] at hX55)
  (try simp only [Nat.add_zero] at hv55)
  (try rw [show ((Kd.slice 3 (Kd.int .i64))).sz=1 from rfl,Nat.mul_one] at hv55)
  replace hv55:=zi (hv55.symm.trans hX55)
  subst hv55
  clear hX55 hcc55 hcl55
  have UU55:=zk (show Kd.R (Kd.int .i64) 3 _ w.heap.size oki55 (.slice A19021_0 (rd_L3 t5 0).length c19021_0) (rd_L3 t5 0) from ge55_0)
  have HH55:=zk hH55
  have HN55:=zk (Kd.S_reads' HO7.out).1
  clear hH55 ge55_0
  refine start_ (n:=10) (S:=fun w'=>w'.cell? ⟨gb10,0,none⟩=some (.slice Ao48 t2.length co48)∧w'.cell? ⟨gb10,1,none⟩=some (.slice (some ⟨go55,0,none⟩) t5.length co52)∧w'.cell? ⟨go55,0,none⟩=some (.slice A19021_0 (rd_L3 t5 0).length c19021_0)) (ds:=[9]) #[false,false,false,false,false,false,false,false,false,false] (by kernel_rfl) rfl rfl ⟨(blk_cell BK10.out 0).trans rfl,(blk_cell BK10.out 1).trans rfl,hx19021_0⟩ (fun hHeld=>?_);refine with_tabW spec_l5Bent.tab8 spec_l5Bent.bits8 (fun HT_ HW_=>?_)
  generalize w53.drew=w54 at HO4 HO7 BK1 BK10 HI0 HK HB GG55 HH55 HL19021_0 HR19021_0 HX19021_0 UU55 hx19021_0 hHeld ⊢
  refine zy 0 (some 27) HT_.out ?_
  refine zy 2 (some 29) HT_.out ?_
  refine ztk 1 (some 28) HT_.out HW_.out hHeld ?_
  refine ztk 3 (some 30) HT_.out HW_.out hHeld ?_
  refine zy 4 (some 31) HT_.out ?_
  refine ztk 5 (some 32) HT_.out HW_.out hHeld ?_
  refine zon 6 (some 33) HT_.out (fun K hK=>?_)
  refine value_ (w1:=?_) (v:=?_) (by rfl) rfl ?_ ?_
  rotate_left 2
  ·go_simp
   constructor
   ·rfl
   ·rfl
  refine hK.out _ _ ⟨(blk_cell (blk_alloc BK10.out _) 0).trans rfl,(blk_cell (blk_alloc BK10.out _) 1).trans rfl,(World.cell?_alloc_lt _ _ _ (World.block_lt_of_cell? _ _ (hHeld.2.2))).trans (hHeld.2.2)⟩ (fun hHeld=>?_)
  clear hK K
  refine zno (some 33) ?_
  refine zon 7 (some 34) HT_.out (fun K hK=>?_)
  refine Kd.R_append_step (Kd.int .i64) w.heap.size (by rfl) (.tmp 32) (.tmp 33) 29 3 (.int .i64 0) 8 rfl Try.underlying29 info3 rfl (by decide) (by omega) (.slice A19021_0 (rd_L3 t5 0).length c19021_0) (rd_L3 t5 0) 0 [.int .i64 0] (fun k_=>oki55 k_∨((fun _=>True)) k_∧w54.heap.size≤k_) (fun _=>False) rfl rfl ?aP (fun _ hk=>hk.elim) ?aF ?aO (Below.refl _ _) ?aS ?aL ?_
  (case aP=>exact rfl)
  (case aF=>exact (fun k_ hk => .inr ⟨trivial,hk⟩))
  (case aO=>exact (by (with_reducible repeat (first|apply Kd.R_alloc|apply Kd.R_drewN|apply Kd.R_drew));exact Kd.R_mono UU55.out (fun _ hk => .inl hk)))
  (case aS=>exact (keep_size (w:=w) (g:=g) (row:=none) za27))
  (case aL=>have:=LMc43.out;omega)
  intro v23 w56 ho hb hg hat
  (first|have HS2_:=cell_grown hg (hHeld.2.2) za64|have HS2_:=cell_grown hg (cell_unalloc (hHeld.2.2) (by first|(rw [add_block];exact Kd.S_lt HO7.out _ rfl)|(show (Addr.add _ _).block < _;rw [add_block];exact Kd.S_lt HO7.out _ rfl)|exact Kd.S_lt HO7.out _ rfl)) za64)
  rw [← Ny22.out] at ho
  replace BK1:=zk (blk_grown (g:=gb1) (o:=.cells #[.slice none 0 0,.slice none 0 0] 27 (0,0)) (za0 BK1.out) hg (Kd.R_ne HL19021_0.out BK1.out (by decide)))
  replace HO4:=zk (Kd.R_over' (v:=(.slice A19021_0 (rd_L3 t5 0).length c19021_0)) (za1 HO4.out) (Kd.R_typed HL19021_0.out) (by decide) hg)
  replace BK10:=zk (blk_grown (g:=gb10) (o:=.cells #[.slice Ao48 t2.length co48,.slice (some ⟨go55,0,none⟩) t5.length co52] 27 (0,0)) (za0 BK10.out) hg (Kd.R_ne HL19021_0.out BK10.out (by decide)))
  replace HB:=zk (below_weaken za30 HL.out hb)
  replace HK:=zk (KeepBut.trans za27 (KeepBut.of_grown hg g) (Kd.R_base2 HL19021_0.out))
  replace HH55:=zk (Kd.H_grown (Kd.H_widen (by repeat (first|exact HH55.out|refine Kd.H_alloc ?_ _|refine Kd.H_drewN ?_ _|refine Kd.H_drew ?_))) hg (fun k_ e_ => .inl (UU55.out.1 k_ e_)))
  have HO24:=zk ho
  replace HI0:=zk (IsS73.grown za16 hg (IsS73.own_ne HI0.out HL19021_0.out (by decide)))
  clear HO7
  clear UU55
  clear HL19021_0
  clear ho hb hg hat
  have p44:0≤(0:Int):=(by omega)
  have q44:(0:Int) < ((t5.length:Int):Int):=of_decide_eq_true za7
  replace p44:=eq_true p44
  replace q44:=eq_true q44
  obtain ⟨Ao59,co59,eo59⟩:=Kd.R_slice HO24.out
  (first|subst eo59|(injection eo59 with f1_ f2_ f3_;have f4_:=f1_.symm;have f5_:=f3_.symm;clear f1_ f2_ f3_;subst f4_;subst f5_))
  obtain ⟨_,_,hraw57,_,_,hcc57,_⟩:=Kd.H_raw HH55.out (by omega) (by have h_:(0:Int) < ((t5.length:Int):Int):=of_decide_eq_true za7;first|exact h_|(have e_:=(HN55.out);omega)|simpa using h_)
  obtain ⟨_,hfr57⟩:=Kd.H_at HH55.out (by omega) (by have h_:(0:Int) < ((t5.length:Int):Int):=of_decide_eq_true za7;first|exact h_|(have e_:=(HN55.out);omega)|simpa using h_)
  have hx57_0:=hcc57 0 _ rfl
  have hf57_0:=hfr57 0
  (try simp only [Nat.add_zero] at hx57_0 hf57_0)
  (try rw [show ((Kd.slice 3 (Kd.int .i64))).sz=1 from rfl,Nat.mul_one] at hx57_0)
  (try rw [show ((Kd.slice 3 (Kd.int .i64))).sz=1 from rfl,Nat.mul_one] at hf57_0)
  (try rw [show ((0:Int)).toNat=0 from rfl] at hx57_0)
  (try simp only [Nat.reduceMul,Nat.zero_mul,Nat.zero_add,Nat.reduceAdd] at hx57_0)
  (try rw [show ((0:Int)).toNat=0 from rfl] at hf57_0)
  (try simp only [Nat.reduceMul,Nat.zero_mul,Nat.zero_add,Nat.reduceAdd] at hf57_0)
  have HP57:=Kd.S_seg0 HH55.out (by omega) (by have h_:(0:Int) < ((t5.length:Int):Int):=of_decide_eq_true za7;first|exact h_|(have e_:=(HN55.out);omega)|simpa using h_) (seg:=[.slice Ao59 y19022.length co59]) (j:=0) (show 1≤1 from by decide) (x':=y19022) (Kd.M_row HO24.out) (fun _ hk=>hk)
  (try simp only [show ((Kd.slice 3 (Kd.int .i64))).sz=1 from rfl,Nat.mul_one,Nat.add_zero] at HP57)
  clear hcc57 hfr57
  have HN0_go55:=zk (show g ≠ go55 from by have h_:=IsS73.own_ne HI0.out hraw57 (by decide);intro e_;exact h_ (by rw [e_];rfl))
  have HNB19001_go55:=zk (show gb1 ≠ go55 from by have h_:=Kd.R_ne hraw57 BK1.out (by decide);intro e_;exact h_ (by rw [e_];rfl))
  have HNB19010_go55:=zk (show gb10 ≠ go55 from by have h_:=Kd.R_ne hraw57 BK10.out (by decide);intro e_;exact h_ (by rw [e_];rfl))
  have HS57:=HP57.1
  rw [← Ny25.out] at HS57
  have HQ57:=zk HS57
  obtain ⟨_,hgg57⟩:=Kd.R_typed hraw57 go55 rfl
  have GG57_:=zk hgg57
  clear HP57 HS57 hgg57
  refine hK.out _ _ ⟨(blk_cell BK10.out 0).trans rfl,(blk_cell BK10.out 1).trans rfl,HS2_⟩ (fun hHeld=>?_)
  clear hK K
  refine zno (some 34) ?_
  refine zy 8 (some 35) HT_.out ?_
  refine last_ (i:=9) (N:=none) #[true,true,true,true,true,true,true,true,true,true] rfl rfl (one_of HT_.out (by kernel_rfl)) (by decide) (fun K hK=>?_)
  refine skip_ (w1:=?_) (by rfl) rfl ?_ ?_
  rotate_left
  ·go_simp
   rfl
  refine hK.out _ _ ?_
  clear hK K
  refine done_ (done_of HT_.out (by kernel_rfl)) ?_
  have n0_:Aside0 (Kd.R Kd.bool 4 (w56.setCell ⟨go55,0,none⟩ (.slice Ao59 y19022.length co59)) w.heap.size (fun _=>True) (.slice Ao48 t2.length co48) t2):=⟨by (with_reducible repeat (first|apply Kd.R_alloc|apply Kd.R_drewN|apply Kd.R_drew));exact Kd.R_mono (zfR (Kd.R_types HO4.out GG57_.out (by decide))) (fun _ hk=>trivial)⟩
  have n1_:Aside0 (Kd.S (Kd.slice 3 (Kd.int .i64)) 29 (w56.setCell ⟨go55,0,none⟩ (.slice Ao59 y19022.length co59)) w.heap.size (fun _=>True) (.slice (some ⟨go55,0,none⟩) t5.length co52) y19025):=⟨za2 HQ57.out⟩
  have n2_:Aside0 ((w56.setCell ⟨go55,0,none⟩ (.slice Ao59 y19022.length co59)).heap[gb1]? = some (.cells #[.slice none 0 0,.slice none 0 0] 27 (0,0))):=⟨by (with_reducible repeat (first|refine blk_drewN ?_ _|refine blk_drew ?_|refine blk_alloc ?_ _));refine blk_far ?_ HNB19001_go55.out _;(with_reducible repeat (first|refine blk_drewN ?_ _|refine blk_drew ?_|refine blk_alloc ?_ _));exact BK1.out⟩
  have n3_:Aside0 ((w56.setCell ⟨go55,0,none⟩ (.slice Ao59 y19022.length co59)).heap[gb10]? = some (.cells #[.slice Ao48 t2.length co48,.slice (some ⟨go55,0,none⟩) t5.length co52] 27 (0,0))):=⟨by (with_reducible repeat (first|refine blk_drewN ?_ _|refine blk_drew ?_|refine blk_alloc ?_ _));refine blk_far ?_ HNB19010_go55.out _;(with_reducible repeat (first|refine blk_drewN ?_ _|refine blk_drew ?_|refine blk_alloc ?_ _));exact BK10.out⟩
  have n4_:Aside0 (IsS73 w0 (w56.setCell ⟨go55,0,none⟩ (.slice Ao59 y19022.length co59)) g s0_0 t12 t13):=⟨by repeat (first|(with_reducible first|exact HI0.out|apply IsS73.alloc|apply IsS73.drewN|apply IsS73.drew|apply IsS73.set_1|apply IsS73.set_2|refine IsS73.far ?_ HN0_go55.out _|refine IsS73.far ?_ NB0_1.out _|refine IsS73.far ?_ NB0_10.out _)|exact HI0.out)⟩
  have n5_:Aside0 (KeepBut w (w56.setCell ⟨go55,0,none⟩ (.slice Ao59 y19022.length co59)) g none):=⟨by repeat (first|(with_reducible first|exact HK.out|apply KeepBut.set_|apply keep_drewN|apply keep_drew|apply keep_alloc|refine keep_far ?_ GB55.out _|refine keep_far ?_ GW1.out _|refine keep_far ?_ GW10.out _)|exact HK.out)⟩
  have n6_:Aside0 (Below w0.heap.size w0 (w56.setCell ⟨go55,0,none⟩ (.slice Ao59 y19022.length co59))):=⟨by repeat (first|(with_reducible first|exact HB.out|apply below_alloc|apply pw_below_drewN|apply below_drew1|refine below_set ?_ (Nat.le_trans HL.out GB55.out)|refine below_set ?_ (IsS73.ge HI0.out)|refine below_set ?_ GE1.out|refine below_set ?_ GE10.out)|exact HB.out)⟩
  (try clear HO4)
  (try clear HO7)
  (try clear BK1)
  (try clear BK10)
  (try clear HI0)
  (try clear HK)
  (try clear HB)
  generalize (w56.setCell ⟨go55,0,none⟩ (.slice Ao59 y19022.length co59))=w60 at n0_ n1_ n2_ n3_ n4_ n5_ n6_ ⊢
  have HO4:=n0_
  have HO7:=n1_
  have BK1:=n2_
  have BK10:=n3_
  have HI0:=n4_
  have HK:=n5_
  have HB:=n6_
  clear n0_ n1_ n2_ n3_ n4_ n5_ n6_
  obtain ⟨hcz61_0,hcz61_1,hfz61_0,hfz61_1⟩:=blk2 BK10.out
  have hnb62:=NB1_0.out
  have hnc62:=NB0_1.out
  obtain ⟨hcz63_0,hcz63_1,hfz63_0,hfz63_1⟩:=blk2 BK1.out
  try go_wp2
  refine bodyPost_ret (results_cell_row rfl _ _ gb1 27 #[.slice Ao48 t2.length co48,.slice (some ⟨go55,0,none⟩) t5.length co52] (0,0) _ rfl (zpu BK1.out) Try.underlying27 rfl (by kernel_rfl)) rfl ?_
  exact ⟨_,_,za15,za57,za56,za16,za30,za27⟩
 ·rw [if_neg c43] at H
  exact absurd H (by simp)
 ·rw [if_neg c42] at H
  exact absurd H (by simp)
 ·rw [if_neg c41] at H
  have c41b0:=zbn c41
  have c41b1:=zqt c41
  simp only [Option.some.injEq,Prod.mk.injEq] at H
  obtain ⟨rfl,rfl,rfl,rfl⟩:=H
  go_enter Try.func19,Try.ntmps19
  go_wp2_with (first|((with_reducible refine gate_dst (N:=2) rfl ?_);refine zE (cs:=#[.slice none 0 0,.slice none 0 0]) (t:=27) ?_;intro gb1 hg w64 hbox hb;replace HB:=zk (below_step za12 hb);have BK1:=zk hbox;have GW1:=zk ((by rw [hg];exact (keep_size (w:=w) (g:=g) (row:=none) za9):w.heap.size≤gb1));have GE1:=zk ((Nat.le_trans HW0.out (by rw [hg];exact (keep_size (w:=w) (g:=g) (row:=none) za9):w.heap.size≤gb1):w0.heap.size≤gb1));have NB0_1:=zk (zm hg (IsS73.lt (show IsS73 w0 _ g s0_0 s0_1 s0_2 from za6)));have NB1_0:=zk (zM hg (IsS73.lt (show IsS73 w0 _ g s0_0 s0_1 s0_2 from za6)));replace HI0:=zk (IsS73.below za6 hb);replace HK:=yk HK hb;clear hb hbox hg)|((with_reducible refine gate_callee (f:=20) rfl ?_);refine zg (some 5) Try.func20 #[.pointer (some ⟨g,0,none⟩),.int .i64 5] rfl za4 ?_;(with_reducible refine (spec_l5Draw.calls k g s0_0 s0_1 s0_2 5 t2 t5 t8 t9 w0 _ za8 za17 A2.out).mono ?_);rintro e w65 ⟨v3,v6,rfl,ho0,ho1,hi,hb,hk⟩;refine ⟨_,rfl,?_⟩;replace BK1:=yq hk BK1 NB1_0;have HO4:=zk (Kd.R_lower ho0 (keep_size (w:=w) (g:=g) (row:=none) za5));have HO7:=zk (Kd.S_lower ho1 (keep_size (w:=w) (g:=g) (row:=none) za5));replace HB:=zk hb;replace HI0:=zk hi;replace HK:=yK HK hk;(try clear hb hk hi ho0 ho1))|((with_reducible refine gate_dst (N:=3) rfl ?_);refine zE (cs:=#[.slice none 0 0,.slice none 0 0]) (t:=27) ?_;intro gb10 hg w66 hbox hb;replace HO4:=zk (Kd.R_below (za1 HO4.out) hb);replace HO7:=zk (Kd.S_below (za2 HO7.out) hb);replace HB:=zk (below_step za17 hb);have BK10:=zk hbox;have GW10:=zk ((by rw [hg];exact (keep_size (w:=w) (g:=g) (row:=none) za5):w.heap.size≤gb10));have GE10:=zk ((Nat.le_trans HW0.out (by rw [hg];exact (keep_size (w:=w) (g:=g) (row:=none) za5):w.heap.size≤gb10):w0.heap.size≤gb10));have NB1_10:=yn hg BK1;have NB10_1:=yp hg BK1;have NB0_10:=zk (zm hg (IsS73.lt (show IsS73 w0 _ g s0_0 t8 t9 from za8)));have NB10_0:=zk (zM hg (IsS73.lt (show IsS73 w0 _ g s0_0 t8 t9 from za8)));replace HI0:=zk (IsS73.below za8 hb);replace BK1:=yb BK1 hb;replace HK:=yk HK hb;clear hb hbox hg;obtain ⟨Ao67,co67,eo67⟩:=Kd.R_slice HO4.out;subst eo67;have hnb68:=NB10_1.out;have hnc68:=NB1_10.out;have hnb69:=NB10_0.out;have hnc69:=NB0_10.out;obtain ⟨hcz70_0,hcz70_1,hfz70_0,hfz70_1⟩:=blk2 BK10.out;obtain ⟨Ao71,co71,eo71⟩:=Kd.S_slice HO7.out;subst eo71)|((with_reducible refine gate_callee (f:=39) rfl ?_);refine zg (some 7) Try.func39 #[.pointer (some ⟨g,0,none⟩),.int .i64 12] rfl za4 ?_;(with_reducible refine (spec_l1Below.calls g s0_0 t8 t9 12 t11 t12 t13 w0 _ za16 za30 A3.out).mono ?_);rintro e w72 ⟨rfl,hi,hb,hk⟩;refine ⟨_,rfl,?_⟩;replace BK1:=zk (KeepBut.blk hk (g':=gb1) (o:=.cells #[.slice none 0 0,.slice none 0 0] 27 (0,0)) (zpw BK1.out) NB1_0.out (by simp));replace HO4:=zk (Kd.R_mono (Kd.R_keep (IsS73.apart (show IsS73 w0 _ g s0_0 t8 t9 from za16) za51 (by decide)) hk (fun _ h=>h.2)) (fun _ h=>h.1));replace HO7:=zk (Kd.S_mono (Kd.S_keep (IsS73.apartS (show IsS73 w0 _ g s0_0 t8 t9 from za16) za50 (by decide)) hk (fun _ h=>h.2)) (fun _ h=>h.1));replace HK:=yK HK hk;replace HB:=zk hb;replace BK10:=zk (KeepBut.blk hk (g':=gb10) (o:=.cells #[.slice Ao67 t2.length co67,.slice Ao71 t5.length co71] 27 (0,0)) (zpu BK10.out) NB10_0.out (by simp));replace HI0:=zk hi;(try clear hb hk hi);obtain ⟨hcz73_0,hcz73_1,hfz73_0,hfz73_1⟩:=blk2 BK10.out;have hnb74:=NB1_0.out;have hnc74:=NB0_1.out;obtain ⟨hcz75_0,hcz75_1,hfz75_0,hfz75_1⟩:=blk2 BK1.out))
  refine bodyPost_ret (results_cell_row rfl _ _ gb1 27 #[.slice Ao67 t2.length co67,.slice Ao71 t5.length co71] (0,0) _ rfl (zpu BK1.out) Try.underlying27 rfl (by kernel_rfl)) rfl ?_
  exact ⟨_,_,za15,za57,za56,za16,za30,za27⟩
def spec_l1In.f (a0:Int) (a1:Int) (a2:Int):Option (Bool):=if a0 ≥ a1 then (some (decide (a0≤a2))) else (some false)
theorem spec_l1In.calls (a0:Int) (a1:Int) (a2:Int) (r:Bool) (w:World) (h:spec_l1In.f a0 a1 a2=some r) :
   Calls Try.prog 35 #[.int .i64 a0,.int .i64 a1,.int .i64 a2] w fun e w'=>e = .returned (.bool r)∧Drawn0 w w':=by
 have H:=h
 unfold spec_l1In.f at H
 clear h
 by_cases c4:a0 ≥ a1
 rw [if_pos c4] at H
 have c4b0:=zdle c4
 rotate_left
 rw [if_neg c4] at H
 have c4b0:=zdnle c4
 rotate_left
 all_goals
  clear c4
  obtain rfl:=zi H
  go_enter Try.func35,Try.ntmps35
  go_wp2
  go_ret
  exact ⟨za13,za25⟩
mutual
def spec_WordsOfLength.l0:Nat→Int→List ByteArray→Int→Option (List ByteArray)
 | 0,_,_,_=>none
 | k+1,x0,x3,x4=>if x4 < x0 then (spec_WordsOfLength.l1 k x0 x3 x4 (([]:List ByteArray)) 0) else (some x3)
def spec_WordsOfLength.l1:Nat→Int→List ByteArray→Int→List ByteArray→Int→Option (List ByteArray)
 | 0,_,_,_,_,_=>none
 | k+1,x0,x3,x4,x5,x6=>if x6 < (x3.length:Int) then (spec_WordsOfLength.l2 k x0 x3 x4 x5 x6 0) else (spec_WordsOfLength.l0 k x0 x5 (wrap64 (x4+1)))
def spec_WordsOfLength.l2:Nat→Int→List ByteArray→Int→List ByteArray→Int→Int→Option (List ByteArray)
 | 0,_,_,_,_,_,_=>none
 | k+1,x0,x3,x4,x5,x6,x7=>if x7 < 3 then (if 0≤x6 then (if x6 < (x3.length:Int) then (if 0≤x7 then (if x7≤(wrap64 (x7+1)) then (if (wrap64 (x7+1))≤3 then (if (rdOf ByteArray.empty x3 x6).size+((⟨#[97,98,99]⟩:ByteArray).extract (x7:Int).toNat ((wrap64 (x7+1)):Int).toNat).size≤9223372036854775807 then (if x5.length < 8796093022208 then (spec_WordsOfLength.l2 k x0 x3 x4 (x5 ++ [(rdOf ByteArray.empty x3 x6) ++ ((⟨#[97,98,99]⟩:ByteArray).extract (x7:Int).toNat ((wrap64 (x7+1)):Int).toNat)]) x6 (wrap64 (x7+1))) else (none)) else (none)) else (none)) else (none)) else (none)) else (none)) else (none)) else (spec_WordsOfLength.l1 k x0 x3 x4 x5 (wrap64 (x6+1)))
end
def spec_WordsOfLength.f (k:Nat) (a0:Int):Option (List ByteArray):=(spec_l1In.f a0 0 5).bind fun t31001=>(if t31001=true then (spec_WordsOfLength.l0 k a0 (([⟨#[]⟩]:List ByteArray)) 0) else (some (([]:List ByteArray))))
theorem spec_WordsOfLength.mono_l:∀ k,(∀ y0 y1 y2,LeO (spec_WordsOfLength.l0 k y0 y1 y2) (spec_WordsOfLength.l0 (k+1) y0 y1 y2))∧(∀ y0 y1 y2 y3 y4,LeO (spec_WordsOfLength.l1 k y0 y1 y2 y3 y4) (spec_WordsOfLength.l1 (k+1) y0 y1 y2 y3 y4))∧(∀ y0 y1 y2 y3 y4 y5,LeO (spec_WordsOfLength.l2 k y0 y1 y2 y3 y4 y5) (spec_WordsOfLength.l2 (k+1) y0 y1 y2 y3 y4 y5))
 | 0=>⟨fun _ _ _ r h=>by simp [spec_WordsOfLength.l0] at h,fun _ _ _ _ _ r h=>by simp [spec_WordsOfLength.l1] at h,fun _ _ _ _ _ _ r h=>by simp [spec_WordsOfLength.l2] at h⟩
 | k+1=>by
  obtain ⟨ih0,ih1,ih2⟩:=spec_WordsOfLength.mono_l k
  refine ⟨?_,?_,?_⟩
  ·intro y0 y1 y2
   unfold spec_WordsOfLength.l0
   repeat' first
   | with_reducible first|exact ih0 _ _ _|exact ih1 _ _ _ _ _|exact ih2 _ _ _ _ _ _|exact LeO.refl _|exact LeO.none _|refine LeO.ite ?_ ?_|refine LeO.bind ?_ (fun _=>?_)
  ·intro y0 y1 y2 y3 y4
   unfold spec_WordsOfLength.l1
   repeat' first
   | with_reducible first|exact ih0 _ _ _|exact ih1 _ _ _ _ _|exact ih2 _ _ _ _ _ _|exact LeO.refl _|exact LeO.none _|refine LeO.ite ?_ ?_|refine LeO.bind ?_ (fun _=>?_)
  ·intro y0 y1 y2 y3 y4 y5
   unfold spec_WordsOfLength.l2
   repeat' first
   | with_reducible first|exact ih0 _ _ _|exact ih1 _ _ _ _ _|exact ih2 _ _ _ _ _ _|exact LeO.refl _|exact LeO.none _|refine LeO.ite ?_ ?_|refine LeO.bind ?_ (fun _=>?_)
theorem spec_WordsOfLength.mono:∀ a0 k,LeO (spec_WordsOfLength.f k a0) (spec_WordsOfLength.f (k+1) a0):=by
 intro a0 k
 obtain ⟨ih0,ih1,ih2⟩:=spec_WordsOfLength.mono_l k
 unfold spec_WordsOfLength.f
 repeat' first
  | with_reducible first|exact ih0 _ _ _|exact ih1 _ _ _ _ _|exact ih2 _ _ _ _ _ _|exact LeO.refl _|exact LeO.none _|refine LeO.ite ?_ ?_|refine LeO.bind ?_ (fun _=>?_)
def spec_WordsOfLength.T14:Bool × List (List Nat × List Nat):=(true,[([],[]),([],[]),([],[]),([1,2],[1,2]),([3],[3]),([],[]),([],[]),([6],[6]),([5,7],[5,7]),([4,8],[4,8]),([9],[9]),([0,10],[0,10]),([11,11,0,1,2,3,4,5,6,7,8,9,10,11],[0,11])])
def spec_WordsOfLength.B14:List Nat:=[0,0,0,6,14,0,0,64,224,510,1022,2047,4095]
theorem spec_WordsOfLength.tab14:rtab .any (opsOf Try.f31 14)=spec_WordsOfLength.T14:=by kernel_rfl
theorem spec_WordsOfLength.bits14:waitsOk spec_WordsOfLength.T14.2 spec_WordsOfLength.B14=true:=by kernel_rfl
theorem spec_WordsOfLength.calls (k:Nat) (a0:Int) (r:List ByteArray) (w:World) (h:spec_WordsOfLength.f k a0=some r) :
  Calls Try.prog 31 #[.int .i64 a0] w fun e w'=>∃ v0_:Value,e = .returned (v0_)∧Kd.R Kd.string 9 w' w.heap.size (fun _=>True) v0_ r∧Below w.heap.size w w':=by
 have HB:=zk (Below.refl w.heap.size w)
 have H:=h
 unfold spec_WordsOfLength.f at H
 clear h
 obtain ⟨t1,A2,H⟩:=zO H
 try dsimp only at H
 by_cases c3:t1=true
 ·subst c3
  rw [if_pos rfl] at H
  try dsimp only at H
  obtain ⟨y31005,hy31005⟩:∃ y_:List ByteArray,y_=(([⟨#[]⟩]:List ByteArray)):=⟨_,rfl⟩
  replace H:(spec_WordsOfLength.l0 k a0 y31005 0)=some r:=by first|(rw [hy31005];with_reducible exact H)|(have H2_:=(Option.bind_some _ _).symm.trans H;rw [hy31005];with_reducible exact H2_)|(have H2_:=(Option.bind_some _ _).symm.trans H;with_reducible exact H2_)|with_reducible exact H|(rw [hy31005];exact H)|exact H
  have Ny5:=zk hy31005
  clear hy31005
  have H':=zk H
  clear H
  go_enter Try.func31,Try.ntmps31
  go_wp2_with (first|((with_reducible refine gate_callee (f:=35) rfl ?_);refine zg (some 9) Try.func35 #[.int .i64 a0,.int .i64 0,.int .i64 5] rfl za4 ?_;(with_reducible refine (spec_l1In.calls a0 0 5 _ _ A2.out).mono ?_);rintro e w' ⟨rfl,⟨nd,rfl⟩⟩;refine ⟨_,rfl,?_⟩)|((with_reducible refine gate_dst (N:=12) rfl ?_);refine Kd.R_lit Kd.string _ 9 ?hg (N:=12) ?hd (xs:=([⟨#[]⟩]:List ByteArray)) (inner:=[.string ⟨#[]⟩]) (ok:=fun _=>True) (okp:=fun _=>True) ?hr ?hp (fun _ hk=>hk) trivial (Below.refl _ _) (Nat.le_refl _) (by simp) ?_;(case hd=>rfl);(case hg=>rfl);(case hr=>first|(go_simp;done)|(go_simp;rfl));(case hp=>exact (Reps.one (show Kd.M Kd.string _ _ _ (⟨#[]⟩:ByteArray) [.string ⟨#[]⟩] from rfl) (Reps.none _ _)));intro v31006 w4 ho5 hb hg_ hnew_;clear hg_ hnew_;(first|rw [← Ny5.out] at ho5|(simp only [Int.reduceToNat] at ho5;rw [← Ny5.out] at ho5));have HO7:=zk (Kd.R_lower ho5 (below_size za3));replace HB:=yB HB hb;clear hb ho5))
  try simp only [Act.put,zt,zv,zu]
  go_loopg [3,4] k (fun kq v3 v4 w'=>∃ (x3_1:List ByteArray) (x4_1:Int),v4 = .int .i64 x4_1∧Aside0 (spec_WordsOfLength.l0 kq a0 x3_1 x4_1=some r)∧Aside0 (kq≤k)∧Aside0 (Kd.R Kd.string 9 w' w.heap.size (fun _=>True) v3 x3_1)∧Aside0 (Below w.heap.size w w'))
  case atStart=>exact ⟨(y31005),(0),za13,H',⟨Nat.le_refl _⟩,⟨za1 HO7.out⟩,⟨za3⟩⟩
  case round =>
   clear H'
   try clear c3
   obtain ⟨x3_1,x4_1,rfl,HA,HK1,HO_3,HB⟩:=hrel
   cases gk with
   | zero=>exact absurd HA.out (by simp [spec_WordsOfLength.l0])
   | succ k1 =>
    have H:=HA.out
    clear HA
    simp only [spec_WordsOfLength.l0] at H
    by_cases c6:x4_1 < a0
    ·rw [if_pos c6] at H
     have c6b0:=zdl c6
     clear c6
     obtain ⟨y31008,hy31008⟩:∃ y_:List ByteArray,y_=(([]:List ByteArray)):=⟨_,rfl⟩
     replace H:(spec_WordsOfLength.l1 k1 a0 x3_1 x4_1 y31008 0)=some r:=by first|(rw [hy31008];with_reducible exact H)|(have H2_:=(Option.bind_some _ _).symm.trans H;rw [hy31008];with_reducible exact H2_)|(have H2_:=(Option.bind_some _ _).symm.trans H;with_reducible exact H2_)|with_reducible exact H|(rw [hy31008];exact H)|exact H
     have Ny8:=zk hy31008
     clear hy31008
     have H':=zk H
     clear H
     go_wp2_with (first|((with_reducible refine gate_dst (N:=18) rfl ?_);refine Kd.R_lit Kd.string _ 9 ?hg (N:=18) ?hd (xs:=([]:List ByteArray)) (inner:=[]) (ok:=fun _=>True) (okp:=fun _=>True) ?hr ?hp (fun _ hk=>hk) trivial (Below.refl _ _) (Nat.le_refl _) (by simp) ?_;(case hd=>rfl);(case hg=>rfl);(case hr=>first|(go_simp;done)|(go_simp;rfl));(case hp=>exact (Reps.none _ _));intro v9 w7 ho8 hb hg_ hnew_;clear hg_ hnew_;(first|rw [← Ny8.out] at ho8|(simp only [Int.reduceToNat] at ho8;rw [← Ny8.out] at ho8));have HO10:=zk (Kd.R_lower (Kd.R_new' ho8 (Kd.R_lt (za1 HO_3.out))) (below_size za3));replace HO_3:=zk (Kd.R_elder' (za1 HO_3.out) (Kd.R_base ho8) hb);replace HB:=yB HB hb;clear hb ho8))
     try simp only [Act.put,zt,zv,zu]
     go_loopg [5,6] k1 (fun kq v5 v6 w'=>∃ (x5_2:List ByteArray) (x6_2:Int),v6 = .int .i64 x6_2∧Aside0 (spec_WordsOfLength.l1 kq a0 x3_1 x4_1 x5_2 x6_2=some r)∧Aside0 (kq≤k1)∧Aside0 (Kd.R Kd.string 9 w' w.heap.size (fun k_=>some k_ ≠ (v5:Value).ownBlock) u3 x3_1)∧Aside0 (Kd.R Kd.string 9 w' w.heap.size (fun k_=>some k_ ≠ (u3:Value).ownBlock) v5 x5_2)∧Aside0 (Below w.heap.size w w'))
     case atStart=>exact ⟨(y31008),(0),za13,H',⟨Nat.le_refl _⟩,⟨za63⟩,⟨by (with_reducible repeat (first|apply Kd.R_alloc|apply Kd.R_drewN|apply Kd.R_drew));exact Kd.R_mono HO10.out (fun _ hk=>hk.2)⟩,⟨za3⟩⟩
     case round =>
      clear H'
      try clear c3
      try clear c6
      try clear c6b0
      obtain ⟨x5_2,x6_2,rfl,HA,HK2,HO_3,HO_5,HB⟩:=hrel
      cases gk with
      | zero=>exact absurd HA.out (by simp [spec_WordsOfLength.l1])
      | succ k2 =>
       have H:=HA.out
       clear HA
       simp only [spec_WordsOfLength.l1] at H
       by_cases c9:x6_2 < (x3_1.length:Int)
       ·rw [if_pos c9] at H
        have c9b0:=zdl c9
        clear c9
        have H':=zk H
        clear H
        obtain ⟨Ao10,co10,eo10⟩:=Kd.R_slice HO_3.out
        subst eo10
        go_wp2
        try simp only [Act.put,zt,zv,zu]
        go_loopg [5,7] k2 (fun kq v5 v7 w'=>∃ (x5_3:List ByteArray) (x7_3:Int),v7 = .int .i64 x7_3∧Aside0 (spec_WordsOfLength.l2 kq a0 x3_1 x4_1 x5_3 x6_2 x7_3=some r)∧Aside0 (kq≤k2)∧Aside0 (Kd.R Kd.string 9 w' w.heap.size (fun k_=>some k_ ≠ (v5:Value).ownBlock) (.slice Ao10 x3_1.length co10) x3_1)∧Aside0 (Kd.R Kd.string 9 w' w.heap.size (fun k_=>some k_ ≠ ((.slice Ao10 x3_1.length co10):Value).ownBlock) v5 x5_3)∧Aside0 (Below w.heap.size w w'))
        case atStart=>exact ⟨(x5_2),(0),za13,H',⟨Nat.le_refl _⟩,⟨za1 HO_3.out⟩,⟨za1 HO_5.out⟩,⟨za3⟩⟩
        case round =>
         clear H'
         try clear c3
         try clear c6
         try clear c6b0
         try clear c9
         try clear c9b0
         obtain ⟨x5_3,x7_3,rfl,HA,HK3,HO_3,HO_5,HB⟩:=hrel
         cases gk with
         | zero=>exact absurd HA.out (by simp [spec_WordsOfLength.l2])
         | succ k3 =>
          have H:=HA.out
          clear HA
          simp only [spec_WordsOfLength.l2] at H
          by_cases c11:x7_3 < 3
          rw [if_pos c11] at H
          have c11b0:=zdl c11
          clear c11
          by_cases c12:0≤x6_2
          rw [if_pos c12] at H
          have c12b0:=zdle c12
          clear c12
          by_cases c13:x6_2 < (x3_1.length:Int)
          rw [if_pos c13] at H
          have c13b0:=zdl c13
          clear c13
          by_cases c14:0≤x7_3
          rw [if_pos c14] at H
          have c14b0:=eq_true c14
          have c14b1:=zdle c14
          clear c14
          by_cases c15:x7_3≤(wrap64 (x7_3+1))
          rw [if_pos c15] at H
          have c15b0:=eq_true c15
          have c15b1:=zdle c15
          by_cases c16:(wrap64 (x7_3+1))≤3
          rw [if_pos c16] at H
          have c16b0:=eq_true c16
          have c16b1:=zdle c16
          by_cases c17:(rdOf ByteArray.empty x3_1 x6_2).size+((⟨#[97,98,99]⟩:ByteArray).extract (x7_3:Int).toNat ((wrap64 (x7_3+1)):Int).toNat).size≤9223372036854775807
          rw [if_pos c17] at H
          have c17z:=c17
          try simp at c17z
          try replace c17z:=eq_false (Nat.not_lt.2 c17z)
          have c17b0:=eq_true c17
          have c17b1:=zdle c17
          try have c17b2:(9223372036854775807 < (rdOf ByteArray.empty x3_1 x6_2).size+((⟨#[97,98,99]⟩:ByteArray).extract (x7_3:Int).toNat ((wrap64 (x7_3+1)):Int).toNat).size)=False:=eq_false (Nat.not_lt.2 c17)
          by_cases c18:x5_3.length < 8796093022208
          ·rw [if_pos c18] at H
           have LMc18:=zk c18
           clear c18
           obtain ⟨y31012,hy31012⟩:∃ y_:List ByteArray,y_=(x5_3 ++ [(rdOf ByteArray.empty x3_1 x6_2) ++ ((⟨#[97,98,99]⟩:ByteArray).extract (x7_3:Int).toNat ((wrap64 (x7_3+1)):Int).toNat)]):=⟨_,rfl⟩
           replace H:(spec_WordsOfLength.l2 k3 a0 x3_1 x4_1 y31012 x6_2 (wrap64 (x7_3+1)))=some r:=by first|(rw [hy31012];with_reducible exact H)|(have H2_:=(Option.bind_some _ _).symm.trans H;rw [hy31012];with_reducible exact H2_)|(have H2_:=(Option.bind_some _ _).symm.trans H;with_reducible exact H2_)|with_reducible exact H|(rw [hy31012];exact H)|exact H
           have Ny12:=zk hy31012
           clear hy31012
           have H':=zk H
           clear H
           try go_wp2
           replace HO_3:=zk (Kd.R_drew HO_3.out)
           replace HO_5:=zk (Kd.R_drew HO_5.out)
           replace HB:=zk (below_drew1 HB.out)
           have p31011:0≤(x6_2:Int):=of_decide_eq_true za7
           have q31011:x6_2 < (x3_1.length:Int):=of_decide_eq_true za7
           obtain ⟨ad31011,e31011,hx31011_0⟩:=Kd.at_string (Kd.R_reads' HO_3.out).2.2 x6_2 p31011 q31011
           cases e31011
           replace p31011:=eq_true p31011
           replace q31011:=eq_true q31011
           refine start_ (n:=13) (S:=fun w'=>w'.cell? (ad31011.add (x6_2).toNat)=some (.string (rdOf ByteArray.empty x3_1 x6_2))) (ds:=[10,11]) #[false,false,false,false,false,false,false,false,false,false,false,false,false] (by kernel_rfl) rfl rfl (hx31011_0) (fun hHeld=>?_);refine with_tabW spec_WordsOfLength.tab14 spec_WordsOfLength.bits14 (fun HT_ HW_=>?_)
           generalize wr.drew=w19 at HO_3 HO_5 HB hx31011_0 hHeld ⊢
           refine zy 0 (some 29) HT_.out ?_
           refine zy 1 (some 30) HT_.out ?_
           refine zy 2 (some 31) HT_.out ?_
           refine zy 3 (some 32) HT_.out ?_
           refine zy 5 (some 34) HT_.out ?_
           refine zy 6 (some 35) HT_.out ?_
           refine zy 7 (some 36) HT_.out ?_
           refine zy 8 (some 37) HT_.out ?_
           refine ztk 4 (some 33) HT_.out HW_.out hHeld ?_
           refine zy 9 (some 38) HT_.out ?_
           refine last_ (i:=10) (N:=some 39) #[true,true,true,true,true,true,true,true,true,true,true,false,false] rfl rfl (one_of HT_.out (by kernel_rfl)) (by decide) (fun K hK=>?_)
           refine value_ (w1:=?_) (v:=?_) (by rfl) rfl ?_ ?_
           rotate_left 2
           ·go_simp
            constructor
            ·rfl
            ·rfl
           refine hK.out _ _ ?_
           clear hK K
           refine zno (some 39) ?_
           refine last_ (i:=11) (N:=some 40) #[true,true,true,true,true,true,true,true,true,true,true,true,false] rfl rfl (one_of HT_.out (by kernel_rfl)) (by decide) (fun K hK=>?_)
           refine Kd.R_append_step Kd.string (w0:=w) w.heap.size (by rfl) (.tmp 29) (.tmp 39) 35 9 (.string ⟨#[]⟩) 16 rfl Try.underlying35 info9 rfl (by decide) (by omega) u5 x5_3 ((rdOf ByteArray.empty x3_1 x6_2) ++ ((⟨#[97,98,99]⟩:ByteArray).extract (x7_3:Int).toNat ((wrap64 (x7_3+1)):Int).toNat)) [.string ((rdOf ByteArray.empty x3_1 x6_2) ++ ((⟨#[97,98,99]⟩:ByteArray).extract (x7_3:Int).toNat ((wrap64 (x7_3+1)):Int).toNat))] (fun k_=>some k_ ≠ (.slice (some ad31011) x3_1.length co10:Value).ownBlock) (fun _=>False) rfl rfl ?aP (fun _ hk=>hk.elim) ?aF ?aO ?aB ?aS ?aL ?_
           (case aP=>exact rfl)
           (case aB=>exact za3)
           (case aF=>exact (fun k_ hk=>Kd.fresh' (Kd.R_lt (za1 HO_3.out)) k_ hk))
           (case aO=>exact (za1 HO_5.out))
           (case aS=>exact (below_size za3))
           (case aL=>have:=LMc18.out;omega)
           intro v13 w20 ho hb hg hat
           rw [← Ny12.out] at ho
           replace HO_3:=zk (Kd.R_after (ok:=(fun _=>True)) (by (with_reducible repeat (first|apply Kd.R_alloc|apply Kd.R_drewN|apply Kd.R_drew));exact Kd.R_mono HO_3.out (fun _ hk=>⟨trivial,hk⟩)) hg hat)
           replace HB:=zk hb
           have HO14:=zk ho
           clear HO_5
           clear ho hb hg hat
           refine hK.out _ _ ?_
           clear hK K
           refine zno (some 40) ?_
           refine zy 12 (some 5) HT_.out ?_
           refine done_ (done_of HT_.out (by kernel_rfl)) ?_
           try go_wp2
           go_roundg k3
           case measure=>have:=HK1.out;have:=HK2.out;have:=HK3.out;omega
           case rel=>exact ⟨(y31012),(wrap64 (x7_3+1)),za13,H',⟨za60⟩,⟨za63⟩,⟨za1 HO14.out⟩,⟨za3⟩⟩
          ·rw [if_neg c18] at H
           exact absurd H (by simp)
          ·rw [if_neg c17] at H
           exact absurd H (by simp)
          ·rw [if_neg c16] at H
           exact absurd H (by simp)
          ·rw [if_neg c15] at H
           exact absurd H (by simp)
          ·rw [if_neg c14] at H
           exact absurd H (by simp)
          ·rw [if_neg c13] at H
           exact absurd H (by simp)
          ·rw [if_neg c12] at H
           exact absurd H (by simp)
          ·rw [if_neg c11] at H
           have c11b0:=zdnl c11
           clear c11
           have H':=zk H
           clear H
           go_wp2
           go_roundg k3
           case measure=>have:=HK1.out;have:=HK2.out;have:=HK3.out;omega
           case rel=>exact ⟨(x5_3),(wrap64 (x6_2+1)),za13,H',⟨za60⟩,⟨za1 HO_3.out⟩,⟨za1 HO_5.out⟩,⟨za3⟩⟩
       ·rw [if_neg c9] at H
        have c9b0:=zdnl c9
        clear c9
        have H':=zk H
        clear H
        obtain ⟨Ao21,co21,eo21⟩:=Kd.R_slice HO_3.out
        subst eo21
        go_wp2
        go_roundg k2
        case measure=>have:=HK1.out;have:=HK2.out;omega
        case rel=>exact ⟨(x5_2),(wrap64 (x4_1+1)),za13,H',⟨za59⟩,⟨by (with_reducible repeat (first|apply Kd.R_alloc|apply Kd.R_drewN|apply Kd.R_drew));exact Kd.R_mono HO_5.out (fun _ hk=>trivial)⟩,⟨za3⟩⟩
    ·rw [if_neg c6] at H
     have c6b0:=zdnl c6
     clear c6
     obtain rfl:=zi H
     go_wp2
     go_ret
     exact ⟨_,za15,za1 HO_3.out,za3⟩
 ·replace c3:=Bool.eq_false_iff.mpr c3
  subst c3
  rw [if_neg zff] at H
  try dsimp only at H
  obtain ⟨y31002,hy31002⟩:∃ y_:List ByteArray,y_=(([]:List ByteArray)):=⟨_,rfl⟩
  replace H:(some y31002)=some r:=by first|(rw [hy31002];with_reducible exact H)|(have H2_:=(Option.bind_some _ _).symm.trans H;rw [hy31002];with_reducible exact H2_)|(have H2_:=(Option.bind_some _ _).symm.trans H;with_reducible exact H2_)|with_reducible exact H|(rw [hy31002];exact H)|exact H
  have Ny2:=zk hy31002
  clear hy31002
  obtain rfl:=zi H
  go_enter Try.func31,Try.ntmps31
  go_wp2_with (first|((with_reducible refine gate_callee (f:=35) rfl ?_);refine zg (some 9) Try.func35 #[.int .i64 a0,.int .i64 0,.int .i64 5] rfl za4 ?_;(with_reducible refine (spec_l1In.calls a0 0 5 _ _ A2.out).mono ?_);rintro e w' ⟨rfl,⟨nd,rfl⟩⟩;refine ⟨_,rfl,?_⟩)|((with_reducible refine gate_dst (N:=11) rfl ?_);refine Kd.R_lit Kd.string _ 9 ?hg (N:=11) ?hd (xs:=([]:List ByteArray)) (inner:=[]) (ok:=fun _=>True) (okp:=fun _=>True) ?hr ?hp (fun _ hk=>hk) trivial (Below.refl _ _) (Nat.le_refl _) (by simp) ?_;(case hd=>rfl);(case hg=>rfl);(case hr=>first|(go_simp;done)|(go_simp;rfl));(case hp=>exact (Reps.none _ _));intro v31003 w22 ho23 hb hg_ hnew_;clear hg_ hnew_;(first|rw [← Ny2.out] at ho23|(simp only [Int.reduceToNat] at ho23;rw [← Ny2.out] at ho23));have HO4:=zk (Kd.R_lower ho23 (below_size za3));replace HB:=yB HB hb;clear hb ho23))
  go_ret
  exact ⟨_,za15,za1 HO4.out,za3⟩
def spec_WordsUpTo.l0:Nat→Int→List ByteArray→Int→Option (List ByteArray)
 | 0,_,_,_=>none
 | k+1,x0,x3,x4=>if x4≤x0 then (if x4≤5 then ((spec_WordsOfLength.f k x4).bind fun t9004=>(if x3.length+t9004.length < 8796093022208 then (spec_WordsUpTo.l0 k x0 (x3 ++ t9004) (wrap64 (x4+1))) else (none))) else (some x3)) else (some x3)
def spec_WordsUpTo.f (k:Nat) (a0:Int):Option (List ByteArray):=spec_WordsUpTo.l0 k a0 (([]:List ByteArray)) 0
theorem spec_WordsUpTo.mono_l:∀ k,(∀ y0 y1 y2,LeO (spec_WordsUpTo.l0 k y0 y1 y2) (spec_WordsUpTo.l0 (k+1) y0 y1 y2))
 | 0=>fun _ _ _ r h=>by simp [spec_WordsUpTo.l0] at h
 | k+1=>by
  have ih0:=spec_WordsUpTo.mono_l k
  ·intro y0 y1 y2
   unfold spec_WordsUpTo.l0
   repeat' first
   | with_reducible first|exact ih0 _ _ _|exact spec_WordsOfLength.mono _ _|exact LeO.refl _|exact LeO.none _|refine LeO.ite ?_ ?_|refine LeO.bind ?_ (fun _=>?_)
theorem spec_WordsUpTo.mono:∀ a0 k,LeO (spec_WordsUpTo.f k a0) (spec_WordsUpTo.f (k+1) a0):=by
 intro a0 k
 have ih0:=spec_WordsUpTo.mono_l k
 unfold spec_WordsUpTo.f
 repeat' first
  | with_reducible first|exact ih0 _ _ _|exact spec_WordsOfLength.mono _ _|exact LeO.refl _|exact LeO.none _|refine LeO.ite ?_ ?_|refine LeO.bind ?_ (fun _=>?_)
theorem spec_WordsUpTo.calls (k:Nat) (a0:Int) (r:List ByteArray) (w:World) (h:spec_WordsUpTo.f k a0=some r) :
   Calls Try.prog 9 #[.int .i64 a0] w fun e w'=>∃ v0_:Value,e = .returned (v0_)∧Kd.R Kd.string 9 w' w.heap.size (fun _=>True) v0_ r∧Below w.heap.size w w':=by
 have HB:=zk (Below.refl w.heap.size w)
 have H:=h
 unfold spec_WordsUpTo.f at H
 clear h
 obtain ⟨y9001,hy9001⟩:∃ y_:List ByteArray,y_=(([]:List ByteArray)):=⟨_,rfl⟩
 replace H:(spec_WordsUpTo.l0 k a0 y9001 0)=some r:=by first|(rw [hy9001];with_reducible exact H)|(have H2_:=(Option.bind_some _ _).symm.trans H;rw [hy9001];with_reducible exact H2_)|(have H2_:=(Option.bind_some _ _).symm.trans H;with_reducible exact H2_)|with_reducible exact H|(rw [hy9001];exact H)|exact H
 have Ny1:=zk hy9001
 clear hy9001
 have H':=zk H
 clear H
 go_enter Try.func9,Try.ntmps9
 go_wp2_with (first|((with_reducible refine gate_dst (N:=5) rfl ?_);refine Kd.R_lit Kd.string _ 9 ?hg (N:=5) ?hd (xs:=([]:List ByteArray)) (inner:=[]) (ok:=fun _=>True) (okp:=fun _=>True) ?hr ?hp (fun _ hk=>hk) trivial (Below.refl _ _) (Nat.le_refl _) (by simp) ?_;(case hd=>rfl);(case hg=>rfl);(case hr=>first|(go_simp;done)|(go_simp;rfl));(case hp=>exact (Reps.none _ _));intro v2 w2 ho3 hb hg_ hnew_;clear hg_ hnew_;(first|rw [← Ny1.out] at ho3|(simp only [Int.reduceToNat] at ho3;rw [← Ny1.out] at ho3));have HO3:=zk (Kd.R_lower ho3 (below_size za3));replace HB:=yB HB hb;clear hb ho3))
 try simp only [Act.put,zt,zv,zu]
 go_loopg [3,4] k (fun kq v3 v4 w'=>∃ (x3_1:List ByteArray) (x4_1:Int),v4 = .int .i64 x4_1∧Aside0 (spec_WordsUpTo.l0 kq a0 x3_1 x4_1=some r)∧Aside0 (kq≤k)∧Aside0 (Kd.R Kd.string 9 w' w.heap.size (fun _=>True) v3 x3_1)∧Aside0 (Below w.heap.size w w'))
 case atStart=>exact ⟨(y9001),(0),za13,H',⟨Nat.le_refl _⟩,⟨za1 HO3.out⟩,⟨za3⟩⟩
 case round =>
  clear H'
  obtain ⟨x3_1,x4_1,rfl,HA,HK1,HO_3,HB⟩:=hrel
  cases gk with
  | zero=>exact absurd HA.out (by simp [spec_WordsUpTo.l0])
  | succ k1 =>
   have H:=HA.out
   clear HA
   simp only [spec_WordsUpTo.l0] at H
   by_cases c4:x4_1≤a0
   rw [if_pos c4] at H
   have c4b0:=zdle c4
   clear c4
   by_cases c5:x4_1≤5
   rw [if_pos c5] at H
   have c5b0:=zdle c5
   clear c5
   obtain ⟨t4,A6,H⟩:=zO H
   try dsimp only at H
   by_cases c7:x3_1.length+t4.length < 8796093022208
   · rw [if_pos c7] at H
     have LMc7:=zk c7
     clear c7
     obtain ⟨y9007,hy9007⟩:∃ y_:List ByteArray,y_=(x3_1 ++ t4):=⟨_,rfl⟩
     replace H:(spec_WordsUpTo.l0 k1 a0 y9007 (wrap64 (x4_1+1)))=some r:=by first|(rw [hy9007];with_reducible exact H)|(have H2_:=(Option.bind_some _ _).symm.trans H;rw [hy9007];with_reducible exact H2_)|(have H2_:=(Option.bind_some _ _).symm.trans H;with_reducible exact H2_)|with_reducible exact H|(rw [hy9007];exact H)|exact H
     have Ny7:=zk hy9007
     clear hy9007
     have H':=zk H
     clear H
     go_wp2_with (first|((with_reducible refine gate_callee (f:=31) rfl ?_);refine zg (some 17) Try.func31 #[.int .i64 x4_1] rfl za4 ?_;(with_reducible refine (spec_WordsOfLength.calls k1 x4_1 t4 _ A6.out).mono ?_);rintro e w8 ⟨v5,rfl,ho0,hb⟩;refine ⟨_,rfl,?_⟩;have HO6:=zk (Kd.R_lower (Kd.R_new' ho0 (Kd.R_lt (za1 HO_3.out))) (below_size za3));replace HO_3:=zk (Kd.R_elder' (za1 HO_3.out) (Kd.R_base ho0) hb);replace HB:=yB HB hb;(try clear hb ho0);obtain ⟨Ao10,co10,eo10⟩:=Kd.R_slice HO6.out;subst eo10)|((with_reducible refine gate_builtin (b:=.append) (xs:=#[.tmp 15,.tmp 17]) rfl ?_);at_builtin;refine Kd.R_append_rows Kd.string (w0:=w) w.heap.size rfl (.tmp 15) (.tmp 17) 35 9 (.string ⟨#[]⟩) 16 rfl Try.underlying35 info9 rfl (by decide) (by omega) u3 x3_1 t4 _ _ _ (fun k_=>some k_ ≠ (.slice Ao10 t4.length co10:Value).ownBlock) (fun _=>False) rfl rfl ?aO ?aR (fun _ _ h=>h) (fun _ h=>h.elim) ?aF ?aB ?aS ?aL ?_;(case aR=>repeat (first|exact (Kd.R_reads' HO6.out).2.2|(with_reducible refine Kd.C_alloc ?_ _)|(with_reducible refine Kd.C_drewN ?_ _)|(with_reducible refine Kd.C_drew ?_)));(case aB=>exact za3);(case aF=>exact (fun k_ hk=>Kd.fresh' (Kd.R_lt (za1 HO6.out)) k_ hk));(case aO=>exact za63);(case aS=>exact (below_size za3));(case aL=>have:=LMc7.out;omega);intro v8 w9 ho hb hg hat;rw [← Ny7.out] at ho;replace HO6:=zk (Kd.R_after (ok:=(fun _=>True)) (za1 HO6.out) hg hat);replace HB:=zk hb;have HO9:=zk ho;clear HO_3;clear ho hb hg hat))
     go_roundg k1
     case measure=>have:=HK1.out;omega
     case rel=>exact ⟨(y9007),(wrap64 (x4_1+1)),za13,H',⟨za61⟩,⟨by (with_reducible repeat (first|apply Kd.R_alloc|apply Kd.R_drewN|apply Kd.R_drew));exact Kd.R_mono HO9.out (fun _ hk=>trivial)⟩,⟨za3⟩⟩
   · rw [if_neg c7] at H
     exact absurd H (by simp)
   rw [if_neg c5] at H
   have c5b0:=zdnle c5
   clear c5
   rotate_left
   rw [if_neg c4] at H
   have c4b0:=zdnle c4
   clear c4
   rotate_left
   all_goals
    obtain rfl:=zi H
    go_wp2
    go_ret
    exact ⟨_,za15,za1 HO_3.out,za3⟩
def spec_LetterIndex.l0:Nat→Int→Int→Option (Int)
 | 0,_,_=>none
 | k+1,x0,x3=>if x3 < 3 then (if 0≤x3 then (if (bt (⟨#[97,98,99]⟩:ByteArray) x3)=x0 then (some x3) else (spec_LetterIndex.l0 k x0 (wrap64 (x3+1)))) else (none)) else (some (-1))
def spec_LetterIndex.f (k:Nat) (a0:Int):Option (Int):=spec_LetterIndex.l0 k a0 0
theorem spec_LetterIndex.calls (k:Nat) (a0:Int) (r:Int) (w:World) (h:spec_LetterIndex.f k a0=some r) :
   Calls Try.prog 37 #[.int .u8 a0] w fun e w'=>e = .returned (.int .i64 r)∧Drawn0 w w':=by
 have H:=h
 unfold spec_LetterIndex.f at H
 clear h
 have H':=zk H
 clear H
 go_enter Try.func37,Try.ntmps37
 go_wp2
 try simp only [Act.put,zt,zv,zu]
 go_loopg [3] k (fun kq v3 w'=>∃ (x3_1:Int),v3 = .int .i64 x3_1∧Aside0 (spec_LetterIndex.l0 kq a0 x3_1=some r)∧Aside0 (kq≤k)∧Drawn0 w w')
 case atStart=>exact ⟨(0),za13,H',⟨Nat.le_refl _⟩,za25⟩
 case round =>
  clear H'
  obtain ⟨x3_1,rfl,HA,HK1,⟨m1,rfl⟩⟩:=hrel
  cases gk with
  | zero=>exact absurd HA.out (by simp [spec_LetterIndex.l0])
  | succ k1 =>
   have H:=HA.out
   clear HA
   simp only [spec_LetterIndex.l0] at H
   by_cases c2:x3_1 < 3
   rw [if_pos c2] at H
   have c2b0:=zdl c2
   clear c2
   by_cases c3:0≤x3_1
   rw [if_pos c3] at H
   have c3b0:=zdle c3
   clear c3
   by_cases c5:(bt (⟨#[97,98,99]⟩:ByteArray) x3_1)=a0
   ·rw [if_pos c5] at H
    have c5b0:=zbt c5
    have c5b1:=zqn c5
    clear c5
    obtain rfl:=zi H
    have p4:0≤(x3_1:Int):=of_decide_eq_true za7
    have q4:x3_1 < (3:Int):=of_decide_eq_true za7
    have hx4:=bt_at (⟨#[97,98,99]⟩:ByteArray) x3_1
    replace p4:=eq_true p4
    replace q4:=eq_true q4
    go_wp2
    go_ret
    exact ⟨za13,za25⟩
   ·rw [if_neg c5] at H
    have c5b0:=zbn c5
    have c5b1:=zqt c5
    have H':=zk H
    clear H
    have p4:0≤(x3_1:Int):=of_decide_eq_true za7
    have q4:x3_1 < (3:Int):=of_decide_eq_true za7
    have hx4:=bt_at (⟨#[97,98,99]⟩:ByteArray) x3_1
    replace p4:=eq_true p4
    replace q4:=eq_true q4
    go_wp2
    go_roundg k1
    case measure=>have:=HK1.out;omega
    case rel=>exact ⟨(wrap64 (x3_1+1)),za13,H',⟨za61⟩,za25⟩
   ·rw [if_neg c3] at H
    exact absurd H (by simp)
   ·rw [if_neg c2] at H
    have c2b0:=zdnl c2
    clear c2
    obtain rfl:=zi H
    go_wp2
    go_ret
    exact ⟨za13,za25⟩
def spec_IsWord.l0:Nat→ByteArray→Int→Option (Bool)
 | 0,_,_=>none
 | k+1,x0,x3=>if x3 < (x0.size:Int) then (if 0≤x3 then ((spec_LetterIndex.f k (bt x0 x3)).bind fun t36001=>(if t36001 < 0 then (some false) else (spec_IsWord.l0 k x0 (wrap64 (x3+1))))) else (none)) else (some (decide ((x0.size:Int)≤30)))
def spec_IsWord.f (k:Nat) (a0:ByteArray):Option (Bool):=spec_IsWord.l0 k a0 0
theorem spec_IsWord.calls (k:Nat) (a0:ByteArray) (r:Bool) (w:World) (h:spec_IsWord.f k a0=some r) :
   Calls Try.prog 36 #[.string a0] w fun e w'=>e = .returned (.bool r)∧Drawn0 w w':=by
 have H:=h
 unfold spec_IsWord.f at H
 clear h
 have H':=zk H
 clear H
 go_enter Try.func36,Try.ntmps36
 go_wp2
 try simp only [Act.put,zt,zv,zu]
 go_loopg [3] k (fun kq v3 w'=>∃ (x3_1:Int),v3 = .int .i64 x3_1∧Aside0 (spec_IsWord.l0 kq a0 x3_1=some r)∧Aside0 (kq≤k)∧Drawn0 w w')
 case atStart=>exact ⟨(0),za13,H',⟨Nat.le_refl _⟩,za25⟩
 case round =>
  clear H'
  obtain ⟨x3_1,rfl,HA,HK1,⟨m1,rfl⟩⟩:=hrel
  cases gk with
  | zero=>exact absurd HA.out (by simp [spec_IsWord.l0])
  | succ k1 =>
   have H:=HA.out
   clear HA
   simp only [spec_IsWord.l0] at H
   by_cases c2:x3_1 < (a0.size:Int)
   rw [if_pos c2] at H
   have c2b0:=zdl c2
   clear c2
   by_cases c3:0≤x3_1
   rw [if_pos c3] at H
   have c3b0:=zdle c3
   clear c3
   obtain ⟨t1,A5,H⟩:=zO H
   try dsimp only at H
   by_cases c6:t1 < 0
   rw [if_pos c6] at H
   have c6b0:=zdl c6
   clear c6
   obtain rfl:=zi H
   have fin0_:=zk trivial
   rotate_left
   rw [if_neg c6] at H
   have c6b0:=zdnl c6
   clear c6
   have H':=zk H
   clear H
   have fin1_:=zk trivial
   rotate_left
   · rw [if_neg c3] at H
     exact absurd H (by simp)
   · rw [if_neg c2] at H
     have c2b0:=zdnl c2
     clear c2
     obtain rfl:=zi H
     go_wp2
     go_ret
     exact ⟨za13,za25⟩
   all_goals
    have p4:0≤(x3_1:Int):=of_decide_eq_true za7
    have q4:x3_1 < (a0.size:Int):=of_decide_eq_true za7
    have hx4:=bt_at a0 x3_1
    replace p4:=eq_true p4
    replace q4:=eq_true q4
    go_wp2_with (((with_reducible refine gate_callee (f:=37) rfl ?_);refine zg (some 13) Try.func37 #[.int .u8 (bt a0 x3_1)] rfl za4 ?_;(with_reducible refine (spec_LetterIndex.calls k1 (bt a0 x3_1) t1 _ A5.out).mono ?_);rintro e w' ⟨rfl,⟨nd,rfl⟩⟩;refine ⟨_,rfl,?_⟩))
    first
    | (
      clear fin0_
      go_ret
      exact ⟨za13,za25⟩)
    | (
      clear fin1_
      go_roundg k1
      case measure=>have:=HK1.out;omega
      case rel=>exact ⟨(wrap64 (x3_1+1)),za13,H',⟨za61⟩,za25⟩)
end Go.Proofs.Ythkbgoohiinmbaa.A
