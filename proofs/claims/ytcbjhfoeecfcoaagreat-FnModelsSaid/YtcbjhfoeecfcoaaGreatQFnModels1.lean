/- FnModels: what its proof needs, put together by this session's program wip/merge.py out of the texts that wip/xp.py printed and of this session's own. -/
import Derived.Test.YtcbjhfoeecfcoaaGreatQFnModels0
import Derived.Test.YtcbjhfoeecfcoaaGreatProg
import Derived.Lib.Bytealg
import Derived.Lib.Walk
import Derived.Below
import Derived.Deep.Draws
import Derived.Deep.AppendLies
import Derived.Maps.AppendAt
import Derived.OwnWalk
import Derived.Laws.BytesArg
import Derived.Laws.MakeOwn
import Derived.Laws.OwnMore
import Derived.Deep.OwnRows
import Derived.Tactics
import Derived.Lib.ConvBytes
import Derived.Laws.Slices
import Derived.WalkKit
import Derived.KernelRfl
import Derived.RowKit3
import Derived.Deep.LoopGhost
import Derived.Deep.QuietTactic
import Derived.BigQuiet
import Derived.WideLaws
import Derived.Deep.DeepCutAuto
import Derived.Deep.CutBlock
import Derived.Deep.RegionHeld3
import Derived.Laws.Rows
import Derived.Lib.AppendStr
import Derived.ArgAppend
import Derived.Laws.IdiomCopy
import Derived.OrdersHeld
import Derived.Laws.BitsLemmas
import Derived.RowKit
set_option linter.unusedVariables false
set_option linter.unusedSimpArgs false
set_option linter.unusedSectionVars false
set_option maxHeartbeats 8000000
set_option maxRecDepth 100000
namespace Go.Proofs.YtcbjhfoeecfcoaaGreat
open Go Go.RowKit Go.Proofs.YtcbjhfoeecfcoaaGreatW.PrintWords
theorem zk {P : Prop} (h : P) : Aside0 P := ⟨h⟩
theorem zE {P : Program} {ops : Array Oper} {rest : List Oper} {o : Oper} {a : Act} {Q : Exit → Act → World → Prop} {W : World} {cs : Array Value} {t : TypeId} (h : ∀ g, g = W.heap.size → ∀ w1, w1.heap[g]? = some (.cells cs t (0, 0)) → Below W.heap.size W w1 → wpList P ops Q rest (a.put o.dst (.pointer (some ⟨g, 0, none⟩))) w1) (hgd : o.guard = none := by rfl) (hr : (execOp a.eval o).run P W = .ok (.value (.pointer (some ⟨W.heap.size, 0, none⟩))) (W.alloc (.cells cs t (0, 0))) := by first | (go_simp; done) | (go_simp; rfl)) : wpList P ops Q (o :: rest) a W := Kd.event_run hgd hr (h _ rfl _ (blk_new W _) (below_alloc (Below.refl _ _) _))
theorem zO {α β : Type} {o : Option α} {f : α → Option β} {b : β} (h : o.bind f = some b) : ∃ a, Aside0 (o = some a) ∧ f a = some b := by
 obtain ⟨a, h1, h2⟩ := Option.bind_eq_some_iff.mp h
 exact ⟨a, ⟨h1⟩, h2⟩
theorem zff : ¬ (false = true) := by decide
theorem zm {a b c : Nat} (hg : c = b) (h : a < b) : a ≠ c := by omega
theorem zM {a b c : Nat} (hg : c = b) (h : a < b) : c ≠ a := by omega
theorem zb {W0 W1 W2 : World} {g : Nat} {o : Obj} (h : W0.heap[g]? = some o) (hb : Below W1.heap.size W1 W2) (f : W0.heap[g]? = some o → W1.heap[g]? = some o := by intro h_; (with_reducible repeat (first | refine blk_drewN ?_ _ | refine blk_drew ?_ | refine blk_alloc ?_ _)); exact h_) : W2.heap[g]? = some o := blk_below (f h) hb
theorem zl {W0 W1 : World} {g : Nat} {o : Obj} (h : W0.heap[g]? = some o) (f : W0.heap[g]? = some o → W1.heap[g]? = some o := by intro h_; (with_reducible repeat (first | refine blk_drewN ?_ _ | refine blk_drew ?_ | refine blk_alloc ?_ _)); exact h_) : g < W1.heap.size := blk_lt (f h)
theorem zn {W0 W1 : World} {g c : Nat} {o : Obj} (hg : c = W1.heap.size) (h : W0.heap[g]? = some o) (f : W0.heap[g]? = some o → W1.heap[g]? = some o := by intro h_; (with_reducible repeat (first | refine blk_drewN ?_ _ | refine blk_drew ?_ | refine blk_alloc ?_ _)); exact h_) : g ≠ c := by
 rw [hg]
 exact Nat.ne_of_lt (blk_lt (f h))
theorem zp {W0 W1 : World} {g c : Nat} {o : Obj} (hg : c = W1.heap.size) (h : W0.heap[g]? = some o) (f : W0.heap[g]? = some o → W1.heap[g]? = some o := by intro h_; (with_reducible repeat (first | refine blk_drewN ?_ _ | refine blk_drew ?_ | refine blk_alloc ?_ _)); exact h_) : c ≠ g := by
 rw [hg]
 exact Nat.ne_of_gt (blk_lt (f h))
theorem zq {W0 W1 W2 : World} {g b : Nat} {r : Option Nat} {o : Obj} (hk : KeepBut W1 W2 b r) (h : W0.heap[g]? = some o) (n : g ≠ b) (f : W0.heap[g]? = some o → W1.heap[g]? = some o := by intro h_; (with_reducible repeat (first | refine blk_drewN ?_ _ | refine blk_drew ?_ | refine blk_alloc ?_ _)); exact h_) (e : some g ≠ r := by simp) : W2.heap[g]? = some o := KeepBut.blk hk (f h) n e
theorem zF {W0 W1 : World} {g : Nat} {o : Obj} (h : W0.heap[g]? = some o) (k : Nat) (hk : W1.heap.size ≤ k) (f : W0.heap[g]? = some o → W1.heap[g]? = some o := by intro h_; (with_reducible repeat (first | refine blk_drewN ?_ _ | refine blk_drew ?_ | refine blk_alloc ?_ _)); exact h_) : k ≠ g := Kd.freshB (f h) k hk
theorem zg {P : Program} {ops : Array Oper} {Q : Exit → Act → World → Prop} {rest : List Oper} {oi : Oper} {a : Act} {w : World} (N : Option Tmp) {f : FuncId} {fn : Func} {xs : Array Operand} {ts : Array TypeId} (hf : P.funcs[f]? = some fn) (args : Array Value) (hop : oi.op = .call { callee := .value (.func f), args := xs, argTypes := ts }) (hargs : xs.map a.eval = args) (h : Calls P f args w fun e w' => ∃ v, e = .returned v ∧ wpList P ops Q rest (a.put N v) w') (hd : oi.dst = N := by exact rfl) (hg : oi.guard = none := by exact rfl) (hname : (fn.name == "runtime.NumGoroutine") = false := by kernel_rfl) (hb : fn.body.isSome = true := by exact rfl) : wpList P ops Q (oi :: rest) a w := Go.Proofs.YtcbjhfoeecfcoaaGreatW.PrintLast.goesL_ N hd hg hf hname hb args hop hargs h
theorem yb {W0 W1 W2 : World} {g : Nat} {o : Obj} (h : Aside0 (W0.heap[g]? = some o)) (hb : Below W1.heap.size W1 W2) (f : W0.heap[g]? = some o → W1.heap[g]? = some o := by intro h_; (with_reducible repeat (first | refine blk_drewN ?_ _ | refine blk_drew ?_ | refine blk_alloc ?_ _)); exact h_) : Aside0 (W2.heap[g]? = some o) := ⟨blk_below (f h.out) hb⟩
theorem yn {W0 W1 : World} {g c : Nat} {o : Obj} (hg : c = W1.heap.size) (h : Aside0 (W0.heap[g]? = some o)) (f : W0.heap[g]? = some o → W1.heap[g]? = some o := by intro h_; (with_reducible repeat (first | refine blk_drewN ?_ _ | refine blk_drew ?_ | refine blk_alloc ?_ _)); exact h_) : Aside0 (g ≠ c) := ⟨zn hg (f h.out) (fun h => h)⟩
theorem yp {W0 W1 : World} {g c : Nat} {o : Obj} (hg : c = W1.heap.size) (h : Aside0 (W0.heap[g]? = some o)) (f : W0.heap[g]? = some o → W1.heap[g]? = some o := by intro h_; (with_reducible repeat (first | refine blk_drewN ?_ _ | refine blk_drew ?_ | refine blk_alloc ?_ _)); exact h_) : Aside0 (c ≠ g) := ⟨zp hg (f h.out) (fun h => h)⟩
theorem yq {W0 W1 W2 : World} {g b : Nat} {r : Option Nat} {o : Obj} (hk : KeepBut W1 W2 b r) (h : Aside0 (W0.heap[g]? = some o)) (n : Aside0 (g ≠ b)) (f : W0.heap[g]? = some o → W1.heap[g]? = some o := by intro h_; (with_reducible repeat (first | refine blk_drewN ?_ _ | refine blk_drew ?_ | refine blk_alloc ?_ _)); exact h_) (e : some g ≠ r := by simp) : Aside0 (W2.heap[g]? = some o) := ⟨KeepBut.blk hk (f h.out) n.out e⟩
theorem zpw {W0 W : World} {g : Nat} {o o' : Obj} (h : W0.heap[g]? = some o) (f : W0.heap[g]? = some o → W.heap[g]? = some o' := by intro h_; repeat (first | with_reducible exact h_ | with_reducible refine blk_drewN ?_ _ | with_reducible refine blk_drew ?_ | with_reducible refine blk_alloc ?_ _ | with_reducible apply blk_put | with_reducible apply blk_far (hp := Aside0.out (by assumption)) | rfl)) : W.heap[g]? = some o' := f h
theorem yB {w W0 W W2 : World} (h : Aside0 (Below w.heap.size w W0)) (hb : Below W.heap.size W W2) (f : Below w.heap.size w W0 → Below w.heap.size w W := by intro h_; repeat (first | (with_reducible first | exact h_ | apply below_alloc | apply pw_below_drewN | apply below_drew1 | refine below_set ?_ (Aside0.out (by assumption))) | exact h_)) : Aside0 (Below w.heap.size w W2) := ⟨below_step (f h.out) hb⟩
theorem yK {w W0 W W2 : World} {g : Nat} (h : Aside0 (KeepBut w W0 g none)) (hk : KeepBut W W2 g none) (f : KeepBut w W0 g none → KeepBut w W g none := by intro h_; repeat (first | (with_reducible first | exact h_ | apply KeepBut.set_ | apply keep_drewN | apply keep_drew | apply keep_alloc | refine keep_far ?_ (Aside0.out (by assumption)) _) | exact h_)) : Aside0 (KeepBut w W2 g none) := ⟨KeepBut.trans (f h.out) hk (.inl rfl)⟩
theorem yk {w W0 W W2 : World} {g : Nat} (h : Aside0 (KeepBut w W0 g none)) (hb : Below W.heap.size W W2) (f : KeepBut w W0 g none → KeepBut w W g none := by intro h_; repeat (first | (with_reducible first | exact h_ | apply KeepBut.set_ | apply keep_drewN | apply keep_drew | apply keep_alloc | refine keep_far ?_ (Aside0.out (by assumption)) _) | exact h_)) : Aside0 (KeepBut w W2 g none) := ⟨KeepBut.trans (f h.out) (KeepBut.of_below hb g none) (.inl rfl)⟩
theorem zo {α β : Type} {o : Option α} {f : α → Option β} {b : β} (h : o.bind f = some b) : ∃ a, o = some a ∧ f a = some b := Option.bind_eq_some_iff.mp h
theorem zi {α : Type} {a b : α} (h : some a = some b) : a = b := Option.some.inj h
theorem zt {α : Type} (l : List α) (i : Nat) (a : α) : l.toArray.setIfInBounds i a = (l.set i a).toArray := List.setIfInBounds_toArray l i a
theorem zu {α : Type} {x : α} {l : List α} {a : α} : (x :: l).set 0 a = a :: l := List.set_cons_zero
theorem zv {α : Type} {x : α} {l : List α} {n : Nat} {a : α} : (x :: l).set (n + 1) a = x :: l.set n a := List.set_cons_succ
theorem zs {w W : World} {g : Nat} (hg : g = W.heap.size) (hb : Below w.heap.size w W) : w.heap.size ≤ g := by
 rw [hg]
 exact below_size hb
theorem zx {w W : World} {a : Addr} {v : Value} (hB : Below w.heap.size w W) (h : w.cell? a = some v) : W.cell? a = some v := (hB.cell (World.block_lt_of_cell? w _ h)).trans h
theorem za0 {P Q : Prop} (h : Q) (f : Q → P := by intro h_; (with_reducible repeat (first | refine blk_drewN ?_ _ | refine blk_drew ?_ | refine blk_alloc ?_ _)); exact h_) : P := f h
theorem za1 {P Q : Prop} (h : Q) (f : Q → P := by intro h_; (with_reducible repeat ((apply Kd.R_alloc))); exact h_) : P := f h
theorem za2 {P Q : Prop} (h : Q) (f : Q → P := by intro h_; (with_reducible repeat (first | apply Kd.R_alloc | apply Kd.R_drewN | apply Kd.R_drew)); exact h_) : P := f h
theorem za3 {P Q : Prop} (h : Q) (f : Q → P := by intro h_; (with_reducible repeat ((refine blk_drewN ?_ _))); exact h_) : P := f h
theorem za4 {P Q : Prop} (h : Q) (f : Q → P := by intro h_; (with_reducible repeat ((apply Kd.N_alloc))); exact h_) : P := f h
theorem za5 {P Q : Prop} (h : Q) (f : Q → P := by intro h_; (with_reducible repeat ((apply Kd.R_drewN))); exact h_) : P := f h
theorem za6 {P Q : Prop} (h : Q) (f : Q → P := by intro h_; (with_reducible repeat ((apply Kd.N_drewN))); exact h_) : P := f h
theorem za7 {P Q : Prop} (h : Q) (f : Q → P := by intro h_; (with_reducible repeat (first | apply Kd.N_alloc | apply Kd.N_drewN | apply Kd.N_drew)); exact h_) : P := f h
theorem za8 {P : Prop} (h : P := by repeat (((with_reducible first | exact HB.out | apply pw_below_drewN)))) : P := h
theorem za9 {P : Prop} (h : P := by repeat (first | (with_reducible first | exact HB.out | apply below_alloc | apply pw_below_drewN | apply below_drew1 | refine below_set ?_ (Aside0.out (by assumption))) | exact HB.out)) : P := h
theorem za10 {P : Prop} (h : P := by repeat (((with_reducible first | exact HB.out | apply pw_below_drewN | refine below_set ?_ (Aside0.out (by assumption)))))) : P := h
theorem za11 {P : Prop} (h : P := by (try simp only [List.map_toArray, List.map_cons, List.map_nil]); (rfl)) : P := h
theorem za12 {P : Prop} (h : P := by repeat (((with_reducible first | exact HK.out | refine keep_far ?_ GW1.out _)))) : P := h
theorem za13 {P : Prop} (h : P := by repeat (((with_reducible first | exact HI0.out | refine IsS77.far ?_ NB0_1.out _)))) : P := h
theorem za14 {P : Prop} (h : P := by (try simp only [List.map_toArray, List.map_cons, List.map_nil]); first | done | rfl | (simp only [List.length_drop, List.length_take]; rfl)) : P := h
theorem za15 {P : Prop} (h : P := by repeat (((with_reducible first | exact HB.out | refine below_set ?_ (Aside0.out (by assumption)))))) : P := h
theorem za16 {P : Prop} (h : P := by repeat (((with_reducible (exact HK.out))))) : P := h
theorem za17 {P : Prop} (h : P := by repeat (first | (with_reducible first | exact HI0.out | apply IsS77.alloc | apply IsS77.drewN | apply IsS77.drew | apply IsS77.set_1 | apply IsS77.set_2) | exact HI0.out)) : P := h
theorem za18 {P : Prop} (h : P := by repeat (((with_reducible first | exact HB.out | refine below_set ?_ GE1.out)))) : P := h
theorem za19 {P : Prop} (h : P := by repeat (first | (with_reducible first | exact HB.out | apply below_alloc | apply pw_below_drewN | apply below_drew1 | refine below_set ?_ (IsS77.ge HI0.out)) | exact HB.out)) : P := h
theorem za20 {P : Prop} (h : P := by repeat (first | exact Drawn0.refl _ | apply Drawn0.step)) : P := h
theorem za21 {P : Prop} (h : P := by repeat (first | (with_reducible first | exact HK.out | apply KeepBut.set_ | apply keep_drewN | apply keep_drew | apply keep_alloc) | exact HK.out)) : P := h
theorem za22 {P : Prop} (h : P := by repeat (((with_reducible (exact HB.out))))) : P := h
theorem za23 {P : Prop} (h : P := by first | rfl | (simp; done) | (simp [*]; done)) : P := h
theorem za24 {P : Prop} (h : P := by first | rfl | (simp [errW_none, errW_some] <;> rfl) | (simp [*, errW_none, errW_some] <;> rfl)) : P := h
theorem za25 {P : Prop} (h : P := by ((with_reducible assumption))) : P := h
theorem za26 {P : Prop} (h : P := by repeat (((with_reducible first | exact HI0.out | refine IsS77.far ?_ NB0_1.out _ | refine IsS77.far ?_ NB0_16.out _)))) : P := h
theorem za27 {P : Prop} (h : P := by repeat (((with_reducible (exact HI0.out))))) : P := h
theorem za28 {P : Prop} (h : P := by repeat (first | (with_reducible first | exact HB.out | apply below_alloc | apply pw_below_drewN | apply below_drew1 | refine below_set ?_ (IsS77.ge HI5.out) | refine below_set ?_ GE1.out) | exact HB.out)) : P := h
theorem za29 {P : Prop} (h : P := by repeat (((with_reducible first | exact HK.out | refine keep_far ?_ GW1.out _ | refine keep_far ?_ GW16.out _)))) : P := h
theorem za30 {P : Prop} (h : P := by repeat (((with_reducible first | exact HK.out | apply keep_drewN | refine keep_far ?_ GW1.out _ | refine keep_far ?_ GW37.out _)))) : P := h
theorem za31 {P : Prop} (h : P := by repeat (((with_reducible first | exact HB.out | apply pw_below_drewN | refine below_set ?_ GE1.out | refine below_set ?_ GE2.out | refine below_set ?_ GE18.out)))) : P := h
theorem za32 {P : Prop} (h : P := by repeat (((with_reducible first | exact HK.out | refine keep_far ?_ GW1.out _ | refine keep_far ?_ GW7.out _)))) : P := h
theorem za33 {P : Prop} (h : P := by first | rfl | (simp [*]; done)) : P := h
theorem za34 {P : Prop} (h : P := by repeat (((with_reducible first | exact HI0.out | apply IsS77.drewN)))) : P := h
theorem za35 {P : Prop} (h : P := by repeat (((with_reducible first | exact HK.out | apply keep_drewN)))) : P := h
theorem za36 {P : Prop} (h : P := by first | (with_reducible assumption) | assumption) : P := h
theorem za37 {P : Prop} (h : P := by repeat (first | (with_reducible first | exact HI5.out | apply IsS77.alloc | apply IsS77.drewN | apply IsS77.drew | apply IsS77.set_1 | apply IsS77.set_2 | refine IsS77.far ?_ NB5_1.out _) | exact HI5.out)) : P := h
theorem za38 {P : Prop} (h : P := by repeat (((with_reducible first | exact HB.out | refine below_set ?_ GE1.out | refine below_set ?_ GE16.out)))) : P := h
theorem za39 {P : Prop} (h : P := by first | exact HBc.out | exact below_drew HBc.out | exact pw_below_drewN HBc.out _) : P := h
theorem za40 {P : Prop} (h : P := by repeat (((with_reducible first | exact HI0.out | apply IsS77.drewN | refine IsS77.far ?_ NB0_1.out _ | refine IsS77.far ?_ NB0_37.out _)))) : P := h
theorem za41 {P : Prop} (h : P := by repeat (((with_reducible first | exact HK.out | refine keep_far ?_ GW1.out _ | refine keep_far ?_ GW2.out _)))) : P := h
theorem za42 {P : Prop} (h : P := by repeat (((with_reducible first | exact HI0.out | refine IsS77.far ?_ NB0_1.out _ | refine IsS77.far ?_ NB0_7.out _)))) : P := h
theorem za43 {P : Prop} (h : P := by have := HK1.out; omega) : P := h
theorem za44 {P : Prop} (h : P := by repeat (((with_reducible first | exact HB.out | apply pw_below_drewN | refine below_set ?_ GE1.out | refine below_set ?_ GE37.out)))) : P := h
theorem za45 {P : Prop} (h : P := by repeat (((with_reducible first | exact HI0.out | refine IsS77.far ?_ NB0_1.out _ | refine IsS77.far ?_ NB0_2.out _)))) : P := h
theorem za46 {P : Prop} (h : P := by repeat (((with_reducible first | exact HI6.out | apply IsS77.drewN | refine IsS77.far ?_ NB6_18.out _)))) : P := h
theorem za47 {P : Prop} (h : P := by repeat (((with_reducible first | exact HB.out | refine below_set ?_ GE1.out | refine below_set ?_ GE7.out)))) : P := h
theorem za48 {P : Prop} (h : P := by (with_reducible repeat ((apply Kd.N_alloc))); exact (Kd.N_mono (zfN (zfN (zfN (zfN (zfN (zfN (zfN (zfN (Kd.N_mono HO9.out (fun k_ hk => (⟨hk, hk.2⟩ : _ ∧ k_ ≠ gb16))))))))))) (fun _ h_ => h_.1))) : P := h
theorem za49 {P : Prop} (h : P := by repeat (((with_reducible first | exact HK.out | refine keep_far ?_ GW1.out _ | refine keep_far ?_ GW80.out _)))) : P := h
theorem za50 {P : Prop} (h : P := by repeat (((with_reducible first | exact HK.out | refine keep_far ?_ GW1.out _ | refine keep_far ?_ GW62.out _)))) : P := h
theorem za51 {P : Prop} (h : P := by repeat (((with_reducible first | exact HK.out | refine keep_far ?_ GW1.out _ | refine keep_far ?_ GW44.out _)))) : P := h
theorem za52 {P : Prop} (h : P := by repeat (((with_reducible first | exact HB.out | refine below_set ?_ GE1.out | refine below_set ?_ GE2.out)))) : P := h
theorem za53 {P : Prop} (h : P := by (with_reducible repeat ((apply Kd.R_drewN))); exact (Kd.R_mono (zfR (zfR (zfR (zfR (zfR (zfR (zfR (zfR (Kd.R_types HO12.out BK16.out (by decide)))))))))) (fun _ h_ => h_.1))) : P := h
theorem za54 {P : Prop} (h : P := by repeat (first | (with_reducible first | exact HBW.out | apply below_alloc | apply pw_below_drewN | apply below_drew1) | exact HBW.out)) : P := h
theorem za55 {P : Prop} (h : P := by have := HN.out; omega) : P := h
theorem za56 {P : Prop} (h : P := by have h_ := Kd.N_away HX18.out (fun _ hk => hk.2.2.1); intro e_; exact h_ (by rw [e_]; rfl)) : P := h
theorem za57 {P : Prop} (h : P := by have h_ := Kd.N_away HX18.out (fun _ hk => hk.2.1); intro e_; exact h_ (by rw [e_]; rfl)) : P := h
theorem za58 {P : Prop} (h : P := by repeat (((with_reducible first | exact HI0.out | refine IsS77.far ?_ NB0_1.out _ | refine IsS77.far ?_ NB0_80.out _)))) : P := h
theorem za59 {P : Prop} (h : P := by repeat (((with_reducible first | exact HI0.out | refine IsS77.far ?_ NB0_1.out _ | refine IsS77.far ?_ NB0_62.out _)))) : P := h
theorem za60 {P : Prop} (h : P := by repeat (((with_reducible first | exact HI0.out | refine IsS77.far ?_ NB0_1.out _ | refine IsS77.far ?_ NB0_44.out _)))) : P := h
theorem za61 {P : Prop} (h : P := by have := HW.out; have := N3.out; omega) : P := h
theorem za62 {P : Prop} (h : P := by (with_reducible repeat ((apply Kd.R_alloc))); exact Kd.R_mono (zfR (zfR (zfR (Kd.R_mono HO_13.out (fun k_ hk => (⟨hk, hk.2⟩ : _ ∧ k_ ≠ gb8)))))) (fun _ hk => ⟨hk.1.1.1, ⟨hk.1.1.2, hk.1.2⟩⟩)) : P := h
theorem za63 {P : Prop} (h : P := by repeat (first | (with_reducible first | exact HI0.out | apply IsS77.alloc | apply IsS77.drewN | apply IsS77.drew | apply IsS77.set_1 | apply IsS77.set_2 | refine IsS77.far ?_ NB0_1.out _) | exact HI0.out)) : P := h
theorem za64 {P : Prop} (h : P := by first | exact Kd.R_nil _ _ _ _ _ | exact Kd.N_nil _ _ _ _ _) : P := h
theorem za65 {P : Prop} (h : P := by repeat (first | (with_reducible first | exact HB.out | apply below_alloc | apply pw_below_drewN | apply below_drew1 | refine below_set ?_ (IsS77.ge HI0.out) | refine below_set ?_ GE1.out) | exact HB.out)) : P := h
theorem za66 {P : Prop} (h : P := by simp only [putAll, Act.put, List.setIfInBounds_toArray, List.set_cons_zero, List.set_cons_succ]) : P := h
theorem za67 {P : Prop} (h : P := by repeat (first | (with_reducible first | exact HK.out | apply KeepBut.set_ | apply keep_drewN | apply keep_drew | apply keep_alloc | refine keep_far ?_ GW1.out _) | exact HK.out)) : P := h
theorem za68 {P : Prop} (h : P := by (with_reducible repeat ((apply Kd.R_alloc))); exact Kd.R_mono HO_3.out (fun _ hk => hk.2)) : P := h
theorem za69 {P : Prop} (h : P := by repeat (((with_reducible first | exact HB.out | refine below_set ?_ GE1.out | refine below_set ?_ GE80.out)))) : P := h
theorem za70 {P : Prop} (h : P := by repeat (((with_reducible first | exact HB.out | refine below_set ?_ GE1.out | refine below_set ?_ GE62.out)))) : P := h
theorem za71 {P : Prop} (h : P := by repeat (((with_reducible first | exact HB.out | refine below_set ?_ GE1.out | refine below_set ?_ GE44.out)))) : P := h
theorem za72 {P : Prop} (h : P := by (with_reducible repeat ((apply Kd.N_drewN))); exact (Kd.N_mono (zfN (Kd.N_mono HO4.out (fun k_ hk => (⟨hk, hk.2⟩ : _ ∧ k_ ≠ gb33007)))) (fun _ h_ => h_.1))) : P := h
theorem za73 {P : Prop} (h : P := by repeat (((with_reducible first | exact HI6.out | refine IsS77.far ?_ NB6_12.out _)))) : P := h
theorem za74 {P : Prop} (h : P := by first | rfl | (rw [e1]; done) | (rw [e2]; done) | (simp; done)) : P := h
theorem za75 {P : Prop} (h : P := by repeat (((with_reducible first | exact HB.out | refine below_set ?_ GE12.out)))) : P := h
theorem za76 {P : Prop} (h : P := by (with_reducible repeat ((apply Kd.R_drewN))); exact Kd.R_mono HO42.out (fun _ hk => ⟨hk.1.1, hk.2⟩)) : P := h
theorem za77 {P : Prop} (h : P := by rw [e id (Nat.le_refl _) (by omega)]; exact h.1 i j) : P := h
theorem za78 {P : Prop} (h : P := by (with_reducible repeat ((apply Kd.R_alloc))); exact Kd.R_mono (zfR (zfR (zfR (Kd.R_mono HO_13.out (fun k_ hk => (⟨hk, hk.2.1⟩ : _ ∧ k_ ≠ gb3)))))) (fun _ hk => ⟨hk.1.1, hk.1.2.1⟩)) : P := h
theorem za79 {P : Prop} (h : P := by rw [bytesOf_length]; omega) : P := h
theorem za80 {P : Prop} (h : P := by have := HJ2.out; have := HJ30.out; have := HJ71.out; omega) : P := h
theorem za81 {P : Prop} (h : P := by (with_reducible repeat ((apply Kd.N_drewN))); exact (Kd.N_mono (zfN (zfN (zfN (Kd.N_mono HO9.out (fun k_ hk => (⟨hk, hk.2⟩ : _ ∧ k_ ≠ gb18)))))) (fun _ h_ => h_.1))) : P := h
theorem za82 {P : Prop} (h : P := by (with_reducible repeat ((apply Kd.N_alloc))); exact (Kd.N_mono (zfN (zfN (zfN (Kd.N_mono HO4.out (fun k_ hk => (⟨hk, hk.2⟩ : _ ∧ k_ ≠ gb17)))))) (fun _ h_ => h_.1))) : P := h
theorem za83 {P : Prop} (h : P := by repeat (((with_reducible (exact HI6.out))))) : P := h
theorem za84 {P : Prop} (h : P := by have := HK1.out; have := HK2.out; have := HK3.out; omega) : P := h
theorem za85 {P : Prop} (h : P := by have := HJ2.out; have := HJ8.out; have := HK3.out; omega) : P := h
theorem za86 {P : Prop} (h : P := by repeat (first | (with_reducible first | exact HB.out | apply below_alloc | apply pw_below_drewN | apply below_drew1 | refine below_set ?_ GE1.out) | exact HB.out)) : P := h
theorem za87 {P : Prop} (h : P := by rw [ByteArray.size_append]; omega) : P := h
theorem za88 {P : Prop} (h : P := by have := HQ.out; omega) : P := h
theorem za89 {P : Prop} (h : P := by (with_reducible repeat ((apply Kd.N_alloc))); exact (Kd.N_mono (zfN (Kd.N_mono HO4.out (fun k_ hk => (⟨hk, hk.2⟩ : _ ∧ k_ ≠ gb6)))) (fun _ h_ => h_.1))) : P := h
theorem za90 {P : Prop} (h : P := by repeat (first | exact B3.out | apply pw_below_drewN)) : P := h
theorem za91 {P : Prop} (h : P := by have := HK2.out; omega) : P := h
theorem za92 {P : Prop} (h : P := by have := G3.out; have := N3.out; omega) : P := h
theorem za93 {P : Prop} (h : P := by first | rfl | (simp; done)) : P := h
theorem za94 {P : Prop} (h : P := by first | exact Kd.R_nil _ _ _ _ _ | exact Kd.N_nil _ _ _ _ _ | exact Kd.V_nil _ _ _ _ _ | exact Kd.Q_nil _ _ _ _ _ | exact Kd.S_nil _ _ _ _ _) : P := h
end Go.Proofs.YtcbjhfoeecfcoaaGreat
namespace Go.Proofs.YtcbjhfoeecfcoaaGreat.Ext
open Go.RowKit YtcbjhfoeecfcoaaGreatW.PrintWords
theorem blk1 {w:World} {g:Nat} {t:TypeId} {a0:Value} (h:w.heap[g]? = some (.cells #[a0] t (0,0))):w.cell? ⟨g,0,none⟩=some a0∧w.frozen? ⟨g,0,none⟩=false:=⟨(blk_cell h 0).trans rfl,blk_frozen h 0⟩
theorem blk3 {w:World} {g:Nat} {t:TypeId} {a0 a1 a2:Value} (h:w.heap[g]? = some (.cells #[a0,a1,a2] t (0,0))):w.cell? ⟨g,0,none⟩=some a0∧w.cell? ⟨g,1,none⟩=some a1∧w.cell? ⟨g,2,none⟩=some a2∧w.frozen? ⟨g,0,none⟩=false∧w.frozen? ⟨g,1,none⟩=false∧w.frozen? ⟨g,2,none⟩=false:=⟨(blk_cell h 0).trans rfl,(blk_cell h 1).trans rfl,(blk_cell h 2).trans rfl,blk_frozen h 0,blk_frozen h 1,blk_frozen h 2⟩
theorem blk4 {w:World} {g:Nat} {t:TypeId} {a0 a1 a2 a3:Value} (h:w.heap[g]? = some (.cells #[a0,a1,a2,a3] t (0,0))):w.cell? ⟨g,0,none⟩=some a0∧w.cell? ⟨g,1,none⟩=some a1∧w.cell? ⟨g,2,none⟩=some a2∧w.cell? ⟨g,3,none⟩=some a3∧w.frozen? ⟨g,0,none⟩=false∧w.frozen? ⟨g,1,none⟩=false∧w.frozen? ⟨g,2,none⟩=false∧w.frozen? ⟨g,3,none⟩=false:=⟨(blk_cell h 0).trans rfl,(blk_cell h 1).trans rfl,(blk_cell h 2).trans rfl,(blk_cell h 3).trans rfl,blk_frozen h 0,blk_frozen h 1,blk_frozen h 2,blk_frozen h 3⟩
theorem blk8 {w:World} {g:Nat} {t:TypeId} {a0 a1 a2 a3 a4 a5 a6 a7:Value} (h:w.heap[g]? = some (.cells #[a0,a1,a2,a3,a4,a5,a6,a7] t (0,0))):w.cell? ⟨g,0,none⟩=some a0∧w.cell? ⟨g,1,none⟩=some a1∧w.cell? ⟨g,2,none⟩=some a2∧w.cell? ⟨g,3,none⟩=some a3∧w.cell? ⟨g,4,none⟩=some a4∧w.cell? ⟨g,5,none⟩=some a5∧w.cell? ⟨g,6,none⟩=some a6∧w.cell? ⟨g,7,none⟩=some a7∧w.frozen? ⟨g,0,none⟩=false∧w.frozen? ⟨g,1,none⟩=false∧w.frozen? ⟨g,2,none⟩=false∧w.frozen? ⟨g,3,none⟩=false∧w.frozen? ⟨g,4,none⟩=false∧w.frozen? ⟨g,5,none⟩=false∧w.frozen? ⟨g,6,none⟩=false∧w.frozen? ⟨g,7,none⟩=false:=⟨(blk_cell h 0).trans rfl,(blk_cell h 1).trans rfl,(blk_cell h 2).trans rfl,(blk_cell h 3).trans rfl,(blk_cell h 4).trans rfl,(blk_cell h 5).trans rfl,(blk_cell h 6).trans rfl,(blk_cell h 7).trans rfl,blk_frozen h 0,blk_frozen h 1,blk_frozen h 2,blk_frozen h 3,blk_frozen h 4,blk_frozen h 5,blk_frozen h 6,blk_frozen h 7⟩
-- EXT strings.IndexByte
def strings_IndexByte.f (s:ByteArray) (c:Int):Option Int:=some (Lib.indexByte s.data.toList c.toNat.toUInt8)
theorem stringslite_run (s:ByteArray) (c:Int) (w:World) :
  Calls Tryz.prog 79 #[.string s,.int .u8 c] w fun e w'=>e = .returned (.int .i64 (Lib.indexByte s.data.toList c.toNat.toUInt8))∧w'=w:=by
 go_enter Tryz.func79,Tryz.ntmps79
 go_wp2
 rw [run_callFunc_extern Tryz.func101 (by kernel_rfl) (by kernel_rfl) (by kernel_rfl) (e:=Extern.BytealgIndexByte.indexByte) (by kernel_rfl),Lib.run_indexByteString]
 simp only [Result.andThen]
 rw [Oper.upon_value]
 go_wp2
 go_ret
 exact ⟨rfl,rfl⟩
theorem strings_IndexByte.calls (s:ByteArray) (c:Int) (r:Int) (w:World) (h:strings_IndexByte.f s c=some r) :
  Calls Tryz.prog 56 #[.string s,.int .u8 c] w fun e w'=>e = .returned (.int .i64 r)∧Drawn0 w w':=by
 obtain rfl:=zi h
 go_enter Tryz.func56,Tryz.ntmps56
 go_wp2_with (go_at_call 79;refine (stringslite_run _ _ _).mono ?_;rintro e w' ⟨rfl,rfl⟩)
 go_ret
 exact ⟨rfl,Drawn0.refl _⟩
end Go.Proofs.YtcbjhfoeecfcoaaGreat.Ext
namespace Go.Proofs.YtcbjhfoeecfcoaaGreat.Ext
open Go Go.RowKit YtcbjhfoeecfcoaaGreatW.PrintWords YtcbjhfoeecfcoaaGreatW.PrintLast YtcbjhfoeecfcoaaGreatW.PrintMore
theorem zsz0:(⟨#[]⟩:ByteArray).size=0:=rfl
theorem zsz1 {a:UInt8} : (⟨#[a]⟩:ByteArray).size=1:=rfl
theorem zsz2 {a b:UInt8} : (⟨#[a,b]⟩:ByteArray).size=2:=rfl
theorem zsz3 {a b c:UInt8} : (⟨#[a,b,c]⟩:ByteArray).size=3:=rfl
theorem zsz4 {a b c d:UInt8} : (⟨#[a,b,c,d]⟩:ByteArray).size=4:=rfl
theorem zsz5 {a b c d e:UInt8} : (⟨#[a,b,c,d,e]⟩:ByteArray).size=5:=rfl
theorem zrr {p:Prop} (h:p:=by first|with_reducible rfl|(rw [if_neg (by omega)];done)|(rw [if_neg (by (try simp only [decide_eq_true_eq,decide_eq_false_iff_not,eq_iff_iff,iff_true,iff_false] at *);(try simp only [ByteArray.size_extract,ByteArray.size_append,zsz0,zsz1,zsz2,zsz3,zsz4,zsz5] at *);omega)];done)):p:=h
theorem zpu {W0 W:World} {g:Nat} {o o':Obj} (h:W0.heap[g]? = some o) (f:W0.heap[g]? = some o→W.heap[g]? = some o':=by intro h_;repeat (first|with_reducible exact h_|with_reducible refine blk_drewN ?_ _|with_reducible refine blk_drew ?_|with_reducible refine blk_alloc ?_ _|with_reducible apply blk_put|with_reducible refine blk_far ?_ (Aside0.out (by assumption)) _|rfl)):W.heap[g]? = some o':=f h
theorem zdl {α:Type} [LT α] {a b:α} [Decidable (a < b)] (h:a < b):decide (a < b)=true:=decide_eq_true h
theorem zdle {α:Type} [LE α] {a b:α} [Decidable (a≤b)] (h:a≤b):decide (a≤b)=true:=decide_eq_true h
theorem zdnl {α:Type} [LT α] {a b:α} [Decidable (a < b)] (h:¬ a < b):decide (a < b)=false:=decide_eq_false h
theorem zdnle {α:Type} [LE α] {a b:α} [Decidable (a≤b)] (h:¬ a≤b):decide (a≤b)=false:=decide_eq_false h
theorem zbt {α:Type} [BEq α] [LawfulBEq α] {a b:α} (h:a=b):(a == b)=true:=beq_iff_eq.mpr h
theorem zbn {α:Type} [BEq α] [LawfulBEq α] {a b:α} (h:¬ a=b):(a == b)=false:=beq_eq_false_iff_ne.mpr h
theorem zqt {α:Type} [BEq α] [LawfulBEq α] {a b:α} (h:¬ a=b):(a != b)=true:=bne_iff_ne.mpr h
theorem zqn {α:Type} [BEq α] [LawfulBEq α] {a b:α} (h:a=b):(a != b)=false:=bne_eq_false_iff_eq.mpr h
section
variable {α : Type} {d : Kd α} {e base g i : Nat} {ok : Nat → Prop} {w : World} {v u : Value} {xs : List α}
theorem zfN (h:Kd.N d e w base (fun k=>ok k∧k ≠ g) v xs):Kd.N d e (w.setCell ⟨g,i,none⟩ u) base (fun k=>ok k∧k ≠ g) v xs:=Kd.N_far h (fun _ hk=>hk.2) u
theorem zfR (h:Kd.R d e w base (fun k=>ok k∧k ≠ g) v xs):Kd.R d e (w.setCell ⟨g,i,none⟩ u) base (fun k=>ok k∧k ≠ g) v xs:=Kd.R_far h (fun _ hk=>hk.2) u
end
section
variable {P : Program} {ops : Array Oper} {Q : Exit → Act → World → Prop} {md : Region.Mode} {S : World → Prop} {ds : List Nat}
theorem zy (i:Nat) (N:Option Tmp) {T:Bool × List (List Nat × List Nat)} (hT:rtab md ops=T) {oi:Oper} {v:Value} {fuel:Nat} {l l':Array Bool} {a a':Act} {w:World}
 (h:wpAnyLast P md ops Q S ds fuel l' a' w) (hi:ops[i]? = some oi:=by rfl) (hN:oi.dst=N:=by rfl)
 (hl:l.setIfInBounds i true=l':=by simp only [zt,zv,zu];rfl)
 (hc:anyT T l.toList l'.toList i=true:=by kernel_rfl) (hw:Region.wanted oi (yielded ops a.tmps)=true:=by rfl)
 (hy:∀ w,(execOp a.eval oi).run P w = .ok (.value v) w:=by intro w';go_simp;exact zrr)
 (ha:a.put N v=a':=by simp only [Act.put,zt,zv,zu,i64_w,i32_w];rfl)
 (hQ:∀ c a w,Q (.panic c) (a.put oi.dst v) w→Q (.panic c) a w:=by exact fun _ _ _ h=>h) :
 wpAnyLast P md ops Q S ds (fuel+1) l a w:=pure_ l' hi hN (any_of hT hc) hQ (.inl ⟨hw,hy⟩) ha h
theorem zyk (i:Nat) (N:Option Tmp) {oi:Oper} {v:Value} {fuel:Nat} {l l':Array Bool} {a a':Act} {w:World}
 (h:wpAnyLast P md ops Q S ds fuel l' a' w) (hi:ops[i]? = some oi:=by rfl) (hN:oi.dst=N:=by rfl) (hl:l.setIfInBounds i true=l':=by simp only [zt,zv,zu];rfl)
 (hc:anyB md ops l l' i=true:=by kernel_rfl) (hw:Region.wanted oi (yielded ops a.tmps)=true:=by rfl)
 (hy:∀ w,(execOp a.eval oi).run P w = .ok (.value v) w:=by intro w';go_simp;exact zrr) (ha:a.put N v=a':=by simp only [Act.put,zt,zv,zu,i64_w,i32_w];rfl)
 (hQ:∀ c a w,Q (.panic c) (a.put oi.dst v) w→Q (.panic c) a w:=by exact fun _ _ _ h=>h) :
 wpAnyLast P md ops Q S ds (fuel+1) l a w:=pure_ l' hi hN hc hQ (.inl ⟨hw,hy⟩) ha h
theorem zyu (i:Nat) (N:Option Tmp) {T:Bool × List (List Nat × List Nat)} (hT:rtab md ops=T) {oi:Oper} {fuel:Nat} {l l':Array Bool} {a a':Act} {w:World}
 (h:wpAnyLast P md ops Q S ds fuel l' a' w) (hi:ops[i]? = some oi:=by rfl) (hN:oi.dst=N:=by rfl) (hl:l.setIfInBounds i true=l':=by simp only [zt,zv,zu];rfl)
 (hc:anyT T l.toList l'.toList i=true:=by kernel_rfl) (hw:Region.wanted oi (yielded ops a.tmps)=false:=by rfl) (ha:a.put N undef=a':=by simp only [Act.put,zt,zv,zu,i64_w,i32_w];rfl)
 (hQ:∀ c a w,Q (.panic c) (a.put oi.dst undef) w→Q (.panic c) a w:=by exact fun _ _ _ h=>h) :
 wpAnyLast P md ops Q S ds (fuel+1) l a w:=pure_ l' hi hN (any_of hT hc) hQ (.inr ⟨hw,rfl⟩) ha h
theorem ztk (i:Nat) (N:Option Tmp) {T:Bool × List (List Nat × List Nat)} (hT:rtab md ops=T) {B:List Nat} (hB:waitsOk T.2 B=true) {oi:Oper} {v:Value} {fuel:Nat} {l l':Array Bool} {a a':Act} {w:World}
 (hS:S w) (h:wpAnyLast P md ops Q S ds fuel l' a' w) (hi:ops[i]? = some oi:=by rfl) (hN:oi.dst=N:=by rfl) (hl:l.setIfInBounds i true=l':=by simp only [zt,zv,zu];rfl)
 (hc:takeW T B ds l.toList l'.toList i=true:=by kernel_rfl) (hw:Region.wanted oi (yielded ops a.tmps)=true:=by rfl)
 (hy:∀ w,S w→(execOp a.eval oi).run P w = .ok (.value v) w:=by intro w' hs_;(repeat obtain ⟨_,hs_⟩:=hs_);go_simp;exact zrr) (ha:a.put N v=a':=by simp only [Act.put,zt,zv,zu,i64_w,i32_w];rfl)
 (hQ:∀ c a w,Q (.panic c) (a.put oi.dst v) w→Q (.panic c) a w:=by exact fun _ _ _ h=>h) :
 wpAnyLast P md ops Q S ds (fuel+1) l a w:=take_ l' hi hN (take_ofW hT hB hc) hQ (.inl ⟨hw,hy⟩) hS ha h
theorem ztkk (i:Nat) (N:Option Tmp) {oi:Oper} {v:Value} {fuel:Nat} {l l':Array Bool} {a a':Act} {w:World}
 (hS:S w) (h:wpAnyLast P md ops Q S ds fuel l' a' w) (hi:ops[i]? = some oi:=by rfl) (hN:oi.dst=N:=by rfl) (hl:l.setIfInBounds i true=l':=by simp only [zt,zv,zu];rfl)
 (hc:takeB md ops ds l l' i=true:=by kernel_rfl) (hw:Region.wanted oi (yielded ops a.tmps)=true:=by rfl)
 (hy:∀ w,S w→(execOp a.eval oi).run P w = .ok (.value v) w:=by intro w' hs_;(repeat obtain ⟨_,hs_⟩:=hs_);go_simp;exact zrr) (ha:a.put N v=a':=by simp only [Act.put,zt,zv,zu,i64_w,i32_w];rfl)
 (hQ:∀ c a w,Q (.panic c) (a.put oi.dst v) w→Q (.panic c) a w:=by exact fun _ _ _ h=>h) :
 wpAnyLast P md ops Q S ds (fuel+1) l a w:=take_ l' hi hN hc hQ (.inl ⟨hw,hy⟩) hS ha h
theorem zno (N:Option Tmp) {v:Value} {fuel:Nat} {l:Array Bool} {a0 a':Act} {w:World} (h:wpAnyLast P md ops Q S ds fuel l a' w) (ha:a0.put N v=a':=by simp only [Act.put,zt,zv,zu,i64_w,i32_w];rfl) :
 wpAnyLast P md ops Q S ds fuel l (a0.put N v) w:=norm_ ha h
theorem zon (i:Nat) (N:Option Tmp) {T:Bool × List (List Nat × List Nat)} (hT:rtab md ops=T) {oi:Oper} {fuel:Nat} {l l':Array Bool} {a:Act} {w:World}
 (h:∀ K:Act→World→Prop,Shut (∀ a' w',S w'→(S w'→wpAnyLast P md ops Q S ds fuel l' a' w')→K a' w')→if Region.wanted oi (yielded ops a.tmps)=true then Oper.wp P oi a w K Q else K (a.put N undef) w)
 (hi:ops[i]? = some oi:=by rfl) (hN:oi.dst=N:=by rfl) (hl:l.setIfInBounds i true=l':=by simp only [zt,zv,zu];rfl) (hc:(readyT T.2 l.toList == [i] && l.toList.set i true == l'.toList)=true:=by kernel_rfl) (hd:i ∉ ds:=by decide) :
 wpAnyLast P md ops Q S ds (fuel+1) l a w:=one_ l' hi hN (one_of hT hc) hd h
end
end Go.Proofs.YtcbjhfoeecfcoaaGreat.Ext
namespace Go.Proofs.YtcbjhfoeecfcoaaGreat.A
open Go.RowKit YtcbjhfoeecfcoaaGreat.Ext YtcbjhfoeecfcoaaGreatW.PrintWords YtcbjhfoeecfcoaaGreatW.PrintLast YtcbjhfoeecfcoaaGreatW.PrintMore
attribute [local go_sem] max2_int min2_int max_two min_two max_three min_three max_four min_four
def errW:Option Int→Value
 | none => .nilIface
 | some c => .iface 0 (.int .i64 c)
theorem errW_none:errW none = .nilIface:=rfl
theorem errW_some (c:Int):errW (some c) = .iface 0 (.int .i64 c):=rfl
theorem info3:(Tryz.prog.info? 3).map (fun i=>(i.zero,i.size,i.bytes))=some (some (.int .i64 0),1,8):=by kernel_rfl
theorem info9:(Tryz.prog.info? 9).map (fun i=>(i.zero,i.size,i.bytes))=some (some (.string ⟨#[]⟩),1,16):=by kernel_rfl
theorem info32:(Tryz.prog.info? 32).map (fun i=>(i.zero,i.size,i.bytes))=some (some (.agg #[(.string ⟨#[]⟩),(.string ⟨#[]⟩),(.string ⟨#[]⟩)]),3,48):=by kernel_rfl
theorem info56:(Tryz.prog.info? 56).map (fun i=>(i.zero,i.size,i.bytes))=some (some (.agg #[(.int .i64 0),(.string ⟨#[]⟩),(.string ⟨#[]⟩),(.int .i64 0),(.string ⟨#[]⟩),(.slice none 0 0),(.slice none 0 0),(.int .i64 0)]),8,120):=by kernel_rfl
-- the values' own types
/-! #### struct type 54, nested in itself -/
structure S54 where
 f0:Int
 f1:ByteArray
 f2:(List S54)
def z54:S54:=⟨(0:Int),(⟨#[]⟩:ByteArray),([]:List S54)⟩
def F54 (d:Kd S54):Kd S54:=Kd.iso (Kd.pair (Kd.int .i64) (Kd.pair Kd.string (Kd.slice 54 d))) (fun x:S54=>(x.f0,x.f1,x.f2))
theorem mono54:Kd.Mono F54:=Kd.mono_iso _ (Kd.mono_pair (Kd.mono_const _) (Kd.mono_pair (Kd.mono_const _) (Kd.mono_slice 54 Kd.mono_id)))
theorem sub54:Kd.Sub F54 [54]:=Kd.sub_iso _ (Kd.sub_pair (Kd.sub_const _ (by decide)) (Kd.sub_pair (Kd.sub_const _ (by decide)) (Kd.sub_slice 54 (by decide) Kd.sub_id)))
theorem sz54:∀ n,(Kd.upto F54 3 [54] n).sz=3:=Kd.upto_sz (fun _=>rfl)
def k54:Kd S54:=Kd.fix F54 3 [54] sz54 (Kd.upto_E sub54)
theorem k54_heap:Kd.Heap k54:=Kd.heap_fix (fun _ h_=>Kd.heap_iso _ (Kd.heap_pair (Kd.heap_int .i64) (Kd.heap_pair Kd.heap_string (Kd.heap_slice 54 h_))))
theorem k54_open {w:World} {x:S54} {cs:List Value} (h:k54.K w x cs):∃ A2 c2,cs = [.int .i64 x.f0,.string x.f1,.slice A2 x.f2.length c2]∧x.f2.length≤c2∧k54.C w A2 x.f2.length x.f2:=by
 obtain ⟨n,h⟩:=h
 cases n with
 | zero=>exact h.elim
 | succ n =>
  obtain ⟨_,_,rfl,rfl,⟨_,_,rfl,rfl,⟨A2,c2,rfl,l2,g2⟩⟩⟩:=h
  exact ⟨A2,c2,rfl,l2,Kd.fix_C g2⟩
theorem k54_mk (w:World) (x:S54) {A2:Option Addr} {c2:Nat} (l2:x.f2.length≤c2) (g2:k54.C w A2 x.f2.length x.f2):k54.K w x [.int .i64 x.f0,.string x.f1,.slice A2 x.f2.length c2]:=by
 obtain ⟨n2,q2⟩:=Kd.fix_C_back mono54 g2
 have r2:=Kd.upto_C_le mono54 sz54 (show n2≤n2 by omega) q2
 exact ⟨n2+1,⟨[.int .i64 x.f0],[.string x.f1,.slice A2 x.f2.length c2],rfl,rfl,⟨[.string x.f1],[.slice A2 x.f2.length c2],rfl,rfl,⟨A2,c2,rfl,l2,r2⟩⟩⟩⟩
theorem k54_mkF (W:World) (ok:Nat→Prop) (x:S54) {A2:Option Addr} {c2:Nat} (l2:x.f2.length≤c2) (g2:Kd.F k54 W ok A2 x.f2.length x.f2):Kd.FK k54 W ok x [.int .i64 x.f0,.string x.f1,.slice A2 x.f2.length c2]:=fun W2 hW=>k54_mk W2 x l2 (g2 W2 hW)
def rd_T54 (xs:List S54) (i:Int):S54:=xs.getD i.toNat z54
theorem at_T54 {w:World} {A:Option Addr} {n:Nat} {xs:List S54} (h:Kd.C k54 w A n xs) (i:Int) (h0:0≤i) (h1:i < n):∃ ad A2 c2,A=some ad∧w.cell? (ad.add (i.toNat * 3))=some (.int .i64 (rd_T54 xs i).f0)∧w.cell? ⟨(ad.add (i.toNat * 3)).block,(ad.add (i.toNat * 3)).off+1,none⟩=some (.string (rd_T54 xs i).f1)∧w.cell? ⟨(ad.add (i.toNat * 3)).block,(ad.add (i.toNat * 3)).off+2,none⟩=some (.slice A2 (rd_T54 xs i).f2.length c2)∧(rd_T54 xs i).f2.length≤c2∧k54.C w A2 (rd_T54 xs i).f2.length (rd_T54 xs i).f2:=by
 obtain ⟨ad,c,e,_,hK,hc0⟩:=Kd.C_get h z54 i h0 h1
 have hc:∀ j u,c[j]? = some u→w.cell? (ad.add (i.toNat * 3+j))=some u:=hc0
 obtain ⟨A2,c2,rfl,l2,g2⟩:=k54_open hK
 exact ⟨ad,A2,c2,e,hc 0 _ rfl,by rw [← add_field _ _ 1 (by omega)];exact hc 1 _ rfl,by rw [← add_field _ _ 2 (by omega)];exact hc 2 _ rfl,l2,g2⟩
/-! #### struct type 56 -/
structure S56 where
 f0:Int
 f1:ByteArray
 f2:ByteArray
 f3:S54
 f4:(List Int)
 f5:Int
def z56:S56:=⟨(0:Int),(⟨#[]⟩:ByteArray),(⟨#[]⟩:ByteArray),z54,([]:List Int),(0:Int)⟩
def k56:Kd S56:=Kd.iso (Kd.pair (Kd.int .i64) (Kd.pair Kd.string (Kd.pair Kd.string (Kd.pair k54 (Kd.pair (Kd.slice 3 (Kd.int .i64)) (Kd.int .i64)))))) (fun x:S56=>(x.f0,x.f1,x.f2,x.f3,x.f4,x.f5))
theorem k56_heap:Kd.Heap k56:=Kd.heap_iso _ (Kd.heap_pair (Kd.heap_int .i64) (Kd.heap_pair Kd.heap_string (Kd.heap_pair Kd.heap_string (Kd.heap_pair k54_heap (Kd.heap_pair (Kd.heap_slice 3 (Kd.heap_int .i64)) (Kd.heap_int .i64))))))
theorem k56_open {w:World} {x:S56} {cs:List Value} (h:k56.K w x cs):∃ A5 c5 A6 c6,cs = [.int .i64 x.f0,.string x.f1,.string x.f2,.int .i64 x.f3.f0,.string x.f3.f1,.slice A5 x.f3.f2.length c5,.slice A6 x.f4.length c6,.int .i64 x.f5]∧x.f3.f2.length≤c5∧k54.C w A5 x.f3.f2.length x.f3.f2∧x.f4.length≤c6∧(Kd.int .i64).C w A6 x.f4.length x.f4:=by
 obtain ⟨_,_,rfl,rfl,⟨_,_,rfl,rfl,⟨_,_,rfl,rfl,⟨_,_,rfl,s3,⟨_,_,rfl,⟨A6,c6,rfl,l6,g6⟩,rfl⟩⟩⟩⟩⟩:=h
 obtain ⟨A5,c5,rfl,l5,g5⟩:=k54_open s3
 exact ⟨A5,c5,A6,c6,rfl,l5,g5,l6,g6⟩
theorem k56_mk (w:World) (x:S56) {A5:Option Addr} {c5:Nat} (l5:x.f3.f2.length≤c5) (g5:k54.C w A5 x.f3.f2.length x.f3.f2) {A6:Option Addr} {c6:Nat} (l6:x.f4.length≤c6) (g6:(Kd.int .i64).C w A6 x.f4.length x.f4):k56.K w x [.int .i64 x.f0,.string x.f1,.string x.f2,.int .i64 x.f3.f0,.string x.f3.f1,.slice A5 x.f3.f2.length c5,.slice A6 x.f4.length c6,.int .i64 x.f5]:=⟨[.int .i64 x.f0],[.string x.f1,.string x.f2,.int .i64 x.f3.f0,.string x.f3.f1,.slice A5 x.f3.f2.length c5,.slice A6 x.f4.length c6,.int .i64 x.f5],rfl,rfl,⟨[.string x.f1],[.string x.f2,.int .i64 x.f3.f0,.string x.f3.f1,.slice A5 x.f3.f2.length c5,.slice A6 x.f4.length c6,.int .i64 x.f5],rfl,rfl,⟨[.string x.f2],[.int .i64 x.f3.f0,.string x.f3.f1,.slice A5 x.f3.f2.length c5,.slice A6 x.f4.length c6,.int .i64 x.f5],rfl,rfl,⟨[.int .i64 x.f3.f0,.string x.f3.f1,.slice A5 x.f3.f2.length c5],[.slice A6 x.f4.length c6,.int .i64 x.f5],rfl,(k54_mk w x.f3 l5 g5),⟨[.slice A6 x.f4.length c6],[.int .i64 x.f5],rfl,⟨A6,c6,rfl,l6,g6⟩,rfl⟩⟩⟩⟩⟩
theorem k56_openF {W:World} {ok:Nat→Prop} {x:S56} {cs:List Value} (h:Kd.FK k56 W ok x cs):∃ A5 c5 A6 c6,cs = [.int .i64 x.f0,.string x.f1,.string x.f2,.int .i64 x.f3.f0,.string x.f3.f1,.slice A5 x.f3.f2.length c5,.slice A6 x.f4.length c6,.int .i64 x.f5]∧x.f3.f2.length≤c5∧Kd.F k54 W ok A5 x.f3.f2.length x.f3.f2∧x.f4.length≤c6∧Kd.F (Kd.int .i64) W ok A6 x.f4.length x.f4:=by
 obtain ⟨A5,c5,A6,c6,rfl,l5,_,l6,_⟩:=k56_open (Kd.FK_now h)
 exact ⟨A5,c5,A6,c6,rfl,l5,(fun W' hW=>by obtain ⟨A5_,c5_,A6_,c6_,he,l5_,g5_,l6_,g6_⟩:=k56_open (h W' hW);injection (zi (show some (Value.slice A5 x.f3.f2.length c5)=some (Value.slice A5_ x.f3.f2.length c5_) from congrArg (fun l=>l[5]?) he)) with ha_ _ _;rw [ha_];exact g5_),l6,(fun W' hW=>by obtain ⟨A5_,c5_,A6_,c6_,he,l5_,g5_,l6_,g6_⟩:=k56_open (h W' hW);injection (zi (show some (Value.slice A6 x.f4.length c6)=some (Value.slice A6_ x.f4.length c6_) from congrArg (fun l=>l[6]?) he)) with ha_ _ _;rw [ha_];exact g6_)⟩
theorem k56_mkF (W:World) (ok:Nat→Prop) (x:S56) {A5:Option Addr} {c5:Nat} (l5:x.f3.f2.length≤c5) (g5:Kd.F k54 W ok A5 x.f3.f2.length x.f3.f2) {A6:Option Addr} {c6:Nat} (l6:x.f4.length≤c6) (g6:Kd.F (Kd.int .i64) W ok A6 x.f4.length x.f4):Kd.FK k56 W ok x [.int .i64 x.f0,.string x.f1,.string x.f2,.int .i64 x.f3.f0,.string x.f3.f1,.slice A5 x.f3.f2.length c5,.slice A6 x.f4.length c6,.int .i64 x.f5]:=fun W2 hW=>k56_mk W2 x l5 (g5 W2 hW) l6 (g6 W2 hW)
def rd_T56 (xs:List S56) (i:Int):S56:=xs.getD i.toNat z56
theorem at_T56 {w:World} {A:Option Addr} {n:Nat} {xs:List S56} (h:Kd.C k56 w A n xs) (i:Int) (h0:0≤i) (h1:i < n):∃ ad A5 c5 A6 c6,A=some ad∧w.cell? (ad.add (i.toNat * 8))=some (.int .i64 (rd_T56 xs i).f0)∧w.cell? ⟨(ad.add (i.toNat * 8)).block,(ad.add (i.toNat * 8)).off+1,none⟩=some (.string (rd_T56 xs i).f1)∧w.cell? ⟨(ad.add (i.toNat * 8)).block,(ad.add (i.toNat * 8)).off+2,none⟩=some (.string (rd_T56 xs i).f2)∧w.cell? ⟨(ad.add (i.toNat * 8)).block,(ad.add (i.toNat * 8)).off+3,none⟩=some (.int .i64 (rd_T56 xs i).f3.f0)∧w.cell? ⟨(ad.add (i.toNat * 8)).block,(ad.add (i.toNat * 8)).off+4,none⟩=some (.string (rd_T56 xs i).f3.f1)∧w.cell? ⟨(ad.add (i.toNat * 8)).block,(ad.add (i.toNat * 8)).off+5,none⟩=some (.slice A5 (rd_T56 xs i).f3.f2.length c5)∧w.cell? ⟨(ad.add (i.toNat * 8)).block,(ad.add (i.toNat * 8)).off+6,none⟩=some (.slice A6 (rd_T56 xs i).f4.length c6)∧w.cell? ⟨(ad.add (i.toNat * 8)).block,(ad.add (i.toNat * 8)).off+7,none⟩=some (.int .i64 (rd_T56 xs i).f5)∧(rd_T56 xs i).f3.f2.length≤c5∧k54.C w A5 (rd_T56 xs i).f3.f2.length (rd_T56 xs i).f3.f2∧(rd_T56 xs i).f4.length≤c6∧(Kd.int .i64).C w A6 (rd_T56 xs i).f4.length (rd_T56 xs i).f4:=by
 obtain ⟨ad,c,e,_,hK,hc0⟩:=Kd.C_get h z56 i h0 h1
 have hc:∀ j u,c[j]? = some u→w.cell? (ad.add (i.toNat * 8+j))=some u:=hc0
 obtain ⟨A5,c5,A6,c6,rfl,l5,g5,l6,g6⟩:=k56_open hK
 exact ⟨ad,A5,c5,A6,c6,e,hc 0 _ rfl,by rw [← add_field _ _ 1 (by omega)];exact hc 1 _ rfl,by rw [← add_field _ _ 2 (by omega)];exact hc 2 _ rfl,by rw [← add_field _ _ 3 (by omega)];exact hc 3 _ rfl,by rw [← add_field _ _ 4 (by omega)];exact hc 4 _ rfl,by rw [← add_field _ _ 5 (by omega)];exact hc 5 _ rfl,by rw [← add_field _ _ 6 (by omega)];exact hc 6 _ rfl,by rw [← add_field _ _ 7 (by omega)];exact hc 7 _ rfl,l5,g5,l6,g6⟩
/-! #### struct type 32 -/
structure S32 where
 f0:ByteArray
 f1:ByteArray
 f2:ByteArray
def z32:S32:=⟨(⟨#[]⟩:ByteArray),(⟨#[]⟩:ByteArray),(⟨#[]⟩:ByteArray)⟩
def k32:Kd S32:=Kd.iso (Kd.pair Kd.string (Kd.pair Kd.string Kd.string)) (fun x:S32=>(x.f0,x.f1,x.f2))
theorem k32_open {w:World} {x:S32} {cs:List Value} (h:k32.K w x cs):cs = [.string x.f0,.string x.f1,.string x.f2]:=by
 obtain ⟨_,_,rfl,rfl,⟨_,_,rfl,rfl,rfl⟩⟩:=h
 exact rfl
theorem k32_mkM (w:World) (base:Nat) (ok:Nat→Prop) (x:S32)  : k32.M w base ok x [.string x.f0,.string x.f1,.string x.f2]:=⟨[.string x.f0],[.string x.f1,.string x.f2],rfl,rfl,⟨[.string x.f1],[.string x.f2],rfl,rfl,rfl⟩⟩
def rd_T32 (xs:List S32) (i:Int):S32:=xs.getD i.toNat z32
theorem at_T32 {w:World} {A:Option Addr} {n:Nat} {xs:List S32} (h:Kd.C k32 w A n xs) (i:Int) (h0:0≤i) (h1:i < n):∃ ad ,A=some ad∧w.cell? (ad.add (i.toNat * 3))=some (.string (rd_T32 xs i).f0)∧w.cell? ⟨(ad.add (i.toNat * 3)).block,(ad.add (i.toNat * 3)).off+1,none⟩=some (.string (rd_T32 xs i).f1)∧w.cell? ⟨(ad.add (i.toNat * 3)).block,(ad.add (i.toNat * 3)).off+2,none⟩=some (.string (rd_T32 xs i).f2):=by
 obtain ⟨ad,c,e,_,hK,hc0⟩:=Kd.C_get h z32 i h0 h1
 have hc:∀ j u,c[j]? = some u→w.cell? (ad.add (i.toNat * 3+j))=some u:=hc0
 obtain rfl:=k32_open hK
 exact ⟨ad,e,hc 0 _ rfl,by rw [← add_field _ _ 1 (by omega)];exact hc 1 _ rfl,by rw [← add_field _ _ 2 (by omega)];exact hc 2 _ rfl⟩
def laws_big.f (l0:List Int):Option (Bool):=some (decide ((l0.length:Int) > 1048576))
theorem laws_big.calls (A0:Option Addr) (c0:Nat) (l0:List Int) (r:Bool) (w:World) (hr0:Kd.C (Kd.int .u8) w A0 l0.length l0) (hc0:l0.length≤c0) (h:laws_big.f l0=some r) :
  Calls Tryz.prog 4 #[.slice A0 l0.length c0] w fun e w'=>e = .returned (.bool r)∧Drawn0 w w':=by
 have HR0:=zk hr0
 have HC0:=zk hc0
 clear hr0 hc0
 have H:=h
 unfold laws_big.f at H
 clear h
 obtain rfl:=zi H
 go_enter Tryz.func4,Tryz.ntmps4
 go_wp2
 go_ret
 exact ⟨za23,za20⟩
def IsS77 (w0 W:World) (g:Nat) (f0:List Int) (f1:Int) (f2:Int):Prop:=∃ A0 c0,W.heap[g]? = some (.cells #[.slice A0 f0.length c0,.int .i64 f1,.int .i64 f2] 77 (0,0))∧w0.heap.size≤g∧Kd.C (Kd.int .u8) w0 A0 f0.length f0
theorem IsS77.grown {w0 W:World} {g:Nat} {f0:List Int} {f1:Int} {f2:Int} {W1:World} {row:Option Nat} (h:IsS77 w0 W g f0 f1 f2) (hw:W.grownBy W1 row) (hne:some g ≠ row):IsS77 w0 W1 g f0 f1 f2:=by
 obtain ⟨A0,c0,hb,hg,hr0⟩:=h
 exact ⟨A0,c0,blk_grown hb hw hne,hg,hr0⟩
theorem IsS77.own_neN {w0 W:World} {g:Nat} {f0:List Int} {f1:Int} {f2:Int} {α:Type} {d:Kd α} {e:Nat} {base:Nat} {ok:Nat→Prop} {v:Value} {xs:List α} (h:IsS77 w0 W g f0 f1 f2) (ho:Kd.N d e W base ok v xs) (ht:e ≠ 77):some g ≠ v.ownBlock:=by
 obtain ⟨A0,c0,hb,hg,hr0⟩:=h
 exact Kd.N_ne ho hb ht
theorem IsS77.fresh {w0 W:World} {g:Nat} {f0:List Int} {f1:Int} {f2:Int} (h:IsS77 w0 W g f0 f1 f2):∀ k,W.heap.size≤k→k ≠ g:=by
 obtain ⟨A0,c0,hb,hg,hr0⟩:=h
 exact Kd.freshB hb
theorem IsS77.kept {w0 W:World} {g:Nat} {f0:List Int} {f1:Int} {f2:Int} {W1:World} {S:Nat→Prop} (h:IsS77 w0 W g f0 f1 f2) (hk:Kept W W1 S) (hne:¬ S g):IsS77 w0 W1 g f0 f1 f2:=by
 obtain ⟨A0,c0,hb,hg,hr0⟩:=h
 exact ⟨A0,c0,blk_kept hb hk hne,hg,hr0⟩
theorem IsS77.below {w0 W:World} {g:Nat} {f0:List Int} {f1:Int} {f2:Int} {W1:World} (h:IsS77 w0 W g f0 f1 f2) (hw:Below W.heap.size W W1):IsS77 w0 W1 g f0 f1 f2:=h.grown (grown_of_below hw none) (by simp)
theorem IsS77.alloc {w0 W:World} {g:Nat} {f0:List Int} {f1:Int} {f2:Int} (h:IsS77 w0 W g f0 f1 f2) (o:Obj):IsS77 w0 (W.alloc o) g f0 f1 f2:=h.below (below_alloc (Below.refl _ _) o)
theorem IsS77.drewN {w0 W:World} {g:Nat} {f0:List Int} {f1:Int} {f2:Int} (h:IsS77 w0 W g f0 f1 f2) (m:Nat):IsS77 w0 (W.drewN m) g f0 f1 f2:=h
theorem IsS77.drew {w0 W:World} {g:Nat} {f0:List Int} {f1:Int} {f2:Int} (h:IsS77 w0 W g f0 f1 f2):IsS77 w0 W.drew g f0 f1 f2:=h
theorem IsS77.at_ {w0 W:World} {g:Nat} {f0:List Int} {f1:Int} {f2:Int} {w':World} {m:Nat} (hq:W.drewN m=w') (h:IsS77 w0 W g f0 f1 f2):IsS77 w0 w' g f0 f1 f2:=by subst hq;exact IsS77.drewN h m
theorem IsS77.apart {w0 W:World} {g:Nat} {f0:List Int} {f1:Int} {f2:Int} {α:Type} {d:Kd α} {e:Nat} {base:Nat} {ok:Nat→Prop} {v:Value} {xs:List α} (h:IsS77 w0 W g f0 f1 f2) (ho:d.R e W base ok v xs) (ht:∀ q,q ∈ e :: d.E→q ≠ 77):d.R e W base (fun k=>ok k∧k ≠ g) v xs:=by
 obtain ⟨A0,c0,hb,hg,hr0⟩:=h
 exact Kd.R_types ho hb ht
theorem IsS77.own_ne {w0 W:World} {g:Nat} {f0:List Int} {f1:Int} {f2:Int} {α:Type} {d:Kd α} {e:Nat} {base:Nat} {ok:Nat→Prop} {v:Value} {xs:List α} (h:IsS77 w0 W g f0 f1 f2) (ho:d.R e W base ok v xs) (ht:e ≠ 77):some g ≠ v.ownBlock:=by
 obtain ⟨A0,c0,hb,hg,hr0⟩:=h
 exact Kd.R_ne ho hb ht
theorem IsS77.lt {w0 W:World} {g:Nat} {f0:List Int} {f1:Int} {f2:Int} (h:IsS77 w0 W g f0 f1 f2):g < W.heap.size:=by
 obtain ⟨A0,c0,hb,hg,hr0⟩:=h
 exact blk_lt hb
theorem IsS77.ge {w0 W:World} {g:Nat} {f0:List Int} {f1:Int} {f2:Int} (h:IsS77 w0 W g f0 f1 f2):w0.heap.size≤g:=by
 obtain ⟨A0,c0,hb,hg,hr0⟩:=h
 exact hg
theorem IsS77.ne_blk {w0 W:World} {g:Nat} {f0:List Int} {f1:Int} {f2:Int} {a:Nat} {cs:Array Value} {t:TypeId} {fr:Nat × Nat} (h:IsS77 w0 W g f0 f1 f2) (hb2:W.heap[a]? = some (.cells cs t fr)) (ht:t ≠ 77):g ≠ a:=by
 obtain ⟨A0,c0,hb,hg,hr0⟩:=h
 rintro rfl
 rw [hb] at hb2
 injection hb2 with hb2
 injection hb2 with _ ht2
 exact ht ht2.symm
theorem IsS77.far {w0 W:World} {g:Nat} {f0:List Int} {f1:Int} {f2:Int} {p:Addr} (h:IsS77 w0 W g f0 f1 f2) (hne:g ≠ p.block) (u:Value):IsS77 w0 (W.setCell p u) g f0 f1 f2:=by
 obtain ⟨A0,c0,hb,hg,hr0⟩:=h
 exact ⟨A0,c0,blk_far hb hne u,hg,hr0⟩
theorem cellS77_0 {W:World} {g:Nat} {A0:Option Addr} {c0:Nat} {f0:List Int} {f1:Int} {f2:Int} (h:W.heap[g]? = some (.cells #[.slice A0 f0.length c0,.int .i64 f1,.int .i64 f2] 77 (0,0))):W.cell? ⟨g,0,none⟩=some (.slice A0 f0.length c0):=(blk_cell h 0).trans rfl
theorem cellS77_1 {W:World} {g:Nat} {A0:Option Addr} {c0:Nat} {f0:List Int} {f1:Int} {f2:Int} (h:W.heap[g]? = some (.cells #[.slice A0 f0.length c0,.int .i64 f1,.int .i64 f2] 77 (0,0))):W.cell? ⟨g,1,none⟩=some (.int .i64 f1):=(blk_cell h 1).trans rfl
theorem IsS77.set_1 {w0 W:World} {g:Nat} {f0:List Int} {f1:Int} {f2:Int} (h:IsS77 w0 W g f0 f1 f2) (x:Int):IsS77 w0 (W.setCell ⟨g,1,none⟩ (.int .i64 x)) g f0 x f2:=by
 obtain ⟨A0,c0,hb,hg,hr0⟩:=h
 exact ⟨A0,c0,by simpa using blk_set hb 1 (.int .i64 x),hg,hr0⟩
theorem cellS77_2 {W:World} {g:Nat} {A0:Option Addr} {c0:Nat} {f0:List Int} {f1:Int} {f2:Int} (h:W.heap[g]? = some (.cells #[.slice A0 f0.length c0,.int .i64 f1,.int .i64 f2] 77 (0,0))):W.cell? ⟨g,2,none⟩=some (.int .i64 f2):=(blk_cell h 2).trans rfl
theorem IsS77.set_2 {w0 W:World} {g:Nat} {f0:List Int} {f1:Int} {f2:Int} (h:IsS77 w0 W g f0 f1 f2) (x:Int):IsS77 w0 (W.setCell ⟨g,2,none⟩ (.int .i64 x)) g f0 f1 x:=by
 obtain ⟨A0,c0,hb,hg,hr0⟩:=h
 exact ⟨A0,c0,by simpa using blk_set hb 2 (.int .i64 x),hg,hr0⟩
theorem IsS77.new (w0 W:World) (A0:Option Addr) (c0:Nat) (f0:List Int) (f1:Int) (f2:Int) (hB:Below w0.heap.size w0 W) (hr0:Kd.C (Kd.int .u8) w0 A0 f0.length f0):IsS77 w0 (W.alloc (.cells #[.slice A0 f0.length c0,.int .i64 f1,.int .i64 f2] 77)) W.heap.size f0 f1 f2:=⟨A0,c0,by simpa using heap_alloc_new W _,hB.size,hr0⟩
def spec_l1New.l0:Nat→List Int→Int→Int→Option (List Int × Int × Int)
 | 0,_,_,_=>none
 | k+1,x0,x3,x4=>if x4 < (x0.length:Int) then (if x4 < 4000 then (if 0≤x4 then (spec_l1New.l0 k x0 (Go.bits .and .i64 (wrap64 ((wrap64 ((wrap64 (x3 * 131))+(wrap64 (rd x0 x4))))+7)) 1073741823) (wrap64 (x4+1))) else (none)) else (some (x0,0,x3))) else (some (x0,0,x3))
def spec_l1New.f (k:Nat) (l0:List Int):Option (List Int × Int × Int):=spec_l1New.l0 k l0 (wrap64 (26583+(l0.length:Int))) 0
theorem spec_l1New.calls (k:Nat) (A0:Option Addr) (c0:Nat) (l0:List Int) (r1:List Int) (r2:Int) (r3:Int) (w0 w:World) (hB:Below w0.heap.size w0 w) (hr0:Kd.C (Kd.int .u8) w0 A0 l0.length l0) (hc0:l0.length≤c0) (h:spec_l1New.f k l0=some (r1,r2,r3)) :
   Calls Tryz.prog 32 #[.slice A0 l0.length c0] w fun e w'=>∃ g_:Nat,e = .returned (.pointer (some ⟨g_,0,none⟩))∧IsS77 w0 w' g_ r1 r2 r3∧Below w0.heap.size w0 w'∧Below w.heap.size w w':=by
 have hu77:=Tryz.underlying77
 have HR0:=zk hr0
 have HC0:=zk hc0
 clear hr0 hc0
 have HBW:=zk (Below.refl w.heap.size w)
 have HW0:=zk hB.size
 have HB:=zk hB
 clear hB
 have H:=h
 unfold spec_l1New.f at H
 clear h
 have H':=zk H
 clear H
 go_enter Tryz.func32,Tryz.ntmps32
 go_wp2
 try simp only [Act.put,zt,zv,zu]
 go_loopg [3,4] k (fun kq v3 v4 w'=>∃ (x3_1:Int) (x4_1:Int),v3 = .int .i64 x3_1∧v4 = .int .i64 x4_1∧Aside0 (spec_l1New.l0 kq l0 x3_1 x4_1=some (r1,r2,r3))∧Aside0 (kq≤k)∧Aside0 (Below w0.heap.size w0 w')∧Aside0 (Below w.heap.size w w'))
 case atStart=>exact ⟨(wrap64 (26583+(l0.length:Int))),(0),za23,za23,H',⟨Nat.le_refl _⟩,⟨za9⟩,⟨za54⟩⟩
 case round =>
  clear H'
  obtain ⟨x3_1,x4_1,rfl,rfl,HA,HK1,HB,HBW⟩:=hrel
  cases gk with
  | zero=>exact absurd HA.out (by simp [spec_l1New.l0])
  | succ k1 =>
   have H:=HA.out
   clear HA
   simp only [spec_l1New.l0] at H
   by_cases c2:x4_1 < (l0.length:Int)
   rw [if_pos c2] at H
   have c2b0:=zdl c2
   clear c2
   by_cases c3:x4_1 < 4000
   rw [if_pos c3] at H
   have c3b0:=zdl c3
   clear c3
   by_cases c4:0≤x4_1
   ·rw [if_pos c4] at H
    have c4b0:=zdle c4
    clear c4
    have H':=zk H
    clear H
    have p32001:0≤(x4_1:Int):=of_decide_eq_true za36
    have q32001:x4_1 < (l0.length:Int):=of_decide_eq_true za36
    obtain ⟨ad32001,e32001,hx32001_0⟩:=Kd.at_int HR0.out x4_1 p32001 q32001
    cases e32001
    replace hx32001_0:=pw_cell_below HB.out hx32001_0
    replace p32001:=eq_true p32001
    replace q32001:=eq_true q32001
    go_wp2
    go_roundg k1
    case measure=>have:=HK1.out;omega
    case rel=>exact ⟨(Go.bits .and .i64 (wrap64 ((wrap64 ((wrap64 (x3_1 * 131))+(wrap64 (rd l0 x4_1))))+7)) 1073741823),(wrap64 (x4_1+1)),za23,za23,H',⟨za43⟩,⟨za9⟩,⟨za54⟩⟩
   ·rw [if_neg c4] at H
    exact absurd H (by simp)
   ·rw [if_neg c3] at H
    have c3b0:=zdnl c3
    clear c3
    simp only [Option.some.injEq,Prod.mk.injEq] at H
    obtain ⟨rfl,rfl,rfl⟩:=H
    go_wp2_with (first|((with_reducible refine gate_dst (N:=31) rfl ?_);refine zE (cs:=#[.slice A0 l0.length c0,.int .i64 0,.int .i64 x3_1]) (t:=77) ?_;intro gb2 hg w5 hbox hb;replace HB:=yB HB hb;have BK2:=zk hbox;have GW2:=zk (zs (w:=w) hg za54);have GE2:=zk ((Nat.le_trans HW0.out (by rw [hg];exact (below_size za54):w.heap.size≤gb2):w0.heap.size≤gb2));replace HBW:=zk (below_step HBW.out hb);clear hb hbox hg))
    go_ret
    exact ⟨_,rfl,(show IsS77 w0 _ gb2 l0 0 x3_1 from ⟨_,_,za0 BK2.out,GE2.out,HR0.out⟩),za9,by repeat (first|(with_reducible first|exact HBW.out|apply below_alloc|apply pw_below_drewN|apply below_drew1|refine below_set ?_ GW2.out)|exact HBW.out)⟩
   ·rw [if_neg c2] at H
    have c2b0:=zdnl c2
    clear c2
    simp only [Option.some.injEq,Prod.mk.injEq] at H
    obtain ⟨rfl,rfl,rfl⟩:=H
    go_wp2_with (first|((with_reducible refine gate_dst (N:=31) rfl ?_);refine zE (cs:=#[.slice A0 l0.length c0,.int .i64 0,.int .i64 x3_1]) (t:=77) ?_;intro gb3 hg w6 hbox hb;replace HB:=yB HB hb;have BK3:=zk hbox;have GW3:=zk (zs (w:=w) hg za54);have GE3:=zk ((Nat.le_trans HW0.out (by rw [hg];exact (below_size za54):w.heap.size≤gb3):w0.heap.size≤gb3));replace HBW:=zk (below_step HBW.out hb);clear hb hbox hg))
    go_ret
    exact ⟨_,rfl,(show IsS77 w0 _ gb3 l0 0 x3_1 from ⟨_,_,za0 BK3.out,GE3.out,HR0.out⟩),za9,by repeat (first|(with_reducible first|exact HBW.out|apply below_alloc|apply pw_below_drewN|apply below_drew1|refine below_set ?_ GW3.out)|exact HBW.out)⟩
def spec_l1Byte.f (s0_0:List Int) (s0_1:Int) (s0_2:Int):Option (Int × Int × Int):=if s0_1 < (s0_0.length:Int) then (if 0≤s0_1 then (some (Go.bits .and .i64 (wrap64 ((Go.bits .and .i64 (Go.bits .xor .i64 ((wrap64 ((wrap64 (s0_2 * 6364136223846793005))+1442695040888963407)) / 8589934592) ((wrap64 ((wrap64 (s0_2 * 6364136223846793005))+1442695040888963407)) / 35184372088832)) 255)+(wrap64 (rd s0_0 s0_1)))) 255,wrap64 (s0_1+1),wrap64 ((wrap64 (s0_2 * 6364136223846793005))+1442695040888963407))) else (none)) else (some (Go.bits .and .i64 (Go.bits .xor .i64 ((wrap64 ((wrap64 (s0_2 * 6364136223846793005))+1442695040888963407)) / 8589934592) ((wrap64 ((wrap64 (s0_2 * 6364136223846793005))+1442695040888963407)) / 35184372088832)) 255,s0_1,wrap64 ((wrap64 (s0_2 * 6364136223846793005))+1442695040888963407)))
theorem spec_l1Byte.calls (g:Nat) (s0_0:List Int) (s0_1:Int) (s0_2:Int) (r1:Int) (r2:Int) (r3:Int) (w0 w:World) (hI:IsS77 w0 w g s0_0 s0_1 s0_2) (hB:Below w0.heap.size w0 w) (h:spec_l1Byte.f s0_0 s0_1 s0_2=some (r1,r2,r3)) :
   Calls Tryz.prog 66 #[.pointer (some ⟨g,0,none⟩)] w fun e w'=>e = .returned (.int .i64 r1)∧IsS77 w0 w' g s0_0 r2 r3∧Below w0.heap.size w0 w'∧KeepBut w w' g none:=by
 have HI0:=zk hI
 have HK:=zk (KeepBut.refl w g none)
 have HL:=zk hB.size
 clear hI
 have HW0:=zk hB.size
 have HB:=zk hB
 clear hB
 have H:=h
 unfold spec_l1Byte.f at H
 clear h
 by_cases c2:s0_1 < (s0_0.length:Int)
 rw [if_pos c2] at H
 have c2b0:=zdl c2
 clear c2
 by_cases c3:0≤s0_1
 rw [if_pos c3] at H
 have c3b0:=zdle c3
 clear c3
 simp only [Option.some.injEq,Prod.mk.injEq] at H
 obtain ⟨rfl,rfl,rfl⟩:=H
 obtain ⟨ASz4_0,cSz4_0,HGz4,hgz4,HSz4_0⟩:=HI0.out
 have hcz4_0:=cellS77_0 HGz4
 have hcz4_1:=cellS77_1 HGz4
 have hcz4_2:=cellS77_2 HGz4
 have hfz4_1:=blk_frozen HGz4 1
 have hfz4_2:=blk_frozen HGz4 2
 clear HGz4 hgz4
 have p66001:0≤(s0_1:Int):=of_decide_eq_true za36
 have q66001:s0_1 < (s0_0.length:Int):=of_decide_eq_true za36
 obtain ⟨ad66001,e66001,hx66001_0⟩:=Kd.at_int HSz4_0 s0_1 p66001 q66001
 cases e66001
 have hn66001_0:ad66001.block ≠ g:=Nat.ne_of_lt (Nat.lt_of_lt_of_le (by have:=World.block_lt_of_cell? _ _ hx66001_0;first|rwa [add_block] at this|exact this) (IsS77.ge HI0.out))
 replace hx66001_0:=pw_cell_below HB.out hx66001_0
 replace hx66001_0:=(cell_far (p:=⟨g,2,none⟩) (by first|(rw [add_block];exact hn66001_0)|(show (Addr.add _ _).block ≠ _;rw [add_block];exact hn66001_0)|exact hn66001_0) (.int .i64 (wrap64 ((wrap64 (s0_2 * 6364136223846793005))+1442695040888963407)))).trans hx66001_0
 (try have hy66001_0:=fun (n_:Nat)=>(show (((w.drewN n_).setCell ⟨g,2,none⟩ (.int .i64 (wrap64 ((wrap64 (s0_2 * 6364136223846793005))+1442695040888963407))))).cell? _=some _ from hx66001_0))
 clear hn66001_0
 replace p66001:=eq_true p66001
 replace q66001:=eq_true q66001
 rotate_left
 · rw [if_neg c3] at H
   exact absurd H (by simp)
 rw [if_neg c2] at H
 have c2b0:=zdnl c2
 clear c2
 simp only [Option.some.injEq,Prod.mk.injEq] at H
 obtain ⟨rfl,rfl,rfl⟩:=H
 obtain ⟨ASz5_0,cSz5_0,HGz5,hgz5,HSz5_0⟩:=HI0.out
 have hcz5_0:=cellS77_0 HGz5
 have hcz5_1:=cellS77_1 HGz5
 have hcz5_2:=cellS77_2 HGz5
 have hfz5_1:=blk_frozen HGz5 1
 have hfz5_2:=blk_frozen HGz5 2
 clear HGz5 hgz5
 rotate_left
 all_goals
  go_enter Tryz.func66,Tryz.ntmps66
  go_wp2
  repeat (go_quiet (fail);try go_wp2)
  go_ret
  exact ⟨za24,za17,za19,za21⟩
def spec_l1Below.f (s0_0:List Int) (s0_1:Int) (s0_2:Int) (a1:Int):Option (Int × Int × Int):=if a1≤0 then (some (0,s0_1,s0_2)) else (if a1≤256 then ((spec_l1Byte.f s0_0 s0_1 s0_2).bind fun bt42001=>(if a1=0 then (none) else (some (Int.tmod bt42001.1 a1,bt42001.2.1,bt42001.2.2)))) else ((spec_l1Byte.f s0_0 s0_1 s0_2).bind fun bt42004=>((spec_l1Byte.f s0_0 bt42004.2.1 bt42004.2.2).bind fun bt42007=>((spec_l1Byte.f s0_0 bt42007.2.1 bt42007.2.2).bind fun bt42010=>((spec_l1Byte.f s0_0 bt42010.2.1 bt42010.2.2).bind fun bt42013=>(if a1=0 then (none) else (some (Int.tmod (wrap64 ((wrap64 ((wrap64 ((wrap64 (bt42004.1 * 16777216))+(wrap64 (bt42007.1 * 65536))))+(wrap64 (bt42010.1 * 256))))+bt42013.1)) a1,bt42013.2.1,bt42013.2.2))))))))
theorem spec_l1Below.calls (g:Nat) (s0_0:List Int) (s0_1:Int) (s0_2:Int) (a1:Int) (r1:Int) (r2:Int) (r3:Int) (w0 w:World) (hI:IsS77 w0 w g s0_0 s0_1 s0_2) (hB:Below w0.heap.size w0 w) (h:spec_l1Below.f s0_0 s0_1 s0_2 a1=some (r1,r2,r3)) :
   Calls Tryz.prog 42 #[.pointer (some ⟨g,0,none⟩),.int .i64 a1] w fun e w'=>e = .returned (.int .i64 r1)∧IsS77 w0 w' g s0_0 r2 r3∧Below w0.heap.size w0 w'∧KeepBut w w' g none:=by
 have HI0:=zk hI
 have HK:=zk (KeepBut.refl w g none)
 have HL:=zk hB.size
 clear hI
 have HW0:=zk hB.size
 have HB:=zk hB
 clear hB
 have H:=h
 unfold spec_l1Below.f at H
 clear h
 by_cases c3:a1≤0
 rw [if_pos c3] at H
 have c3b0:=zdle c3
 clear c3
 rotate_left
 rw [if_neg c3] at H
 have c3b0:=zdnle c3
 clear c3
 by_cases c4:a1≤256
 rw [if_pos c4] at H
 have c4b0:=zdle c4
 clear c4
 obtain ⟨⟨t1,t2,t3⟩,A5,H⟩:=zO H
 try dsimp only at H
 by_cases c6:a1=0
 · rw [if_pos c6] at H
   exact absurd H (by simp)
 · rw [if_neg c6] at H
   have c6b0:=zbn c6
   have c6b1:=zqt c6
   simp only [Option.some.injEq,Prod.mk.injEq] at H
   obtain ⟨rfl,rfl,rfl⟩:=H
   go_enter Tryz.func42,Tryz.ntmps42
   go_wp2_with (first|((with_reducible refine gate_callee (f:=66) rfl ?_);refine zg (some 14) Tryz.func66 #[.pointer (some ⟨g,0,none⟩)] rfl za14 ?_;(with_reducible refine (spec_l1Byte.calls g s0_0 s0_1 s0_2 t1 t2 t3 w0 _ za17 za19 A5.out).mono ?_);rintro e w7 ⟨rfl,hi,hb,hk⟩;refine ⟨_,rfl,?_⟩;replace HK:=yK HK hk;replace HB:=zk hb;replace HI0:=zk hi;(try clear hb hk hi)))
   go_ret
   exact ⟨za24,za17,za19,za21⟩
 rw [if_neg c4] at H
 have c4b0:=zdnle c4
 clear c4
 obtain ⟨⟨t4,t5,t6⟩,A8,H⟩:=zO H
 try dsimp only at H
 obtain ⟨⟨t7,t8,t9⟩,A9,H⟩:=zO H
 try dsimp only at H
 obtain ⟨⟨t10,t11,t12⟩,A10,H⟩:=zO H
 try dsimp only at H
 obtain ⟨⟨t13,t14,t15⟩,A11,H⟩:=zO H
 try dsimp only at H
 by_cases c12:a1=0
 · rw [if_pos c12] at H
   exact absurd H (by simp)
 rw [if_neg c12] at H
 have c12b0:=zbn c12
 have c12b1:=zqt c12
 rotate_left
 all_goals
  simp only [Option.some.injEq,Prod.mk.injEq] at H
  obtain ⟨rfl,rfl,rfl⟩:=H
  go_enter Tryz.func42,Tryz.ntmps42
  go_wp2_with (first|((with_reducible refine gate_callee (f:=66) rfl ?_);refine zg (some 18) Tryz.func66 #[.pointer (some ⟨g,0,none⟩)] rfl za14 ?_;(with_reducible refine (spec_l1Byte.calls g s0_0 s0_1 s0_2 t4 t5 t6 w0 _ za17 za19 A8.out).mono ?_);rintro e w13 ⟨rfl,hi,hb,hk⟩;refine ⟨_,rfl,?_⟩;replace HK:=yK HK hk;replace HB:=zk hb;replace HI0:=zk hi;(try clear hb hk hi))|((with_reducible refine gate_callee (f:=66) rfl ?_);refine zg (some 20) Tryz.func66 #[.pointer (some ⟨g,0,none⟩)] rfl za14 ?_;(with_reducible refine (spec_l1Byte.calls g s0_0 t5 t6 t7 t8 t9 w0 _ za17 za19 A9.out).mono ?_);rintro e w14 ⟨rfl,hi,hb,hk⟩;refine ⟨_,rfl,?_⟩;replace HK:=yK HK hk;replace HB:=zk hb;replace HI0:=zk hi;(try clear hb hk hi))|((with_reducible refine gate_callee (f:=66) rfl ?_);refine zg (some 22) Tryz.func66 #[.pointer (some ⟨g,0,none⟩)] rfl za14 ?_;(with_reducible refine (spec_l1Byte.calls g s0_0 t8 t9 t10 t11 t12 w0 _ za17 za19 A10.out).mono ?_);rintro e w15 ⟨rfl,hi,hb,hk⟩;refine ⟨_,rfl,?_⟩;replace HK:=yK HK hk;replace HB:=zk hb;replace HI0:=zk hi;(try clear hb hk hi))|((with_reducible refine gate_callee (f:=66) rfl ?_);refine zg (some 24) Tryz.func66 #[.pointer (some ⟨g,0,none⟩)] rfl za14 ?_;(with_reducible refine (spec_l1Byte.calls g s0_0 t11 t12 t13 t14 t15 w0 _ za17 za19 A11.out).mono ?_);rintro e w16 ⟨rfl,hi,hb,hk⟩;refine ⟨_,rfl,?_⟩;replace HK:=yK HK hk;replace HB:=zk hb;replace HI0:=zk hi;(try clear hb hk hi)))
  go_ret
  exact ⟨za24,za17,za19,za21⟩
def spec_l1Pick.f (s0_0:List Int) (s0_1:Int) (s0_2:Int) (l1:List ByteArray):Option (ByteArray × Int × Int):=(spec_l1Below.f s0_0 s0_1 s0_2 (l1.length:Int)).bind fun bt38001=>(if 0≤bt38001.1 then (if bt38001.1 < (l1.length:Int) then (some (rdOf ByteArray.empty l1 bt38001.1,bt38001.2.1,bt38001.2.2)) else (none)) else (none))
theorem spec_l1Pick.calls (g:Nat) (s0_0:List Int) (s0_1:Int) (s0_2:Int) (A1:Option Addr) (c1:Nat) (l1:List ByteArray) (r1:ByteArray) (r2:Int) (r3:Int) (w0 w:World) (hI:IsS77 w0 w g s0_0 s0_1 s0_2) (hB:Below w0.heap.size w0 w) (hr1:Kd.C Kd.string w A1 l1.length l1) (hc1:l1.length≤c1) (hf1:∀ ad,A1=some ad→0 < l1.length→ad.block ≠ g) (h:spec_l1Pick.f s0_0 s0_1 s0_2 l1=some (r1,r2,r3)) :
  Calls Tryz.prog 38 #[.pointer (some ⟨g,0,none⟩),.slice A1 l1.length c1] w fun e w'=>e = .returned (.string r1)∧IsS77 w0 w' g s0_0 r2 r3∧Below w0.heap.size w0 w'∧KeepBut w w' g none:=by
 have HR1:=zk hr1
 have HC1:=zk hc1
 clear hr1 hc1
 have HI0:=zk hI
 have HK:=zk (KeepBut.refl w g none)
 have HL:=zk hB.size
 clear hI
 have HW0:=zk hB.size
 have HB:=zk hB
 clear hB
 have H:=h
 unfold spec_l1Pick.f at H
 clear h
 obtain ⟨⟨t1,t2,t3⟩,A3,H⟩:=zO H
 try dsimp only at H
 by_cases c4:0≤t1
 rw [if_pos c4] at H
 have c4b0:=zdle c4
 clear c4
 by_cases c5:t1 < (l1.length:Int)
 ·rw [if_pos c5] at H
  have c5b0:=zdl c5
  clear c5
  simp only [Option.some.injEq,Prod.mk.injEq] at H
  obtain ⟨rfl,rfl,rfl⟩:=H
  go_enter Tryz.func38,Tryz.ntmps38
  go_wp2_with (first|((with_reducible refine gate_callee (f:=42) rfl ?_);refine zg (some 9) Tryz.func42 #[.pointer (some ⟨g,0,none⟩),.int .i64 (l1.length:Int)] rfl za14 ?_;(with_reducible refine (spec_l1Below.calls g s0_0 s0_1 s0_2 (l1.length:Int) t1 t2 t3 w0 _ za17 za19 A3.out).mono ?_);rintro e w6 ⟨rfl,hi,hb,hk⟩;refine ⟨_,rfl,?_⟩;replace HK:=yK HK hk;replace HB:=zk hb;replace HI0:=zk hi;(try clear hb hk hi);have p38004:0≤(t1:Int):=of_decide_eq_true za36;have q38004:t1 < (l1.length:Int):=of_decide_eq_true za36;obtain ⟨ad38004,e38004,hx38004_0⟩:=Kd.at_string HR1.out t1 p38004 q38004;cases e38004;replace hx38004_0:=keep_cell HK.out hx38004_0 (by first|(rw [add_block];exact hf1 _ rfl (by omega))|exact hf1 _ rfl (by omega)|exact hf1 ad38004 rfl (by omega));replace p38004:=eq_true p38004;replace q38004:=eq_true q38004))
  go_ret
  exact ⟨za24,za17,za19,za21⟩
 ·rw [if_neg c5] at H
  exact absurd H (by simp)
 ·rw [if_neg c4] at H
  exact absurd H (by simp)
def spec_l1PickInt.f (s0_0:List Int) (s0_1:Int) (s0_2:Int) (l1:List Int):Option (Int × Int × Int):=(spec_l1Below.f s0_0 s0_1 s0_2 (l1.length:Int)).bind fun bt44001=>(if 0≤bt44001.1 then (if bt44001.1 < (l1.length:Int) then (some (rd l1 bt44001.1,bt44001.2.1,bt44001.2.2)) else (none)) else (none))
theorem spec_l1PickInt.calls (g:Nat) (s0_0:List Int) (s0_1:Int) (s0_2:Int) (A1:Option Addr) (c1:Nat) (l1:List Int) (r1:Int) (r2:Int) (r3:Int) (w0 w:World) (hI:IsS77 w0 w g s0_0 s0_1 s0_2) (hB:Below w0.heap.size w0 w) (hr1:Kd.C (Kd.int .i64) w A1 l1.length l1) (hc1:l1.length≤c1) (hf1:∀ ad,A1=some ad→0 < l1.length→ad.block ≠ g) (h:spec_l1PickInt.f s0_0 s0_1 s0_2 l1=some (r1,r2,r3)) :
  Calls Tryz.prog 44 #[.pointer (some ⟨g,0,none⟩),.slice A1 l1.length c1] w fun e w'=>e = .returned (.int .i64 r1)∧IsS77 w0 w' g s0_0 r2 r3∧Below w0.heap.size w0 w'∧KeepBut w w' g none:=by
 have HR1:=zk hr1
 have HC1:=zk hc1
 clear hr1 hc1
 have HI0:=zk hI
 have HK:=zk (KeepBut.refl w g none)
 have HL:=zk hB.size
 clear hI
 have HW0:=zk hB.size
 have HB:=zk hB
 clear hB
 have H:=h
 unfold spec_l1PickInt.f at H
 clear h
 obtain ⟨⟨t1,t2,t3⟩,A3,H⟩:=zO H
 try dsimp only at H
 by_cases c4:0≤t1
 rw [if_pos c4] at H
 have c4b0:=zdle c4
 clear c4
 by_cases c5:t1 < (l1.length:Int)
 ·rw [if_pos c5] at H
  have c5b0:=zdl c5
  clear c5
  simp only [Option.some.injEq,Prod.mk.injEq] at H
  obtain ⟨rfl,rfl,rfl⟩:=H
  go_enter Tryz.func44,Tryz.ntmps44
  go_wp2_with (first|((with_reducible refine gate_callee (f:=42) rfl ?_);refine zg (some 9) Tryz.func42 #[.pointer (some ⟨g,0,none⟩),.int .i64 (l1.length:Int)] rfl za14 ?_;(with_reducible refine (spec_l1Below.calls g s0_0 s0_1 s0_2 (l1.length:Int) t1 t2 t3 w0 _ za17 za19 A3.out).mono ?_);rintro e w6 ⟨rfl,hi,hb,hk⟩;refine ⟨_,rfl,?_⟩;replace HK:=yK HK hk;replace HB:=zk hb;replace HI0:=zk hi;(try clear hb hk hi);have p44004:0≤(t1:Int):=of_decide_eq_true za36;have q44004:t1 < (l1.length:Int):=of_decide_eq_true za36;obtain ⟨ad44004,e44004,hx44004_0⟩:=Kd.at_int HR1.out t1 p44004 q44004;cases e44004;replace hx44004_0:=keep_cell HK.out hx44004_0 (by first|(rw [add_block];exact hf1 _ rfl (by omega))|exact hf1 _ rfl (by omega)|exact hf1 ad44004 rfl (by omega));replace p44004:=eq_true p44004;replace q44004:=eq_true q44004))
  go_ret
  exact ⟨za24,za17,za19,za21⟩
 ·rw [if_neg c5] at H
  exact absurd H (by simp)
 ·rw [if_neg c4] at H
  exact absurd H (by simp)
def spec_l1Once.f (s0_0:List Int) (s0_1:Int) (s0_2:Int) (a1:Int):Option (Bool × Int × Int):=(spec_l1Below.f s0_0 s0_1 s0_2 a1).bind fun bt37001=>(some ((bt37001.1 == 0),bt37001.2.1,bt37001.2.2))
theorem spec_l1Once.calls (g:Nat) (s0_0:List Int) (s0_1:Int) (s0_2:Int) (a1:Int) (r1:Bool) (r2:Int) (r3:Int) (w0 w:World) (hI:IsS77 w0 w g s0_0 s0_1 s0_2) (hB:Below w0.heap.size w0 w) (h:spec_l1Once.f s0_0 s0_1 s0_2 a1=some (r1,r2,r3)) :
  Calls Tryz.prog 37 #[.pointer (some ⟨g,0,none⟩),.int .i64 a1] w fun e w'=>e = .returned (.bool r1)∧IsS77 w0 w' g s0_0 r2 r3∧Below w0.heap.size w0 w'∧KeepBut w w' g none:=by
 have HI0:=zk hI
 have HK:=zk (KeepBut.refl w g none)
 have HL:=zk hB.size
 clear hI
 have HW0:=zk hB.size
 have HB:=zk hB
 clear hB
 have H:=h
 unfold spec_l1Once.f at H
 clear h
 obtain ⟨⟨t1,t2,t3⟩,A3,H⟩:=zO H
 try dsimp only at H
 simp only [Option.some.injEq,Prod.mk.injEq] at H
 obtain ⟨rfl,rfl,rfl⟩:=H
 go_enter Tryz.func37,Tryz.ntmps37
 go_wp2_with (first|((with_reducible refine gate_callee (f:=42) rfl ?_);refine zg (some 7) Tryz.func42 #[.pointer (some ⟨g,0,none⟩),.int .i64 a1] rfl za14 ?_;(with_reducible refine (spec_l1Below.calls g s0_0 s0_1 s0_2 a1 t1 t2 t3 w0 _ za17 za19 A3.out).mono ?_);rintro e w4 ⟨rfl,hi,hb,hk⟩;refine ⟨_,rfl,?_⟩;replace HK:=yK HK hk;replace HB:=zk hb;replace HI0:=zk hi;(try clear hb hk hi)))
 go_ret
 exact ⟨za24,za17,za19,za21⟩
def spec_l1Max.f (a0:Int) (a1:Int):Option (Int):=if a0 > a1 then (some a0) else (some a1)
theorem spec_l1Max.calls (a0:Int) (a1:Int) (r:Int) (w:World) (h:spec_l1Max.f a0 a1=some r) :
   Calls Tryz.prog 106 #[.int .i64 a0,.int .i64 a1] w fun e w'=>e = .returned (.int .i64 r)∧Drawn0 w w':=by
 have H:=h
 unfold spec_l1Max.f at H
 clear h
 by_cases c3:a0 > a1
 rw [if_pos c3] at H
 have c3b0:=zdl c3
 rotate_left
 rw [if_neg c3] at H
 have c3b0:=zdnl c3
 rotate_left
 all_goals
  clear c3
  obtain rfl:=zi H
  go_enter Tryz.func106,Tryz.ntmps106
  go_wp2
  go_ret
  exact ⟨za23,za20⟩
def spec_l1In.f (a0:Int) (a1:Int) (a2:Int):Option (Bool):=if a0 ≥ a1 then (some (decide (a0≤a2))) else (some false)
theorem spec_l1In.calls (a0:Int) (a1:Int) (a2:Int) (r:Bool) (w:World) (h:spec_l1In.f a0 a1 a2=some r) :
   Calls Tryz.prog 77 #[.int .i64 a0,.int .i64 a1,.int .i64 a2] w fun e w'=>e = .returned (.bool r)∧Drawn0 w w':=by
 have H:=h
 unfold spec_l1In.f at H
 clear h
 by_cases c4:a0 ≥ a1
 rw [if_pos c4] at H
 have c4b0:=zdle c4
 rotate_left
 rw [if_neg c4] at H
 have c4b0:=zdnle c4
 rotate_left
 all_goals
  clear c4
  obtain rfl:=zi H
  go_enter Tryz.func77,Tryz.ntmps77
  go_wp2
  go_ret
  exact ⟨za23,za20⟩
def spec_l1Min.f (a0:Int) (a1:Int):Option (Int):=if a0 < a1 then (some a0) else (some a1)
theorem spec_l1Min.calls (a0:Int) (a1:Int) (r:Int) (w:World) (h:spec_l1Min.f a0 a1=some r) :
   Calls Tryz.prog 24 #[.int .i64 a0,.int .i64 a1] w fun e w'=>e = .returned (.int .i64 r)∧Drawn0 w w':=by
 have H:=h
 unfold spec_l1Min.f at H
 clear h
 by_cases c3:a0 < a1
 rw [if_pos c3] at H
 have c3b0:=zdl c3
 rotate_left
 rw [if_neg c3] at H
 have c3b0:=zdnl c3
 rotate_left
 all_goals
  clear c3
  obtain rfl:=zi H
  go_enter Tryz.func24,Tryz.ntmps24
  go_wp2
  go_ret
  exact ⟨za23,za20⟩
def spec_LetterIndex.l0:Nat→Int→Int→Option (Int)
 | 0,_,_=>none
 | k+1,x0,x3=>if x3 < 3 then (if 0≤x3 then (if (bt (⟨#[97,98,99]⟩:ByteArray) x3)=x0 then (some x3) else (spec_LetterIndex.l0 k x0 (wrap64 (x3+1)))) else (none)) else (some (-1))
def spec_LetterIndex.f (k:Nat) (a0:Int):Option (Int):=spec_LetterIndex.l0 k a0 0
theorem spec_LetterIndex.calls (k:Nat) (a0:Int) (r:Int) (w:World) (h:spec_LetterIndex.f k a0=some r) :
   Calls Tryz.prog 93 #[.int .u8 a0] w fun e w'=>e = .returned (.int .i64 r)∧Drawn0 w w':=by
 have H:=h
 unfold spec_LetterIndex.f at H
 clear h
 have H':=zk H
 clear H
 go_enter Tryz.func93,Tryz.ntmps93
 go_wp2
 try simp only [Act.put,zt,zv,zu]
 go_loopg [3] k (fun kq v3 w'=>∃ (x3_1:Int),v3 = .int .i64 x3_1∧Aside0 (spec_LetterIndex.l0 kq a0 x3_1=some r)∧Aside0 (kq≤k)∧Drawn0 w w')
 case atStart=>exact ⟨(0),(by (rfl)),H',⟨Nat.le_refl _⟩,za20⟩
 case round =>
  clear H'
  obtain ⟨x3_1,rfl,HA,HK1,⟨m1,rfl⟩⟩:=hrel
  cases gk with
  | zero=>exact absurd HA.out (by simp [spec_LetterIndex.l0])
  | succ k1 =>
   have H:=HA.out
   clear HA
   simp only [spec_LetterIndex.l0] at H
   by_cases c2:x3_1 < 3
   rw [if_pos c2] at H
   have c2b0:=zdl c2
   clear c2
   by_cases c3:0≤x3_1
   rw [if_pos c3] at H
   have c3b0:=zdle c3
   clear c3
   by_cases c5:(bt (⟨#[97,98,99]⟩:ByteArray) x3_1)=a0
   ·rw [if_pos c5] at H
    have c5b0:=zbt c5
    have c5b1:=zqn c5
    clear c5
    obtain rfl:=zi H
    have p4:0≤(x3_1:Int):=of_decide_eq_true za25
    have q4:x3_1 < (3:Int):=of_decide_eq_true za25
    have hx4:=bt_at (⟨#[97,98,99]⟩:ByteArray) x3_1
    replace p4:=eq_true p4
    replace q4:=eq_true q4
    go_wp2
    go_ret
    exact ⟨by (rfl),za20⟩
   ·rw [if_neg c5] at H
    have c5b0:=zbn c5
    have c5b1:=zqt c5
    have H':=zk H
    clear H
    have p4:0≤(x3_1:Int):=of_decide_eq_true za25
    have q4:x3_1 < (3:Int):=of_decide_eq_true za25
    have hx4:=bt_at (⟨#[97,98,99]⟩:ByteArray) x3_1
    replace p4:=eq_true p4
    replace q4:=eq_true q4
    go_wp2
    go_roundg k1
    case measure=>have:=HK1.out;omega
    case rel=>exact ⟨(wrap64 (x3_1+1)),(by (rfl)),H',⟨za43⟩,za20⟩
   ·rw [if_neg c3] at H
    exact absurd H (by simp)
   ·rw [if_neg c2] at H
    have c2b0:=zdnl c2
    clear c2
    obtain rfl:=zi H
    go_wp2
    go_ret
    exact ⟨by (rfl),za20⟩
def spec_IsWord.l0:Nat→ByteArray→Int→Option (Bool)
 | 0,_,_=>none
 | k+1,x0,x3=>if x3 < (x0.size:Int) then (if 0≤x3 then ((spec_LetterIndex.f k (bt x0 x3)).bind fun t65001=>(if t65001 < 0 then (some false) else (spec_IsWord.l0 k x0 (wrap64 (x3+1))))) else (none)) else (some (decide ((x0.size:Int)≤30)))
def spec_IsWord.f (k:Nat) (a0:ByteArray):Option (Bool):=spec_IsWord.l0 k a0 0
theorem spec_IsWord.calls (k:Nat) (a0:ByteArray) (r:Bool) (w:World) (h:spec_IsWord.f k a0=some r) :
   Calls Tryz.prog 65 #[.string a0] w fun e w'=>e = .returned (.bool r)∧Drawn0 w w':=by
 have H:=h
 unfold spec_IsWord.f at H
 clear h
 have H':=zk H
 clear H
 go_enter Tryz.func65,Tryz.ntmps65
 go_wp2
 try simp only [Act.put,zt,zv,zu]
 go_loopg [3] k (fun kq v3 w'=>∃ (x3_1:Int),v3 = .int .i64 x3_1∧Aside0 (spec_IsWord.l0 kq a0 x3_1=some r)∧Aside0 (kq≤k)∧Drawn0 w w')
 case atStart=>exact ⟨(0),(by (rfl)),H',⟨Nat.le_refl _⟩,za20⟩
 case round =>
  clear H'
  obtain ⟨x3_1,rfl,HA,HK1,⟨m1,rfl⟩⟩:=hrel
  cases gk with
  | zero=>exact absurd HA.out (by simp [spec_IsWord.l0])
  | succ k1 =>
   have H:=HA.out
   clear HA
   simp only [spec_IsWord.l0] at H
   by_cases c2:x3_1 < (a0.size:Int)
   rw [if_pos c2] at H
   have c2b0:=zdl c2
   clear c2
   by_cases c3:0≤x3_1
   rw [if_pos c3] at H
   have c3b0:=zdle c3
   clear c3
   obtain ⟨t1,A5,H⟩:=zO H
   try dsimp only at H
   by_cases c6:t1 < 0
   rw [if_pos c6] at H
   have c6b0:=zdl c6
   clear c6
   obtain rfl:=zi H
   have fin0_:=zk trivial
   rotate_left
   rw [if_neg c6] at H
   have c6b0:=zdnl c6
   clear c6
   have H':=zk H
   clear H
   have fin1_:=zk trivial
   rotate_left
   · rw [if_neg c3] at H
     exact absurd H (by simp)
   · rw [if_neg c2] at H
     have c2b0:=zdnl c2
     clear c2
     obtain rfl:=zi H
     go_wp2
     go_ret
     exact ⟨by (rfl),za20⟩
   all_goals
    have p4:0≤(x3_1:Int):=of_decide_eq_true za25
    have q4:x3_1 < (a0.size:Int):=of_decide_eq_true za25
    have hx4:=bt_at a0 x3_1
    replace p4:=eq_true p4
    replace q4:=eq_true q4
    go_wp2_with (((with_reducible refine gate_callee (f:=93) rfl ?_);refine zg (some 13) Tryz.func93 #[.int .u8 (bt a0 x3_1)] rfl za11 ?_;(with_reducible refine (spec_LetterIndex.calls k1 (bt a0 x3_1) t1 _ A5.out).mono ?_);rintro e w' ⟨rfl,⟨nd,rfl⟩⟩;refine ⟨_,rfl,?_⟩))
    first
    | (
      clear fin0_
      go_ret
      exact ⟨za23,za20⟩)
    | (
      clear fin1_
      go_roundg k1
      case measure=>have:=HK1.out;omega
      case rel=>exact ⟨(wrap64 (x3_1+1)),(by (rfl)),H',⟨za43⟩,za20⟩)
mutual
def spec_WordsOfLength.l0:Nat→Int→List ByteArray→Int→Option (List ByteArray)
 | 0,_,_,_=>none
 | k+1,x0,x3,x4=>if x4 < x0 then (spec_WordsOfLength.l1 k x0 x3 x4 (([]:List ByteArray)) 0) else (some x3)
def spec_WordsOfLength.l1:Nat→Int→List ByteArray→Int→List ByteArray→Int→Option (List ByteArray)
 | 0,_,_,_,_,_=>none
 | k+1,x0,x3,x4,x5,x6=>if x6 < (x3.length:Int) then (spec_WordsOfLength.l2 k x0 x3 x4 x5 x6 0) else (spec_WordsOfLength.l0 k x0 x5 (wrap64 (x4+1)))
def spec_WordsOfLength.l2:Nat→Int→List ByteArray→Int→List ByteArray→Int→Int→Option (List ByteArray)
 | 0,_,_,_,_,_,_=>none
 | k+1,x0,x3,x4,x5,x6,x7=>if x7 < 3 then (if 0≤x6 then (if x6 < (x3.length:Int) then (if 0≤x7 then (if x7≤(wrap64 (x7+1)) then (if (wrap64 (x7+1))≤3 then (if (rdOf ByteArray.empty x3 x6).size+((⟨#[97,98,99]⟩:ByteArray).extract (x7:Int).toNat ((wrap64 (x7+1)):Int).toNat).size≤9223372036854775807 then (if x5.length < 8796093022208 then (spec_WordsOfLength.l2 k x0 x3 x4 (x5 ++ [(rdOf ByteArray.empty x3 x6) ++ ((⟨#[97,98,99]⟩:ByteArray).extract (x7:Int).toNat ((wrap64 (x7+1)):Int).toNat)]) x6 (wrap64 (x7+1))) else (none)) else (none)) else (none)) else (none)) else (none)) else (none)) else (none)) else (spec_WordsOfLength.l1 k x0 x3 x4 x5 (wrap64 (x6+1)))
end
def spec_WordsOfLength.f (k:Nat) (a0:Int):Option (List ByteArray):=(spec_l1In.f a0 0 5).bind fun t51001=>(if t51001=true then (spec_WordsOfLength.l0 k a0 (([⟨#[]⟩]:List ByteArray)) 0) else (some (([]:List ByteArray))))
theorem spec_WordsOfLength.mono_l:∀ k,(∀ y0 y1 y2,LeO (spec_WordsOfLength.l0 k y0 y1 y2) (spec_WordsOfLength.l0 (k+1) y0 y1 y2))∧(∀ y0 y1 y2 y3 y4,LeO (spec_WordsOfLength.l1 k y0 y1 y2 y3 y4) (spec_WordsOfLength.l1 (k+1) y0 y1 y2 y3 y4))∧(∀ y0 y1 y2 y3 y4 y5,LeO (spec_WordsOfLength.l2 k y0 y1 y2 y3 y4 y5) (spec_WordsOfLength.l2 (k+1) y0 y1 y2 y3 y4 y5))
 | 0=>⟨fun _ _ _ r h=>by simp [spec_WordsOfLength.l0] at h,fun _ _ _ _ _ r h=>by simp [spec_WordsOfLength.l1] at h,fun _ _ _ _ _ _ r h=>by simp [spec_WordsOfLength.l2] at h⟩
 | k+1=>by
  obtain ⟨ih0,ih1,ih2⟩:=spec_WordsOfLength.mono_l k
  refine ⟨?_,?_,?_⟩
  ·intro y0 y1 y2
   unfold spec_WordsOfLength.l0
   repeat' first
   | with_reducible first|exact ih0 _ _ _|exact ih1 _ _ _ _ _|exact ih2 _ _ _ _ _ _|exact LeO.refl _|exact LeO.none _|refine LeO.ite ?_ ?_|refine LeO.bind ?_ (fun _=>?_)
  ·intro y0 y1 y2 y3 y4
   unfold spec_WordsOfLength.l1
   repeat' first
   | with_reducible first|exact ih0 _ _ _|exact ih1 _ _ _ _ _|exact ih2 _ _ _ _ _ _|exact LeO.refl _|exact LeO.none _|refine LeO.ite ?_ ?_|refine LeO.bind ?_ (fun _=>?_)
  ·intro y0 y1 y2 y3 y4 y5
   unfold spec_WordsOfLength.l2
   repeat' first
   | with_reducible first|exact ih0 _ _ _|exact ih1 _ _ _ _ _|exact ih2 _ _ _ _ _ _|exact LeO.refl _|exact LeO.none _|refine LeO.ite ?_ ?_|refine LeO.bind ?_ (fun _=>?_)
theorem spec_WordsOfLength.mono:∀ a0 k,LeO (spec_WordsOfLength.f k a0) (spec_WordsOfLength.f (k+1) a0):=by
 intro a0 k
 obtain ⟨ih0,ih1,ih2⟩:=spec_WordsOfLength.mono_l k
 unfold spec_WordsOfLength.f
 repeat' first
  | with_reducible first|exact ih0 _ _ _|exact ih1 _ _ _ _ _|exact ih2 _ _ _ _ _ _|exact LeO.refl _|exact LeO.none _|refine LeO.ite ?_ ?_|refine LeO.bind ?_ (fun _=>?_)
def spec_WordsOfLength.T14:Bool × List (List Nat × List Nat):=(true,[([],[]),([],[]),([],[]),([1,2],[1,2]),([3],[3]),([],[]),([],[]),([6],[6]),([5,7],[5,7]),([4,8],[4,8]),([9],[9]),([0,10],[0,10]),([11,11,0,1,2,3,4,5,6,7,8,9,10,11],[0,11])])
def spec_WordsOfLength.B14:List Nat:=[0,0,0,6,14,0,0,64,224,510,1022,2047,4095]
theorem spec_WordsOfLength.tab14:rtab .any (opsOf Tryz.f51 14)=spec_WordsOfLength.T14:=by kernel_rfl
theorem spec_WordsOfLength.bits14:waitsOk spec_WordsOfLength.T14.2 spec_WordsOfLength.B14=true:=by kernel_rfl
theorem spec_WordsOfLength.calls (k:Nat) (a0:Int) (r:List ByteArray) (w:World) (h:spec_WordsOfLength.f k a0=some r) :
  Calls Tryz.prog 51 #[.int .i64 a0] w fun e w'=>∃ v0_:Value,e = .returned (v0_)∧Kd.R Kd.string 9 w' w.heap.size (fun _=>True) v0_ r∧Below w.heap.size w w':=by
 have HB:=zk (Below.refl w.heap.size w)
 have H:=h
 unfold spec_WordsOfLength.f at H
 clear h
 obtain ⟨t1,A2,H⟩:=zO H
 try dsimp only at H
 by_cases c3:t1=true
 ·subst c3
  rw [if_pos rfl] at H
  try dsimp only at H
  obtain ⟨y51005,hy51005⟩:∃ y_:List ByteArray,y_=(([⟨#[]⟩]:List ByteArray)):=⟨_,rfl⟩
  replace H:(spec_WordsOfLength.l0 k a0 y51005 0)=some r:=by ((rw [hy51005];with_reducible exact H))
  have Ny5:=zk hy51005
  clear hy51005
  have H':=zk H
  clear H
  go_enter Tryz.func51,Tryz.ntmps51
  go_wp2_with (first|((with_reducible refine gate_callee (f:=77) rfl ?_);refine zg (some 9) Tryz.func77 #[.int .i64 a0,.int .i64 0,.int .i64 5] rfl za11 ?_;(with_reducible refine (spec_l1In.calls a0 0 5 _ _ A2.out).mono ?_);rintro e w' ⟨rfl,⟨nd,rfl⟩⟩;refine ⟨_,rfl,?_⟩)|((with_reducible refine gate_dst (N:=12) rfl ?_);refine Kd.R_lit Kd.string _ 9 ?hg (N:=12) ?hd (xs:=([⟨#[]⟩]:List ByteArray)) (inner:=[.string ⟨#[]⟩]) (ok:=fun _=>True) (okp:=fun _=>True) ?hr ?hp (fun _ hk=>hk) trivial (Below.refl _ _) (Nat.le_refl _) (by simp) ?_;(case hd=>rfl);(case hg=>rfl);(case hr=>((go_simp;done)));(case hp=>exact (Reps.one (show Kd.M Kd.string _ _ _ (⟨#[]⟩:ByteArray) [.string ⟨#[]⟩] from rfl) (Reps.none _ _)));intro v51006 w4 ho5 hb hg_ hnew_;clear hg_ hnew_;((rw [← Ny5.out] at ho5));have HO7:=zk (Kd.R_lower ho5 (below_size za8));replace HB:=yB HB hb;clear hb ho5))
  try simp only [Act.put,zt,zv,zu]
  go_loopg [3,4] k (fun kq v3 v4 w'=>∃ (x3_1:List ByteArray) (x4_1:Int),v4 = .int .i64 x4_1∧Aside0 (spec_WordsOfLength.l0 kq a0 x3_1 x4_1=some r)∧Aside0 (kq≤k)∧Aside0 (Kd.R Kd.string 9 w' w.heap.size (fun _=>True) v3 x3_1)∧Aside0 (Below w.heap.size w w'))
  case atStart=>exact ⟨(y51005),(0),(by (rfl)),H',⟨Nat.le_refl _⟩,⟨za1 HO7.out⟩,⟨za8⟩⟩
  case round =>
   clear H'
   try clear c3
   obtain ⟨x3_1,x4_1,rfl,HA,HK1,HO_3,HB⟩:=hrel
   cases gk with
   | zero=>exact absurd HA.out (by simp [spec_WordsOfLength.l0])
   | succ k1 =>
    have H:=HA.out
    clear HA
    simp only [spec_WordsOfLength.l0] at H
    by_cases c6:x4_1 < a0
    ·rw [if_pos c6] at H
     have c6b0:=zdl c6
     clear c6
     obtain ⟨y51008,hy51008⟩:∃ y_:List ByteArray,y_=(([]:List ByteArray)):=⟨_,rfl⟩
     replace H:(spec_WordsOfLength.l1 k1 a0 x3_1 x4_1 y51008 0)=some r:=by ((rw [hy51008];with_reducible exact H))
     have Ny8:=zk hy51008
     clear hy51008
     have H':=zk H
     clear H
     go_wp2_with ((((with_reducible refine gate_dst (N:=18) rfl ?_);refine Kd.R_lit Kd.string _ 9 ?hg (N:=18) ?hd (xs:=([]:List ByteArray)) (inner:=[]) (ok:=fun _=>True) (okp:=fun _=>True) ?hr ?hp (fun _ hk=>hk) trivial (Below.refl _ _) (Nat.le_refl _) (by simp) ?_;(case hd=>rfl);(case hg=>rfl);(case hr=>((go_simp;done)));(case hp=>exact (Reps.none _ _));intro v9 w7 ho8 hb hg_ hnew_;clear hg_ hnew_;((rw [← Ny8.out] at ho8));have HO10:=zk (Kd.R_lower (Kd.R_new' ho8 (Kd.R_lt (za1 HO_3.out))) (below_size za8));replace HO_3:=zk (Kd.R_elder' (za1 HO_3.out) (Kd.R_base ho8) hb);replace HB:=yB HB hb;clear hb ho8)))
     try simp only [Act.put,zt,zv,zu]
     go_loopg [5,6] k1 (fun kq v5 v6 w'=>∃ (x5_2:List ByteArray) (x6_2:Int),v6 = .int .i64 x6_2∧Aside0 (spec_WordsOfLength.l1 kq a0 x3_1 x4_1 x5_2 x6_2=some r)∧Aside0 (kq≤k1)∧Aside0 (Kd.R Kd.string 9 w' w.heap.size (fun k_=>some k_ ≠ (v5:Value).ownBlock) u3 x3_1)∧Aside0 (Kd.R Kd.string 9 w' w.heap.size (fun k_=>some k_ ≠ (u3:Value).ownBlock) v5 x5_2)∧Aside0 (Below w.heap.size w w'))
     case atStart=>exact ⟨(y51008),(0),(by (rfl)),H',⟨Nat.le_refl _⟩,⟨za68⟩,⟨by (with_reducible repeat ((apply Kd.R_alloc)));exact Kd.R_mono HO10.out (fun _ hk=>hk.2)⟩,⟨za8⟩⟩
     case round =>
      clear H'
      try clear c3
      try clear c6
      try clear c6b0
      obtain ⟨x5_2,x6_2,rfl,HA,HK2,HO_3,HO_5,HB⟩:=hrel
      cases gk with
      | zero=>exact absurd HA.out (by simp [spec_WordsOfLength.l1])
      | succ k2 =>
       have H:=HA.out
       clear HA
       simp only [spec_WordsOfLength.l1] at H
       by_cases c9:x6_2 < (x3_1.length:Int)
       ·rw [if_pos c9] at H
        have c9b0:=zdl c9
        clear c9
        have H':=zk H
        clear H
        obtain ⟨Ao10,co10,eo10⟩:=Kd.R_slice HO_3.out
        subst eo10
        go_wp2
        try simp only [Act.put,zt,zv,zu]
        go_loopg [5,7] k2 (fun kq v5 v7 w'=>∃ (x5_3:List ByteArray) (x7_3:Int),v7 = .int .i64 x7_3∧Aside0 (spec_WordsOfLength.l2 kq a0 x3_1 x4_1 x5_3 x6_2 x7_3=some r)∧Aside0 (kq≤k2)∧Aside0 (Kd.R Kd.string 9 w' w.heap.size (fun k_=>some k_ ≠ (v5:Value).ownBlock) (.slice Ao10 x3_1.length co10) x3_1)∧Aside0 (Kd.R Kd.string 9 w' w.heap.size (fun k_=>some k_ ≠ ((.slice Ao10 x3_1.length co10):Value).ownBlock) v5 x5_3)∧Aside0 (Below w.heap.size w w'))
        case atStart=>exact ⟨(x5_2),(0),(by (rfl)),H',⟨Nat.le_refl _⟩,⟨za1 HO_3.out⟩,⟨za1 HO_5.out⟩,⟨za8⟩⟩
        case round =>
         clear H'
         try clear c3
         try clear c6
         try clear c6b0
         try clear c9
         try clear c9b0
         obtain ⟨x5_3,x7_3,rfl,HA,HK3,HO_3,HO_5,HB⟩:=hrel
         cases gk with
         | zero=>exact absurd HA.out (by simp [spec_WordsOfLength.l2])
         | succ k3 =>
          have H:=HA.out
          clear HA
          simp only [spec_WordsOfLength.l2] at H
          by_cases c11:x7_3 < 3
          rw [if_pos c11] at H
          have c11b0:=zdl c11
          clear c11
          by_cases c12:0≤x6_2
          rw [if_pos c12] at H
          have c12b0:=zdle c12
          clear c12
          by_cases c13:x6_2 < (x3_1.length:Int)
          rw [if_pos c13] at H
          have c13b0:=zdl c13
          clear c13
          by_cases c14:0≤x7_3
          rw [if_pos c14] at H
          have c14b0:=eq_true c14
          have c14b1:=zdle c14
          clear c14
          by_cases c15:x7_3≤(wrap64 (x7_3+1))
          rw [if_pos c15] at H
          have c15b0:=eq_true c15
          have c15b1:=zdle c15
          by_cases c16:(wrap64 (x7_3+1))≤3
          rw [if_pos c16] at H
          have c16b0:=eq_true c16
          have c16b1:=zdle c16
          by_cases c17:(rdOf ByteArray.empty x3_1 x6_2).size+((⟨#[97,98,99]⟩:ByteArray).extract (x7_3:Int).toNat ((wrap64 (x7_3+1)):Int).toNat).size≤9223372036854775807
          rw [if_pos c17] at H
          have c17z:=c17
          try simp at c17z
          try replace c17z:=eq_false (Nat.not_lt.2 c17z)
          have c17b0:=eq_true c17
          have c17b1:=zdle c17
          try have c17b2:(9223372036854775807 < (rdOf ByteArray.empty x3_1 x6_2).size+((⟨#[97,98,99]⟩:ByteArray).extract (x7_3:Int).toNat ((wrap64 (x7_3+1)):Int).toNat).size)=False:=eq_false (Nat.not_lt.2 c17)
          by_cases c18:x5_3.length < 8796093022208
          ·rw [if_pos c18] at H
           have LMc18:=zk c18
           clear c18
           obtain ⟨y51012,hy51012⟩:∃ y_:List ByteArray,y_=(x5_3 ++ [(rdOf ByteArray.empty x3_1 x6_2) ++ ((⟨#[97,98,99]⟩:ByteArray).extract (x7_3:Int).toNat ((wrap64 (x7_3+1)):Int).toNat)]):=⟨_,rfl⟩
           replace H:(spec_WordsOfLength.l2 k3 a0 x3_1 x4_1 y51012 x6_2 (wrap64 (x7_3+1)))=some r:=by ((rw [hy51012];with_reducible exact H))
           have Ny12:=zk hy51012
           clear hy51012
           have H':=zk H
           clear H
           try go_wp2
           replace HO_3:=zk (Kd.R_drew HO_3.out)
           replace HO_5:=zk (Kd.R_drew HO_5.out)
           replace HB:=zk (below_drew1 HB.out)
           have p51011:0≤(x6_2:Int):=of_decide_eq_true za25
           have q51011:x6_2 < (x3_1.length:Int):=of_decide_eq_true za25
           obtain ⟨ad51011,e51011,hx51011_0⟩:=Kd.at_string (Kd.R_reads' HO_3.out).2.2 x6_2 p51011 q51011
           cases e51011
           replace p51011:=eq_true p51011
           replace q51011:=eq_true q51011
           refine start_ (n:=13) (S:=fun w'=>w'.cell? (ad51011.add (x6_2).toNat)=some (.string (rdOf ByteArray.empty x3_1 x6_2))) (ds:=[10,11]) #[false,false,false,false,false,false,false,false,false,false,false,false,false] (by kernel_rfl) rfl rfl (hx51011_0) (fun hHeld=>?_);refine with_tabW spec_WordsOfLength.tab14 spec_WordsOfLength.bits14 (fun HT_ HW_=>?_)
           generalize wr.drew=w19 at HO_3 HO_5 HB hx51011_0 hHeld ⊢
           refine zy 0 (some 29) HT_.out ?_
           refine zy 1 (some 30) HT_.out ?_
           refine zy 2 (some 31) HT_.out ?_
           refine zy 3 (some 32) HT_.out ?_
           refine zy 5 (some 34) HT_.out ?_
           refine zy 6 (some 35) HT_.out ?_
           refine zy 7 (some 36) HT_.out ?_
           refine zy 8 (some 37) HT_.out ?_
           refine ztk 4 (some 33) HT_.out HW_.out hHeld ?_
           refine zy 9 (some 38) HT_.out ?_
           refine last_ (i:=10) (N:=some 39) #[true,true,true,true,true,true,true,true,true,true,true,false,false] rfl rfl (one_of HT_.out (by kernel_rfl)) (by decide) (fun K hK=>?_)
           refine value_ (w1:=?_) (v:=?_) (by rfl) rfl ?_ ?_
           rotate_left 2
           ·go_simp
            constructor
            ·rfl
            ·rfl
           refine hK.out _ _ ?_
           clear hK K
           refine zno (some 39) ?_
           refine last_ (i:=11) (N:=some 40) #[true,true,true,true,true,true,true,true,true,true,true,true,false] rfl rfl (one_of HT_.out (by kernel_rfl)) (by decide) (fun K hK=>?_)
           refine Kd.R_append_step Kd.string (w0:=w) w.heap.size (by rfl) (.tmp 29) (.tmp 39) 42 9 (.string ⟨#[]⟩) 16 rfl Tryz.underlying42 info9 rfl (by decide) (by omega) u5 x5_3 ((rdOf ByteArray.empty x3_1 x6_2) ++ ((⟨#[97,98,99]⟩:ByteArray).extract (x7_3:Int).toNat ((wrap64 (x7_3+1)):Int).toNat)) [.string ((rdOf ByteArray.empty x3_1 x6_2) ++ ((⟨#[97,98,99]⟩:ByteArray).extract (x7_3:Int).toNat ((wrap64 (x7_3+1)):Int).toNat))] (fun k_=>some k_ ≠ (.slice (some ad51011) x3_1.length co10:Value).ownBlock) (fun _=>False) rfl rfl ?aP (fun _ hk=>hk.elim) ?aF ?aO ?aB ?aS ?aL ?_
           (case aP=>exact rfl)
           (case aB=>exact za8)
           (case aF=>exact (fun k_ hk=>Kd.fresh' (Kd.R_lt (za1 HO_3.out)) k_ hk))
           (case aO=>exact (za1 HO_5.out))
           (case aS=>exact (below_size za8))
           (case aL=>have:=LMc18.out;omega)
           intro v13 w20 ho hb hg hat
           rw [← Ny12.out] at ho
           replace HO_3:=zk (Kd.R_after (ok:=(fun _=>True)) (by (with_reducible repeat ((apply Kd.R_alloc)));exact Kd.R_mono HO_3.out (fun _ hk=>⟨trivial,hk⟩)) hg hat)
           replace HB:=zk hb
           have HO14:=zk ho
           clear HO_5
           clear ho hb hg hat
           refine hK.out _ _ ?_
           clear hK K
           refine zno (some 40) ?_
           refine zy 12 (some 5) HT_.out ?_
           refine done_ (done_of HT_.out (by kernel_rfl)) ?_
           try go_wp2
           go_roundg k3
           case measure=>have:=HK1.out;have:=HK2.out;have:=HK3.out;omega
           case rel=>exact ⟨(y51012),(wrap64 (x7_3+1)),(by (rfl)),H',⟨za84⟩,⟨za68⟩,⟨za1 HO14.out⟩,⟨za8⟩⟩
          ·rw [if_neg c18] at H
           exact absurd H (by simp)
          ·rw [if_neg c17] at H
           exact absurd H (by simp)
          ·rw [if_neg c16] at H
           exact absurd H (by simp)
          ·rw [if_neg c15] at H
           exact absurd H (by simp)
          ·rw [if_neg c14] at H
           exact absurd H (by simp)
          ·rw [if_neg c13] at H
           exact absurd H (by simp)
          ·rw [if_neg c12] at H
           exact absurd H (by simp)
          ·rw [if_neg c11] at H
           have c11b0:=zdnl c11
           clear c11
           have H':=zk H
           clear H
           go_wp2
           go_roundg k3
           case measure=>have:=HK1.out;have:=HK2.out;have:=HK3.out;omega
           case rel=>exact ⟨(x5_3),(wrap64 (x6_2+1)),(by (rfl)),H',⟨za84⟩,⟨za1 HO_3.out⟩,⟨za1 HO_5.out⟩,⟨za8⟩⟩
       ·rw [if_neg c9] at H
        have c9b0:=zdnl c9
        clear c9
        have H':=zk H
        clear H
        obtain ⟨Ao21,co21,eo21⟩:=Kd.R_slice HO_3.out
        subst eo21
        go_wp2
        go_roundg k2
        case measure=>have:=HK1.out;have:=HK2.out;omega
        case rel=>exact ⟨(x5_2),(wrap64 (x4_1+1)),(by (rfl)),H',⟨by have:=HK1.out;have:=HK2.out;omega⟩,⟨by (with_reducible repeat ((apply Kd.R_alloc)));exact Kd.R_mono HO_5.out (fun _ hk=>trivial)⟩,⟨za8⟩⟩
    ·rw [if_neg c6] at H
     have c6b0:=zdnl c6
     clear c6
     obtain rfl:=zi H
     go_wp2
     go_ret
     exact ⟨_,by (rfl),za1 HO_3.out,za8⟩
 ·replace c3:=Bool.eq_false_iff.mpr c3
  subst c3
  rw [if_neg zff] at H
  try dsimp only at H
  obtain ⟨y51002,hy51002⟩:∃ y_:List ByteArray,y_=(([]:List ByteArray)):=⟨_,rfl⟩
  replace H:(some y51002)=some r:=by ((rw [hy51002];with_reducible exact H))
  have Ny2:=zk hy51002
  clear hy51002
  obtain rfl:=zi H
  go_enter Tryz.func51,Tryz.ntmps51
  go_wp2_with (first|((with_reducible refine gate_callee (f:=77) rfl ?_);refine zg (some 9) Tryz.func77 #[.int .i64 a0,.int .i64 0,.int .i64 5] rfl za11 ?_;(with_reducible refine (spec_l1In.calls a0 0 5 _ _ A2.out).mono ?_);rintro e w' ⟨rfl,⟨nd,rfl⟩⟩;refine ⟨_,rfl,?_⟩)|((with_reducible refine gate_dst (N:=11) rfl ?_);refine Kd.R_lit Kd.string _ 9 ?hg (N:=11) ?hd (xs:=([]:List ByteArray)) (inner:=[]) (ok:=fun _=>True) (okp:=fun _=>True) ?hr ?hp (fun _ hk=>hk) trivial (Below.refl _ _) (Nat.le_refl _) (by simp) ?_;(case hd=>rfl);(case hg=>rfl);(case hr=>((go_simp;done)));(case hp=>exact (Reps.none _ _));intro v51003 w22 ho23 hb hg_ hnew_;clear hg_ hnew_;((rw [← Ny2.out] at ho23));have HO4:=zk (Kd.R_lower ho23 (below_size za8));replace HB:=yB HB hb;clear hb ho23))
  go_ret
  exact ⟨_,by (rfl),za1 HO4.out,za8⟩
def spec_WordsUpTo.l0:Nat→Int→List ByteArray→Int→Option (List ByteArray)
 | 0,_,_,_=>none
 | k+1,x0,x3,x4=>if x4≤x0 then (if x4≤5 then ((spec_WordsOfLength.f k x4).bind fun t23004=>(if x3.length+t23004.length < 8796093022208 then (spec_WordsUpTo.l0 k x0 (x3 ++ t23004) (wrap64 (x4+1))) else (none))) else (some x3)) else (some x3)
def spec_WordsUpTo.f (k:Nat) (a0:Int):Option (List ByteArray):=spec_WordsUpTo.l0 k a0 (([]:List ByteArray)) 0
theorem spec_WordsUpTo.mono_l:∀ k,(∀ y0 y1 y2,LeO (spec_WordsUpTo.l0 k y0 y1 y2) (spec_WordsUpTo.l0 (k+1) y0 y1 y2))
 | 0=>fun _ _ _ r h=>by simp [spec_WordsUpTo.l0] at h
 | k+1=>by
  have ih0:=spec_WordsUpTo.mono_l k
  ·intro y0 y1 y2
   unfold spec_WordsUpTo.l0
   repeat' first
   | with_reducible first|exact ih0 _ _ _|exact spec_WordsOfLength.mono _ _|exact LeO.refl _|exact LeO.none _|refine LeO.ite ?_ ?_|refine LeO.bind ?_ (fun _=>?_)
theorem spec_WordsUpTo.mono:∀ a0 k,LeO (spec_WordsUpTo.f k a0) (spec_WordsUpTo.f (k+1) a0):=by
 intro a0 k
 have ih0:=spec_WordsUpTo.mono_l k
 unfold spec_WordsUpTo.f
 repeat' first
  | with_reducible first|exact ih0 _ _ _|exact spec_WordsOfLength.mono _ _|exact LeO.refl _|exact LeO.none _|refine LeO.ite ?_ ?_|refine LeO.bind ?_ (fun _=>?_)
theorem spec_WordsUpTo.calls (k:Nat) (a0:Int) (r:List ByteArray) (w:World) (h:spec_WordsUpTo.f k a0=some r) :
   Calls Tryz.prog 23 #[.int .i64 a0] w fun e w'=>∃ v0_:Value,e = .returned (v0_)∧Kd.R Kd.string 9 w' w.heap.size (fun _=>True) v0_ r∧Below w.heap.size w w':=by
 have HB:=zk (Below.refl w.heap.size w)
 have H:=h
 unfold spec_WordsUpTo.f at H
 clear h
 obtain ⟨y23001,hy23001⟩:∃ y_:List ByteArray,y_=(([]:List ByteArray)):=⟨_,rfl⟩
 replace H:(spec_WordsUpTo.l0 k a0 y23001 0)=some r:=by ((rw [hy23001];with_reducible exact H))
 have Ny1:=zk hy23001
 clear hy23001
 have H':=zk H
 clear H
 go_enter Tryz.func23,Tryz.ntmps23
 go_wp2_with ((((with_reducible refine gate_dst (N:=5) rfl ?_);refine Kd.R_lit Kd.string _ 9 ?hg (N:=5) ?hd (xs:=([]:List ByteArray)) (inner:=[]) (ok:=fun _=>True) (okp:=fun _=>True) ?hr ?hp (fun _ hk=>hk) trivial (Below.refl _ _) (Nat.le_refl _) (by simp) ?_;(case hd=>rfl);(case hg=>rfl);(case hr=>((go_simp;done)));(case hp=>exact (Reps.none _ _));intro v2 w2 ho3 hb hg_ hnew_;clear hg_ hnew_;((rw [← Ny1.out] at ho3));have HO3:=zk (Kd.R_lower ho3 (below_size za8));replace HB:=yB HB hb;clear hb ho3)))
 try simp only [Act.put,zt,zv,zu]
 go_loopg [3,4] k (fun kq v3 v4 w'=>∃ (x3_1:List ByteArray) (x4_1:Int),v4 = .int .i64 x4_1∧Aside0 (spec_WordsUpTo.l0 kq a0 x3_1 x4_1=some r)∧Aside0 (kq≤k)∧Aside0 (Kd.R Kd.string 9 w' w.heap.size (fun _=>True) v3 x3_1)∧Aside0 (Below w.heap.size w w'))
 case atStart=>exact ⟨(y23001),(0),(by (rfl)),H',⟨Nat.le_refl _⟩,⟨za1 HO3.out⟩,⟨za8⟩⟩
 case round =>
  clear H'
  obtain ⟨x3_1,x4_1,rfl,HA,HK1,HO_3,HB⟩:=hrel
  cases gk with
  | zero=>exact absurd HA.out (by simp [spec_WordsUpTo.l0])
  | succ k1 =>
   have H:=HA.out
   clear HA
   simp only [spec_WordsUpTo.l0] at H
   by_cases c4:x4_1≤a0
   rw [if_pos c4] at H
   have c4b0:=zdle c4
   clear c4
   by_cases c5:x4_1≤5
   rw [if_pos c5] at H
   have c5b0:=zdle c5
   clear c5
   obtain ⟨t4,A6,H⟩:=zO H
   try dsimp only at H
   by_cases c7:x3_1.length+t4.length < 8796093022208
   · rw [if_pos c7] at H
     have LMc7:=zk c7
     clear c7
     obtain ⟨y23007,hy23007⟩:∃ y_:List ByteArray,y_=(x3_1 ++ t4):=⟨_,rfl⟩
     replace H:(spec_WordsUpTo.l0 k1 a0 y23007 (wrap64 (x4_1+1)))=some r:=by ((rw [hy23007];with_reducible exact H))
     have Ny7:=zk hy23007
     clear hy23007
     have H':=zk H
     clear H
     go_wp2_with (first|((with_reducible refine gate_callee (f:=51) rfl ?_);refine zg (some 17) Tryz.func51 #[.int .i64 x4_1] rfl za11 ?_;(with_reducible refine (spec_WordsOfLength.calls k1 x4_1 t4 _ A6.out).mono ?_);rintro e w8 ⟨v5,rfl,ho0,hb⟩;refine ⟨_,rfl,?_⟩;have HO6:=zk (Kd.R_lower (Kd.R_new' ho0 (Kd.R_lt (za1 HO_3.out))) (below_size za8));replace HO_3:=zk (Kd.R_elder' (za1 HO_3.out) (Kd.R_base ho0) hb);replace HB:=yB HB hb;(try clear hb ho0);obtain ⟨Ao10,co10,eo10⟩:=Kd.R_slice HO6.out;subst eo10)|((with_reducible refine gate_builtin (b:=.append) (xs:=#[.tmp 15,.tmp 17]) rfl ?_);at_builtin;refine Kd.R_append_rows Kd.string (w0:=w) w.heap.size rfl (.tmp 15) (.tmp 17) 42 9 (.string ⟨#[]⟩) 16 rfl Tryz.underlying42 info9 rfl (by decide) (by omega) u3 x3_1 t4 _ _ _ (fun k_=>some k_ ≠ (.slice Ao10 t4.length co10:Value).ownBlock) (fun _=>False) rfl rfl ?aO ?aR (fun _ _ h=>h) (fun _ h=>h.elim) ?aF ?aB ?aS ?aL ?_;(case aR=>repeat ((exact (Kd.R_reads' HO6.out).2.2)));(case aB=>exact za8);(case aF=>exact (fun k_ hk=>Kd.fresh' (Kd.R_lt (za1 HO6.out)) k_ hk));(case aO=>exact za68);(case aS=>exact (below_size za8));(case aL=>have:=LMc7.out;omega);intro v8 w9 ho hb hg hat;rw [← Ny7.out] at ho;replace HO6:=zk (Kd.R_after (ok:=(fun _=>True)) (za1 HO6.out) hg hat);replace HB:=zk hb;have HO9:=zk ho;clear HO_3;clear ho hb hg hat))
     go_roundg k1
     case measure=>have:=HK1.out;omega
     case rel=>exact ⟨(y23007),(wrap64 (x4_1+1)),(by (rfl)),H',⟨za43⟩,⟨by (with_reducible repeat ((apply Kd.R_alloc)));exact Kd.R_mono HO9.out (fun _ hk=>trivial)⟩,⟨za8⟩⟩
   · rw [if_neg c7] at H
     exact absurd H (by simp)
   rw [if_neg c5] at H
   have c5b0:=zdnle c5
   clear c5
   rotate_left
   rw [if_neg c4] at H
   have c4b0:=zdnle c4
   clear c4
   rotate_left
   all_goals
    obtain rfl:=zi H
    go_wp2
    go_ret
    exact ⟨_,by (rfl),za1 HO_3.out,za8⟩
def spec_CountByte.l0:Nat→ByteArray→Int→Int→Int→Option (Int)
 | 0,_,_,_,_=>none
 | k+1,x0,x1,x5,x6=>if x6 < (x0.size:Int) then (if 0≤x6 then (if (bt x0 x6)=x1 then (spec_CountByte.l0 k x0 x1 (wrap64 (x5+1)) (wrap64 (x6+1))) else (spec_CountByte.l0 k x0 x1 x5 (wrap64 (x6+1)))) else (none)) else (some x5)
def spec_CountByte.f (k:Nat) (a0:ByteArray) (a1:Int):Option (Int):=spec_CountByte.l0 k a0 a1 0 0
theorem spec_CountByte.calls (k:Nat) (a0:ByteArray) (a1:Int) (r:Int) (w:World) (h:spec_CountByte.f k a0 a1=some r) :
   Calls Tryz.prog 35 #[.string a0,.int .u8 a1] w fun e w'=>e = .returned (.int .i64 r)∧Drawn0 w w':=by
 have H:=h
 unfold spec_CountByte.f at H
 clear h
 have H':=zk H
 clear H
 go_enter Tryz.func35,Tryz.ntmps35
 go_wp2
 try simp only [Act.put,zt,zv,zu]
 go_loopg [5,6] k (fun kq v5 v6 w'=>∃ (x5_1:Int) (x6_1:Int),v5 = .int .i64 x5_1∧v6 = .int .i64 x6_1∧Aside0 (spec_CountByte.l0 kq a0 a1 x5_1 x6_1=some r)∧Aside0 (kq≤k)∧Drawn0 w w')
 case atStart=>exact ⟨(0),(0),za23,za23,H',⟨Nat.le_refl _⟩,za20⟩
 case round =>
  clear H'
  obtain ⟨x5_1,x6_1,rfl,rfl,HA,HK1,⟨m1,rfl⟩⟩:=hrel
  cases gk with
  | zero=>exact absurd HA.out (by simp [spec_CountByte.l0])
  | succ k1 =>
   have H:=HA.out
   clear HA
   simp only [spec_CountByte.l0] at H
   by_cases c3:x6_1 < (a0.size:Int)
   rw [if_pos c3] at H
   have c3b0:=zdl c3
   clear c3
   by_cases c4:0≤x6_1
   rw [if_pos c4] at H
   have c4b0:=zdle c4
   clear c4
   by_cases c6:(bt a0 x6_1)=a1
   rw [if_pos c6] at H
   have c6b0:=zbt c6
   have c6b1:=zqn c6
   clear c6
   have fin0_:=zk trivial
   rotate_left
   rw [if_neg c6] at H
   have c6b0:=zbn c6
   have c6b1:=zqt c6
   have fin1_:=zk trivial
   rotate_left
   · rw [if_neg c4] at H
     exact absurd H (by simp)
   · rw [if_neg c3] at H
     have c3b0:=zdnl c3
     clear c3
     obtain rfl:=zi H
     go_wp2
     go_ret
     exact ⟨za23,za20⟩
   all_goals
    have H':=zk H
    clear H
    have p5:0≤(x6_1:Int):=of_decide_eq_true za36
    have q5:x6_1 < (a0.size:Int):=of_decide_eq_true za36
    have hx5:=bt_at a0 x6_1
    replace p5:=eq_true p5
    replace q5:=eq_true q5
    go_wp2
    first
    | (
      clear fin0_
      go_roundg k1
      case measure=>have:=HK1.out;omega
      case rel=>exact ⟨(wrap64 (x5_1+1)),(wrap64 (x6_1+1)),za23,za23,H',⟨za43⟩,za20⟩)
    | (
      clear fin1_
      go_roundg k1
      case measure=>have:=HK1.out;omega
      case rel=>exact ⟨(x5_1),(wrap64 (x6_1+1)),za23,za23,H',⟨za43⟩,za20⟩)
def spec_l8Var.f (a0:Int):Option (Bool):=if a0 ≥ 88 then (some (decide (a0≤90))) else (some false)
theorem spec_l8Var.calls (a0:Int) (r:Bool) (w:World) (h:spec_l8Var.f a0=some r) :
   Calls Tryz.prog 97 #[.int .u8 a0] w fun e w'=>e = .returned (.bool r)∧Drawn0 w w':=by
 have H:=h
 unfold spec_l8Var.f at H
 clear h
 by_cases c2:a0 ≥ 88
 rw [if_pos c2] at H
 have c2b0:=zdle c2
 rotate_left
 rw [if_neg c2] at H
 have c2b0:=zdnle c2
 rotate_left
 all_goals
  clear c2
  obtain rfl:=zi H
  go_enter Tryz.func97,Tryz.ntmps97
  go_wp2
  go_ret
  exact ⟨za23,za20⟩
def spec_IsTerm.l0:Nat→ByteArray→Int→Option (Bool)
 | 0,_,_=>none
 | k+1,x0,x3=>if x3 < (x0.size:Int) then (if 0≤x3 then ((spec_LetterIndex.f k (bt x0 x3)).bind fun t73001=>(if t73001 < 0 then ((spec_l8Var.f (bt x0 x3)).bind fun t73002=>(if t73002=true then (spec_IsTerm.l0 k x0 (wrap64 (x3+1))) else (some false))) else (spec_IsTerm.l0 k x0 (wrap64 (x3+1))))) else (none)) else (some (decide ((x0.size:Int)≤12)))
def spec_IsTerm.f (k:Nat) (a0:ByteArray):Option (Bool):=spec_IsTerm.l0 k a0 0
theorem spec_IsTerm.calls (k:Nat) (a0:ByteArray) (r:Bool) (w:World) (h:spec_IsTerm.f k a0=some r) :
   Calls Tryz.prog 73 #[.string a0] w fun e w'=>e = .returned (.bool r)∧Drawn0 w w':=by
 have H:=h
 unfold spec_IsTerm.f at H
 clear h
 have H':=zk H
 clear H
 go_enter Tryz.func73,Tryz.ntmps73
 go_wp2
 try simp only [Act.put,zt,zv,zu]
 go_loopg [3] k (fun kq v3 w'=>∃ (x3_1:Int),v3 = .int .i64 x3_1∧Aside0 (spec_IsTerm.l0 kq a0 x3_1=some r)∧Aside0 (kq≤k)∧Drawn0 w w')
 case atStart=>exact ⟨(0),za23,H',⟨Nat.le_refl _⟩,za20⟩
 case round =>
  clear H'
  obtain ⟨x3_1,rfl,HA,HK1,⟨m1,rfl⟩⟩:=hrel
  cases gk with
  | zero=>exact absurd HA.out (by simp [spec_IsTerm.l0])
  | succ k1 =>
   have H:=HA.out
   clear HA
   simp only [spec_IsTerm.l0] at H
   by_cases c2:x3_1 < (a0.size:Int)
   rw [if_pos c2] at H
   have c2b0:=zdl c2
   clear c2
   by_cases c3:0≤x3_1
   rw [if_pos c3] at H
   have c3b0:=zdle c3
   clear c3
   obtain ⟨t1,A5,H⟩:=zO H
   try dsimp only at H
   by_cases c6:t1 < 0
   rw [if_pos c6] at H
   have c6b0:=zdl c6
   clear c6
   obtain ⟨t2,A8,H⟩:=zO H
   try dsimp only at H
   by_cases c9:t2=true
   subst c9
   rw [if_pos rfl] at H
   try dsimp only at H
   have H':=zk H
   clear H
   have fin0_:=zk trivial
   rotate_left
   replace c9:=Bool.eq_false_iff.mpr c9
   subst c9
   rw [if_neg zff] at H
   try dsimp only at H
   obtain rfl:=zi H
   have fin1_:=zk trivial
   rotate_left
   · rw [if_neg c6] at H
     have c6b0:=zdnl c6
     clear c6
     have H':=zk H
     clear H
     have p4:0≤(x3_1:Int):=of_decide_eq_true za36
     have q4:x3_1 < (a0.size:Int):=of_decide_eq_true za36
     have hx4:=bt_at a0 x3_1
     replace p4:=eq_true p4
     replace q4:=eq_true q4
     go_wp2_with (first|((with_reducible refine gate_callee (f:=93) rfl ?_);refine zg (some 13) Tryz.func93 #[.int .u8 (bt a0 x3_1)] rfl za14 ?_;(with_reducible refine (spec_LetterIndex.calls k1 (bt a0 x3_1) t1 _ A5.out).mono ?_);rintro e w' ⟨rfl,⟨nd,rfl⟩⟩;refine ⟨_,rfl,?_⟩))
     go_roundg k1
     case measure=>have:=HK1.out;omega
     case rel=>exact ⟨(wrap64 (x3_1+1)),za23,H',⟨za43⟩,za20⟩
   · rw [if_neg c3] at H
     exact absurd H (by simp)
   · rw [if_neg c2] at H
     have c2b0:=zdnl c2
     clear c2
     obtain rfl:=zi H
     go_wp2
     go_ret
     exact ⟨za23,za20⟩
   all_goals
    have p4:0≤(x3_1:Int):=of_decide_eq_true za36
    have q4:x3_1 < (a0.size:Int):=of_decide_eq_true za36
    have hx4:=bt_at a0 x3_1
    replace p4:=eq_true p4
    replace q4:=eq_true q4
    go_wp2_with (first|((with_reducible refine gate_callee (f:=93) rfl ?_);refine zg (some 13) Tryz.func93 #[.int .u8 (bt a0 x3_1)] rfl za14 ?_;(with_reducible refine (spec_LetterIndex.calls k1 (bt a0 x3_1) t1 _ A5.out).mono ?_);rintro e w' ⟨rfl,⟨nd,rfl⟩⟩;refine ⟨_,rfl,?_⟩;have p7:0≤(x3_1:Int):=of_decide_eq_true za36;have q7:x3_1 < (a0.size:Int):=of_decide_eq_true za36;have hx7:=bt_at a0 x3_1;replace p7:=eq_true p7;replace q7:=eq_true q7)|(go_at_call 97;(with_reducible refine (spec_l8Var.calls (bt a0 x3_1) _ _ A8.out).mono ?_);rintro e w' ⟨rfl,⟨nd,rfl⟩⟩))
    first
    | (
      clear fin0_
      go_roundg k1
      case measure=>have:=HK1.out;omega
      case rel=>exact ⟨(wrap64 (x3_1+1)),za23,H',⟨za43⟩,za20⟩)
    | (
      clear fin1_
      go_ret
      exact ⟨za23,za20⟩)
def spec_VarsOf.l0:Nat→ByteArray→ByteArray→Int→Option (ByteArray)
 | 0,_,_,_=>none
 | k+1,x0,x3,x4=>if x4 < 3 then (if 0≤x4 then ((spec_CountByte.f k x0 (bt (⟨#[88,89,90]⟩:ByteArray) x4)).bind fun t54001=>(if t54001 > 0 then (if x4≤(wrap64 (x4+1)) then (if (wrap64 (x4+1))≤3 then (if x3.size+((⟨#[88,89,90]⟩:ByteArray).extract (x4:Int).toNat ((wrap64 (x4+1)):Int).toNat).size≤9223372036854775807 then (spec_VarsOf.l0 k x0 (x3 ++ ((⟨#[88,89,90]⟩:ByteArray).extract (x4:Int).toNat ((wrap64 (x4+1)):Int).toNat)) (wrap64 (x4+1))) else (none)) else (none)) else (none)) else (spec_VarsOf.l0 k x0 x3 (wrap64 (x4+1))))) else (none)) else (some x3)
def spec_VarsOf.f (k:Nat) (a0:ByteArray):Option (ByteArray):=spec_VarsOf.l0 k a0 (⟨#[]⟩:ByteArray) 0
theorem spec_VarsOf.calls (k:Nat) (a0:ByteArray) (r:ByteArray) (w:World) (h:spec_VarsOf.f k a0=some r) :
   Calls Tryz.prog 54 #[.string a0] w fun e w'=>e = .returned (.string r)∧Drawn0 w w':=by
 have H:=h
 unfold spec_VarsOf.f at H
 clear h
 have H':=zk H
 clear H
 go_enter Tryz.func54,Tryz.ntmps54
 go_wp2
 try simp only [Act.put,zt,zv,zu]
 go_loopg [3,4] k (fun kq v3 v4 w'=>∃ (x3_1:ByteArray) (x4_1:Int),v3 = .string x3_1∧v4 = .int .i64 x4_1∧Aside0 (spec_VarsOf.l0 kq a0 x3_1 x4_1=some r)∧Aside0 (kq≤k)∧Drawn0 w w')
 case atStart=>exact ⟨((⟨#[]⟩:ByteArray)),(0),za23,za23,H',⟨Nat.le_refl _⟩,za20⟩
 case round =>
  clear H'
  obtain ⟨x3_1,x4_1,rfl,rfl,HA,HK1,⟨m1,rfl⟩⟩:=hrel
  cases gk with
  | zero=>exact absurd HA.out (by simp [spec_VarsOf.l0])
  | succ k1 =>
   have H:=HA.out
   clear HA
   simp only [spec_VarsOf.l0] at H
   by_cases c2:x4_1 < 3
   rw [if_pos c2] at H
   have c2b0:=zdl c2
   clear c2
   by_cases c3:0≤x4_1
   rw [if_pos c3] at H
   have c3b0:=zdle c3
   clear c3
   obtain ⟨t1,A5,H⟩:=zO H
   try dsimp only at H
   by_cases c6:t1 > 0
   rw [if_pos c6] at H
   have c6b0:=zdl c6
   clear c6
   have c7b0:=eq_true (of_decide_eq_true za36:0≤x4_1)
   by_cases c8:x4_1≤(wrap64 (x4_1+1))
   rw [if_pos c8] at H
   have c8b0:=eq_true c8
   have c8b1:=zdle c8
   by_cases c9:(wrap64 (x4_1+1))≤3
   rw [if_pos c9] at H
   have c9b0:=eq_true c9
   have c9b1:=zdle c9
   by_cases c10:x3_1.size+((⟨#[88,89,90]⟩:ByteArray).extract (x4_1:Int).toNat ((wrap64 (x4_1+1)):Int).toNat).size≤9223372036854775807
   rw [if_pos c10] at H
   have c10z:=c10
   try simp at c10z
   try replace c10z:=eq_false (Nat.not_lt.2 c10z)
   have c10b0:=eq_true c10
   have c10b1:=zdle c10
   try have c10b2:(9223372036854775807 < x3_1.size+((⟨#[88,89,90]⟩:ByteArray).extract (x4_1:Int).toNat ((wrap64 (x4_1+1)):Int).toNat).size)=False:=eq_false (Nat.not_lt.2 c10)
   have fin0_:=zk trivial
   rotate_left
   · rw [if_neg c10] at H
     exact absurd H (by simp)
   · rw [if_neg c9] at H
     exact absurd H (by simp)
   · rw [if_neg c8] at H
     exact absurd H (by simp)
   rw [if_neg c6] at H
   have c6b0:=zdnl c6
   clear c6
   have fin1_:=zk trivial
   rotate_left
   · rw [if_neg c3] at H
     exact absurd H (by simp)
   · rw [if_neg c2] at H
     have c2b0:=zdnl c2
     clear c2
     obtain rfl:=zi H
     go_wp2
     go_ret
     exact ⟨za23,za20⟩
   all_goals
    have H':=zk H
    clear H
    have p4:0≤(x4_1:Int):=of_decide_eq_true za36
    have q4:x4_1 < (3:Int):=of_decide_eq_true za36
    have hx4:=bt_at (⟨#[88,89,90]⟩:ByteArray) x4_1
    replace p4:=eq_true p4
    replace q4:=eq_true q4
    go_wp2_with (((with_reducible refine gate_callee (f:=35) rfl ?_);refine zg (some 12) Tryz.func35 #[.string a0,.int .u8 (bt (⟨#[88,89,90]⟩:ByteArray) x4_1)] rfl za14 ?_;(with_reducible refine (spec_CountByte.calls k1 a0 (bt (⟨#[88,89,90]⟩:ByteArray) x4_1) t1 _ A5.out).mono ?_);rintro e w' ⟨rfl,⟨nd,rfl⟩⟩;refine ⟨_,rfl,?_⟩))
    first
    | (
      clear fin0_
      go_roundg k1
      case measure=>have:=HK1.out;omega
      case rel=>exact ⟨(x3_1 ++ ((⟨#[88,89,90]⟩:ByteArray).extract (x4_1:Int).toNat ((wrap64 (x4_1+1)):Int).toNat)),(wrap64 (x4_1+1)),za23,za23,H',⟨za43⟩,za20⟩)
    | (
      clear fin1_
      go_roundg k1
      case measure=>have:=HK1.out;omega
      case rel=>exact ⟨(x3_1),(wrap64 (x4_1+1)),za23,za23,H',⟨za43⟩,za20⟩)
def spec_WithValue.f (a0_0:ByteArray) (a0_1:ByteArray) (a0_2:ByteArray) (a1:Int) (a2:ByteArray):Option (ByteArray × ByteArray × ByteArray):=if a1=88 then (some (a2,a0_1,a0_2)) else (if a1=89 then (some (a0_0,a2,a0_2)) else (if a1=90 then (some (a0_0,a0_1,a2)) else (some (a0_0,a0_1,a0_2))))
theorem spec_WithValue.calls (a0_0:ByteArray) (a0_1:ByteArray) (a0_2:ByteArray) (a1:Int) (a2:ByteArray) (r1:ByteArray) (r2:ByteArray) (r3:ByteArray) (w:World) (h:spec_WithValue.f a0_0 a0_1 a0_2 a1 a2=some (r1,r2,r3)) :
   Calls Tryz.prog 36 #[.agg #[.string a0_0,.string a0_1,.string a0_2],.int .u8 a1,.string a2] w fun e w'=>e = .returned (.agg #[.string r1,.string r2,.string r3])∧Below w.heap.size w w':=by
 have hu32:=Tryz.underlying32
 have HB:=zk (Below.refl w.heap.size w)
 have H:=h
 unfold spec_WithValue.f at H
 clear h
 by_cases c4:a1=88
 rw [if_pos c4] at H
 have c4b0:=zbt c4
 have c4b1:=zqn c4
 clear c4
 have fin3_:=zk trivial
 rotate_left
 rw [if_neg c4] at H
 have c4b0:=zbn c4
 have c4b1:=zqt c4
 by_cases c10:a1=89
 rw [if_pos c10] at H
 have c10b0:=zbt c10
 have c10b1:=zqn c10
 clear c10
 have fin0_:=zk trivial
 rotate_left
 rw [if_neg c10] at H
 have c10b0:=zbn c10
 have c10b1:=zqt c10
 by_cases c16:a1=90
 rw [if_pos c16] at H
 have c16b0:=zbt c16
 have c16b1:=zqn c16
 clear c16
 have fin1_:=zk trivial
 rotate_left
 rw [if_neg c16] at H
 have c16b0:=zbn c16
 have c16b1:=zqt c16
 have fin2_:=zk trivial
 rotate_left
 all_goals
  simp only [Option.some.injEq,Prod.mk.injEq] at H
  obtain ⟨rfl,rfl,rfl⟩:=H
  go_enter Tryz.func36,Tryz.ntmps36
  go_wp2_with (first|((with_reducible refine gate_dst (N:=3) rfl ?_);refine zE (cs:=#[.string a0_0,.string a0_1,.string a0_2]) (t:=32) ?_;intro gb1 hg w11 hbox hb;have BK1:=zk hbox;have GW1:=zk (zs (w:=w) hg za9);have GE1:=GW1;replace HB:=yB HB hb;clear hb hbox hg)|((with_reducible refine gate_dst (N:=6) rfl ?_);refine zE (cs:=#[.string ⟨#[]⟩,.string ⟨#[]⟩,.string ⟨#[]⟩]) (t:=32) ?_;intro gb2 hg w12 hbox hb;have BK2:=zk hbox;have GW2:=zk (zs (w:=w) hg za9);have GE2:=GW2;have NB1_2:=yn hg BK1;have NB2_1:=yp hg BK1;replace BK1:=yb BK1 hb;replace HB:=yB HB hb;clear hb hbox hg;have hnb13:=NB1_2.out;have hnc13:=NB2_1.out;obtain ⟨hcz14_0,hcz14_1,hcz14_2,hfz14_0,hfz14_1,hfz14_2⟩:=blk3 BK1.out;obtain ⟨hcz15_0,hcz15_1,hcz15_2,hfz15_0,hfz15_1,hfz15_2⟩:=blk3 BK2.out))
  first
  | (
    clear fin0_
    refine bodyPost_ret (results_cell_row rfl _ _ gb2 32 #[.string a0_0,.string a2,.string a0_2] (0,0) _ rfl (zpw BK2.out) Tryz.underlying32 rfl (by kernel_rfl)) rfl ?_
    exact ⟨za24,za9⟩)
  | (
    clear fin1_
    refine bodyPost_ret (results_cell_row rfl _ _ gb2 32 #[.string a0_0,.string a0_1,.string a2] (0,0) _ rfl (zpw BK2.out) Tryz.underlying32 rfl (by kernel_rfl)) rfl ?_
    exact ⟨za24,za9⟩)
  | (
    clear fin2_
    refine bodyPost_ret (results_cell_row rfl _ _ gb2 32 #[.string a0_0,.string a0_1,.string a0_2] (0,0) _ rfl (zpu BK2.out) Tryz.underlying32 rfl (by kernel_rfl)) rfl ?_
    exact ⟨za24,za9⟩)
  | (
    clear fin3_
    refine bodyPost_ret (results_cell_row rfl _ _ gb2 32 #[.string a2,.string a0_1,.string a0_2] (0,0) _ rfl (zpw BK2.out) Tryz.underlying32 rfl (by kernel_rfl)) rfl ?_
    exact ⟨za24,za9⟩)
def spec_ValueOf.f (a0_0:ByteArray) (a0_1:ByteArray) (a0_2:ByteArray) (a1:Int):Option (ByteArray):=if a1=88 then (some a0_0) else (if a1=89 then (some a0_1) else (if a1=90 then (some a0_2) else (some (⟨#[]⟩:ByteArray))))
theorem spec_ValueOf.calls (a0_0:ByteArray) (a0_1:ByteArray) (a0_2:ByteArray) (a1:Int) (r:ByteArray) (w:World) (h:spec_ValueOf.f a0_0 a0_1 a0_2 a1=some r) :
   Calls Tryz.prog 39 #[.agg #[.string a0_0,.string a0_1,.string a0_2],.int .u8 a1] w fun e w'=>e = .returned (.string r)∧Below w.heap.size w w':=by
 have hu32:=Tryz.underlying32
 have HB:=zk (Below.refl w.heap.size w)
 have H:=h
 unfold spec_ValueOf.f at H
 clear h
 by_cases c3:a1=88
 rw [if_pos c3] at H
 have c3b0:=zbt c3
 have c3b1:=zqn c3
 clear c3
 rotate_left
 rw [if_neg c3] at H
 have c3b0:=zbn c3
 have c3b1:=zqt c3
 by_cases c6:a1=89
 rw [if_pos c6] at H
 have c6b0:=zbt c6
 have c6b1:=zqn c6
 clear c6
 rotate_left
 rw [if_neg c6] at H
 have c6b0:=zbn c6
 have c6b1:=zqt c6
 by_cases c9:a1=90
 rw [if_pos c9] at H
 have c9b0:=zbt c9
 have c9b1:=zqn c9
 clear c9
 rotate_left
 rw [if_neg c9] at H
 have c9b0:=zbn c9
 have c9b1:=zqt c9
 rotate_left
 all_goals
  obtain rfl:=zi H
  go_enter Tryz.func39,Tryz.ntmps39
  go_wp2_with (((with_reducible refine gate_dst (N:=2) rfl ?_);refine zE (cs:=#[.string a0_0,.string a0_1,.string a0_2]) (t:=32) ?_;intro gb1 hg w10 hbox hb;have BK1:=zk hbox;have GW1:=zk (zs (w:=w) hg za9);have GE1:=GW1;replace HB:=yB HB hb;clear hb hbox hg;obtain ⟨hcz11_0,hcz11_1,hcz11_2,hfz11_0,hfz11_1,hfz11_2⟩:=blk3 BK1.out))
  go_ret
  exact ⟨za24,za9⟩
def spec_ApplyValues.l0:Nat→ByteArray→ByteArray→Int→ByteArray→ByteArray→ByteArray→Option (ByteArray)
 | 0,_,_,_,_,_,_=>none
 | k+1,x0,x5,x6,x90002000,x90002001,x90002002=>if x6 < (x0.size:Int) then (if 0≤x6 then ((spec_l8Var.f (bt x0 x6)).bind fun t90002=>(if t90002=true then ((spec_ValueOf.f x90002000 x90002001 x90002002 (bt x0 x6)).bind fun t90003=>(if x5.size+t90003.size≤9223372036854775807 then (if ((x5 ++ t90003).size:Int) > 1048576 then (some (⟨#[]⟩:ByteArray)) else (spec_ApplyValues.l0 k x0 (x5 ++ t90003) (wrap64 (x6+1)) x90002000 x90002001 x90002002)) else (none))) else (if x6≤(wrap64 (x6+1)) then (if (wrap64 (x6+1))≤(x0.size:Int) then (if x5.size+(x0.extract (x6:Int).toNat ((wrap64 (x6+1)):Int).toNat).size≤9223372036854775807 then (if ((x5 ++ (x0.extract (x6:Int).toNat ((wrap64 (x6+1)):Int).toNat)).size:Int) > 1048576 then (some (⟨#[]⟩:ByteArray)) else (spec_ApplyValues.l0 k x0 (x5 ++ (x0.extract (x6:Int).toNat ((wrap64 (x6+1)):Int).toNat)) (wrap64 (x6+1)) x90002000 x90002001 x90002002)) else (none)) else (none)) else (none)))) else (none)) else (some x5)
def spec_ApplyValues.f (k:Nat) (a0:ByteArray) (a1_0:ByteArray) (a1_1:ByteArray) (a1_2:ByteArray):Option (ByteArray):=spec_ApplyValues.l0 k a0 (⟨#[]⟩:ByteArray) 0 a1_0 a1_1 a1_2
def spec_ApplyValues.T6:Bool × List (List Nat × List Nat):=(true,[([],[]),([],[]),([],[]),([],[]),([2,3],[2,3]),([1,4],[1,4]),([0,5],[0,5]),([6,5,0,1,2,3,4,5,6],[0,6])])
def spec_ApplyValues.B6:List Nat:=[0,0,0,0,12,30,63,127]
theorem spec_ApplyValues.tab6:rtab .any (opsOf Tryz.f90 6)=spec_ApplyValues.T6:=by kernel_rfl
theorem spec_ApplyValues.bits6:waitsOk spec_ApplyValues.T6.2 spec_ApplyValues.B6=true:=by kernel_rfl
theorem spec_ApplyValues.calls (k:Nat) (a0:ByteArray) (a1_0:ByteArray) (a1_1:ByteArray) (a1_2:ByteArray) (r:ByteArray) (w:World) (h:spec_ApplyValues.f k a0 a1_0 a1_1 a1_2=some r) :
   Calls Tryz.prog 90 #[.string a0,.agg #[.string a1_0,.string a1_1,.string a1_2]] w fun e w'=>e = .returned (.string r)∧Below w.heap.size w w':=by
 have hu32:=Tryz.underlying32
 have HB:=zk (Below.refl w.heap.size w)
 have H:=h
 unfold spec_ApplyValues.f at H
 clear h
 have H':=zk H
 clear H
 go_enter Tryz.func90,Tryz.ntmps90
 go_wp2_with (first|((with_reducible refine gate_dst (N:=3) rfl ?_);refine zE (cs:=#[.string a1_0,.string a1_1,.string a1_2]) (t:=32) ?_;intro gb1 hg w3 hbox hb;have BK1:=zk hbox;have GW1:=zk (zs (w:=w) hg za9);have GE1:=GW1;replace HB:=yB HB hb;clear hb hbox hg))
 try simp only [Act.put,zt,zv,zu]
 go_loopg [5,6] k (fun kq v5 v6 w'=>∃ (x5_1:ByteArray) (x6_1:Int),v5 = .string x5_1∧v6 = .int .i64 x6_1∧Aside0 (spec_ApplyValues.l0 kq a0 x5_1 x6_1 a1_0 a1_1 a1_2=some r)∧Aside0 (kq≤k)∧Aside0 (w'.heap[gb1]? = some (.cells #[.string a1_0,.string a1_1,.string a1_2] 32 (0,0)))∧Aside0 (Below w.heap.size w w'))
 case atStart=>exact ⟨((⟨#[]⟩:ByteArray)),(0),za23,za23,H',⟨Nat.le_refl _⟩,⟨za0 BK1.out⟩,⟨za9⟩⟩
 case round =>
  clear H'
  obtain ⟨x5_1,x6_1,rfl,rfl,HA,HK1,BK1,HB⟩:=hrel
  cases gk with
  | zero=>exact absurd HA.out (by simp [spec_ApplyValues.l0])
  | succ k1 =>
   have H:=HA.out
   clear HA
   simp only [spec_ApplyValues.l0] at H
   by_cases c4:x6_1 < (a0.size:Int)
   rw [if_pos c4] at H
   have c4b0:=zdl c4
   clear c4
   by_cases c5:0≤x6_1
   rw [if_pos c5] at H
   have c5b0:=zdle c5
   clear c5
   obtain ⟨t2,A7,H⟩:=zO H
   try dsimp only at H
   by_cases c8:t2=true
   subst c8
   rw [if_pos rfl] at H
   try dsimp only at H
   obtain ⟨t3,A10,H⟩:=zO H
   try dsimp only at H
   by_cases c11:x5_1.size+t3.size≤9223372036854775807
   rw [if_pos c11] at H
   have c11z:=c11
   try simp at c11z
   try replace c11z:=eq_false (Nat.not_lt.2 c11z)
   have c11b0:=eq_true c11
   have c11b1:=zdle c11
   try have c11b2:(9223372036854775807 < x5_1.size+t3.size)=False:=eq_false (Nat.not_lt.2 c11)
   by_cases c12:((x5_1 ++ t3).size:Int) > 1048576
   rw [if_pos c12] at H
   have c12b0:=zdl c12
   have c12y:=c12b0
   try simp at c12y
   have c12b1:decide (1048576 < (x5_1 ++ t3).size)=true:=decide_eq_true (by omega)
   clear c12
   obtain rfl:=zi H
   have tag0_:=zk trivial
   have fin0_:=zk trivial
   rotate_left
   rw [if_neg c12] at H
   have c12b0:=zdnl c12
   have c12y:=c12b0
   try simp at c12y
   have c12b1:decide (1048576 < (x5_1 ++ t3).size)=false:=decide_eq_false (by omega)
   clear c12
   have H':=zk H
   clear H
   have tag0_:=zk trivial
   have fin1_:=zk trivial
   rotate_left
   · rw [if_neg c11] at H
     exact absurd H (by simp)
   replace c8:=Bool.eq_false_iff.mpr c8
   subst c8
   rw [if_neg zff] at H
   try dsimp only at H
   have c17b0:=eq_true (of_decide_eq_true za36:0≤x6_1)
   by_cases c18:x6_1≤(wrap64 (x6_1+1))
   rw [if_pos c18] at H
   have c18b0:=eq_true c18
   have c18b1:=zdle c18
   by_cases c19:(wrap64 (x6_1+1))≤(a0.size:Int)
   rw [if_pos c19] at H
   have c19b0:=eq_true c19
   have c19b1:=zdle c19
   by_cases c20:x5_1.size+(a0.extract (x6_1:Int).toNat ((wrap64 (x6_1+1)):Int).toNat).size≤9223372036854775807
   rw [if_pos c20] at H
   have c20z:=c20
   try simp at c20z
   try replace c20z:=eq_false (Nat.not_lt.2 c20z)
   have c20b0:=eq_true c20
   have c20b1:=zdle c20
   try have c20b2:(9223372036854775807 < x5_1.size+(a0.extract (x6_1:Int).toNat ((wrap64 (x6_1+1)):Int).toNat).size)=False:=eq_false (Nat.not_lt.2 c20)
   by_cases c21:((x5_1 ++ (a0.extract (x6_1:Int).toNat ((wrap64 (x6_1+1)):Int).toNat)).size:Int) > 1048576
   rw [if_pos c21] at H
   have c21b0:=zdl c21
   have c21w:decide (1048576 < ((x5_1 ++ (a0.extract (x6_1:Int).toNat ((IntKind.i64.wrap (x6_1+1)):Int).toNat)).size:Int))=true:=by simp only [i64_w];exact c21b0
   have c21y:=c21b0
   try simp at c21y
   have c21b1:decide (1048576 < (x5_1 ++ (a0.extract (x6_1:Int).toNat ((wrap64 (x6_1+1)):Int).toNat)).size)=true:=decide_eq_true (by omega)
   clear c21
   obtain rfl:=zi H
   have tag1_:=zk trivial
   have fin0_:=zk trivial
   rotate_left
   rw [if_neg c21] at H
   have c21b0:=zdnl c21
   have c21w:decide (1048576 < ((x5_1 ++ (a0.extract (x6_1:Int).toNat ((IntKind.i64.wrap (x6_1+1)):Int).toNat)).size:Int))=false:=by simp only [i64_w];exact c21b0
   have c21y:=c21b0
   try simp at c21y
   have c21b1:decide (1048576 < (x5_1 ++ (a0.extract (x6_1:Int).toNat ((wrap64 (x6_1+1)):Int).toNat)).size)=false:=decide_eq_false (by omega)
   clear c21
   have H':=zk H
   clear H
   have tag1_:=zk trivial
   have fin1_:=zk trivial
   rotate_left
   · rw [if_neg c20] at H
     exact absurd H (by simp)
   · rw [if_neg c19] at H
     exact absurd H (by simp)
   · rw [if_neg c18] at H
     exact absurd H (by simp)
   · rw [if_neg c5] at H
     exact absurd H (by simp)
   · rw [if_neg c4] at H
     have c4b0:=zdnl c4
     clear c4
     obtain rfl:=zi H
     go_wp2
     go_ret
     exact ⟨za24,za9⟩
   all_goals first
    | (
      clear tag0_
      have p6:0≤(x6_1:Int):=of_decide_eq_true za36
      have q6:x6_1 < (a0.size:Int):=of_decide_eq_true za36
      have hx6:=bt_at a0 x6_1
      replace p6:=eq_true p6
      replace q6:=eq_true q6
      try go_wp2_with (first|((with_reducible refine gate_callee (f:=97) rfl ?_);refine zg (some 16) Tryz.func97 #[.int .u8 (bt a0 x6_1)] rfl za14 ?_;(with_reducible refine (spec_l8Var.calls (bt a0 x6_1) _ _ A7.out).mono ?_);rintro e w' ⟨rfl,⟨nd,rfl⟩⟩;refine ⟨_,rfl,?_⟩))
      (try (rw [drewN_self wr];generalize hq_:World.drewN wr _=wr;have n0_:Aside0 (wr.heap[gb1]? = some (.cells #[.string a1_0,.string a1_1,.string a1_2] 32 (0,0))):=⟨by rw [← hq_];exact (za0 BK1.out)⟩;have n1_:Aside0 (Below w.heap.size w wr):=⟨by rw [← hq_];exact za9⟩;clear BK1 HB hq_;have BK1:=n0_;have HB:=n1_;clear n0_ n1_))
      replace BK1:=zk (blk_drew BK1.out)
      replace HB:=zk (below_drew1 HB.out)
      have p9:0≤(x6_1:Int):=of_decide_eq_true za36
      have q9:x6_1 < (a0.size:Int):=of_decide_eq_true za36
      have hx9:=bt_at a0 x6_1
      replace p9:=eq_true p9
      replace q9:=eq_true q9
      refine start_ (n:=8) (S:=fun w'=>w'.cell? ⟨gb1,0,none⟩=some (.string a1_0)∧w'.cell? ⟨gb1,1,none⟩=some (.string a1_1)∧w'.cell? ⟨gb1,2,none⟩=some (.string a1_2)) (ds:=[]) #[false,false,false,false,false,false,false,false] (by kernel_rfl) rfl rfl ⟨(blk_cell BK1.out 0).trans rfl,(blk_cell BK1.out 1).trans rfl,(blk_cell BK1.out 2).trans rfl⟩ (fun hHeld=>?_);refine with_tabW spec_ApplyValues.tab6 spec_ApplyValues.bits6 (fun HT_ HW_=>?_)
      generalize wr.drew=w13 at BK1 HB hHeld ⊢
      refine zy 0 (some 17) HT_.out ?_
      refine zy 2 (some 19) HT_.out ?_
      refine zy 3 (some 20) HT_.out ?_
      refine ztk 1 (some 18) HT_.out HW_.out hHeld ?_
      refine ztk 4 (some 21) HT_.out HW_.out hHeld ?_
      refine zon 5 (some 22) HT_.out (fun K hK=>?_)
      refine goes_ Tryz.func39 (by kernel_rfl) rfl #[.agg #[.string a1_0,.string a1_1,.string a1_2],.int .u8 (bt a0 x6_1)] (by rfl) rfl rfl za14 ?_
      with_reducible refine (spec_ValueOf.calls a1_0 a1_1 a1_2 (bt a0 x6_1) t3 _ A10.out).mono ?_
      rintro e w14 ⟨rfl,hb⟩
      refine ⟨_,rfl,?_⟩
      replace BK1:=yb BK1 hb
      replace HB:=yB HB hb
      (try clear hb)
      (try clear hb2)
      (try clear hk)
      (try clear hi)
      refine hK.out _ _ ⟨(blk_cell BK1.out 0).trans rfl,(blk_cell BK1.out 1).trans rfl,(blk_cell BK1.out 2).trans rfl⟩ (fun hHeld=>?_)
      clear hK K
      refine zno (some 22) ?_
      refine zy 6 (some 23) HT_.out ?_
      refine zy 7 (some 5) HT_.out ?_
      refine done_ (done_of HT_.out (by kernel_rfl)) ?_
      try go_wp2
      first
      | (
       clear fin0_
       go_ret
       exact ⟨za24,za9⟩)
      | (
       clear fin1_
       go_roundg k1
       case measure=>have:=HK1.out;omega
       case rel=>exact ⟨(x5_1 ++ t3),(wrap64 (x6_1+1)),za23,za23,H',⟨za43⟩,⟨za0 BK1.out⟩,⟨za9⟩⟩))
    | (
      clear tag1_
      have p6:0≤(x6_1:Int):=of_decide_eq_true za36
      have q6:x6_1 < (a0.size:Int):=of_decide_eq_true za36
      have hx6:=bt_at a0 x6_1
      replace p6:=eq_true p6
      replace q6:=eq_true q6
      go_wp2_with (((with_reducible refine gate_callee (f:=97) rfl ?_);refine zg (some 16) Tryz.func97 #[.int .u8 (bt a0 x6_1)] rfl za14 ?_;(with_reducible refine (spec_l8Var.calls (bt a0 x6_1) _ _ A7.out).mono ?_);rintro e w' ⟨rfl,⟨nd,rfl⟩⟩;refine ⟨_,rfl,?_⟩))
      first
      | (
       clear fin0_
       go_ret
       exact ⟨za24,za9⟩)
      | (
       clear fin1_
       go_roundg k1
       case measure=>have:=HK1.out;omega
       case rel=>exact ⟨(x5_1 ++ (a0.extract (x6_1:Int).toNat ((wrap64 (x6_1+1)):Int).toNat)),(wrap64 (x6_1+1)),za23,za23,H',⟨za43⟩,⟨za0 BK1.out⟩,⟨za9⟩⟩))
def spec_IsValues.f (k:Nat) (a0_0:ByteArray) (a0_1:ByteArray) (a0_2:ByteArray):Option (Bool):=(spec_IsWord.f k a0_0).bind fun t41002=>(if t41002=true then ((spec_IsWord.f k a0_1).bind fun t41003=>(if t41003=true then ((spec_IsWord.f k a0_2).bind fun t41004=>(some t41004)) else (some false))) else (some false))
theorem spec_IsValues.calls (k:Nat) (a0_0:ByteArray) (a0_1:ByteArray) (a0_2:ByteArray) (r:Bool) (w:World) (h:spec_IsValues.f k a0_0 a0_1 a0_2=some r) :
   Calls Tryz.prog 41 #[.agg #[.string a0_0,.string a0_1,.string a0_2]] w fun e w'=>e = .returned (.bool r)∧Below w.heap.size w w':=by
 have hu32:=Tryz.underlying32
 have HB:=zk (Below.refl w.heap.size w)
 have H:=h
 unfold spec_IsValues.f at H
 clear h
 obtain ⟨t2,A2,H⟩:=zO H
 try dsimp only at H
 by_cases c3:t2=true
 subst c3
 rw [if_pos rfl] at H
 try dsimp only at H
 obtain ⟨t3,A4,H⟩:=zO H
 try dsimp only at H
 by_cases c5:t3=true
 subst c5
 rw [if_pos rfl] at H
 try dsimp only at H
 obtain ⟨t4,A6,H⟩:=zO H
 try dsimp only at H
 rotate_left
 replace c5:=Bool.eq_false_iff.mpr c5
 subst c5
 rw [if_neg zff] at H
 try dsimp only at H
 rotate_left
 replace c3:=Bool.eq_false_iff.mpr c3
 subst c3
 rw [if_neg zff] at H
 try dsimp only at H
 rotate_left
 all_goals
  obtain rfl:=zi H
  go_enter Tryz.func41,Tryz.ntmps41
  go_wp2_with (first|((with_reducible refine gate_dst (N:=1) rfl ?_);refine zE (cs:=#[.string a0_0,.string a0_1,.string a0_2]) (t:=32) ?_;intro gb1 hg w11 hbox hb;have BK1:=zk hbox;have GW1:=zk (zs (w:=w) hg za9);have GE1:=GW1;replace HB:=yB HB hb;clear hb hbox hg;obtain ⟨hcz12_0,hcz12_1,hcz12_2,hfz12_0,hfz12_1,hfz12_2⟩:=blk3 BK1.out)|((with_reducible refine gate_callee (f:=65) rfl ?_);refine zg (some 5) Tryz.func65 #[.string a0_0] rfl za14 ?_;(with_reducible refine (spec_IsWord.calls k a0_0 _ _ A2.out).mono ?_);rintro e w' ⟨rfl,⟨nd,rfl⟩⟩;refine ⟨_,rfl,?_⟩)|(go_at_call 65;(with_reducible refine (spec_IsWord.calls k a0_1 _ _ A4.out).mono ?_);rintro e w' ⟨rfl,⟨nd,rfl⟩⟩)|(go_at_call 65;(with_reducible refine (spec_IsWord.calls k a0_2 t4 _ A6.out).mono ?_);rintro e w' ⟨rfl,⟨nd,rfl⟩⟩))
  go_ret
  exact ⟨za24,za9⟩
def spec_l2Word.l0:Nat→ByteArray→Int→Int→List Int→Int→Int→Option (ByteArray × Int × Int)
 | 0,_,_,_,_,_,_=>none
 | k+1,x5,x6,x7,x1000,x1001,x1002=>if x7 < x6 then ((spec_l1Pick.f x1000 x1001 x1002 (([⟨#[97]⟩,⟨#[98]⟩,⟨#[97]⟩,⟨#[98]⟩,⟨#[99]⟩]:List ByteArray))).bind fun bt62007=>(if x5.size+bt62007.1.size≤9223372036854775807 then (spec_l2Word.l0 k (x5 ++ bt62007.1) x6 (wrap64 (x7+1)) x1000 bt62007.2.1 bt62007.2.2) else (none))) else (some (x5,x1001,x1002))
def spec_l2Word.f (k:Nat) (s0_0:List Int) (s0_1:Int) (s0_2:Int) (a1:Int):Option (ByteArray × Int × Int):=(spec_l1Below.f s0_0 s0_1 s0_2 (wrap64 (a1+1))).bind fun bt62001=>(spec_l2Word.l0 k (⟨#[]⟩:ByteArray) bt62001.1 0 s0_0 bt62001.2.1 bt62001.2.2)
theorem spec_l2Word.calls (k:Nat) (g:Nat) (s0_0:List Int) (s0_1:Int) (s0_2:Int) (a1:Int) (r1:ByteArray) (r2:Int) (r3:Int) (w0 w:World) (hI:IsS77 w0 w g s0_0 s0_1 s0_2) (hB:Below w0.heap.size w0 w) (h:spec_l2Word.f k s0_0 s0_1 s0_2 a1=some (r1,r2,r3)) :
   Calls Tryz.prog 62 #[.pointer (some ⟨g,0,none⟩),.int .i64 a1] w fun e w'=>e = .returned (.string r1)∧IsS77 w0 w' g s0_0 r2 r3∧Below w0.heap.size w0 w'∧KeepBut w w' g none:=by
 have HI0:=zk hI
 have HK:=zk (KeepBut.refl w g none)
 have HL:=zk hB.size
 clear hI
 have HW0:=zk hB.size
 have HB:=zk hB
 clear hB
 have H:=h
 unfold spec_l2Word.f at H
 clear h
 obtain ⟨⟨t1,t2,t3⟩,A3,H⟩:=zO H
 try dsimp only at H
 have H':=zk H
 clear H
 go_enter Tryz.func62,Tryz.ntmps62
 go_wp2_with (first|((with_reducible refine gate_callee (f:=42) rfl ?_);refine zg (some 11) Tryz.func42 #[.pointer (some ⟨g,0,none⟩),.int .i64 (wrap64 (a1+1))] rfl za14 ?_;(with_reducible refine (spec_l1Below.calls g s0_0 s0_1 s0_2 (wrap64 (a1+1)) t1 t2 t3 w0 _ za17 za19 A3.out).mono ?_);rintro e w4 ⟨rfl,hi,hb,hk⟩;refine ⟨_,rfl,?_⟩;replace HK:=yK HK hk;replace HB:=zk hb;replace HI0:=zk hi;(try clear hb hk hi)))
 try simp only [Act.put,zt,zv,zu]
 go_loopg [5,7] k (fun kq v5 v7 w'=>∃ (x5_1:ByteArray) (x7_1:Int) (x1001_1:Int) (x1002_1:Int),v5 = .string x5_1∧v7 = .int .i64 x7_1∧Aside0 (spec_l2Word.l0 kq x5_1 t1 x7_1 s0_0 x1001_1 x1002_1=some (r1,r2,r3))∧Aside0 (kq≤k)∧Aside0 (IsS77 w0 w' g s0_0 x1001_1 x1002_1)∧Aside0 (KeepBut w w' g none)∧Aside0 (Below w0.heap.size w0 w'))
 case atStart=>exact ⟨((⟨#[]⟩:ByteArray)),(0),(t2),(t3),za23,za23,H',⟨Nat.le_refl _⟩,⟨za17⟩,⟨za21⟩,⟨za19⟩⟩
 case round =>
  clear H'
  obtain ⟨x5_1,x7_1,x1001_1,x1002_1,rfl,rfl,HA,HK1,HI0,HK,HB⟩:=hrel
  cases gk with
  | zero=>exact absurd HA.out (by simp [spec_l2Word.l0])
  | succ k1 =>
   have H:=HA.out
   clear HA
   simp only [spec_l2Word.l0] at H
   by_cases c5:x7_1 < t1
   rw [if_pos c5] at H
   have c5b0:=zdl c5
   clear c5
   obtain ⟨y62004,hy62004⟩:∃ y_:List ByteArray,y_=(([⟨#[97]⟩,⟨#[98]⟩,⟨#[97]⟩,⟨#[98]⟩,⟨#[99]⟩]:List ByteArray)):=⟨_,rfl⟩
   replace H:((spec_l1Pick.f s0_0 x1001_1 x1002_1 y62004).bind fun bt7=>(if x5_1.size+bt7.1.size≤9223372036854775807 then (spec_l2Word.l0 k1 (x5_1 ++ bt7.1) t1 (wrap64 (x7_1+1)) s0_0 bt7.2.1 bt7.2.2) else (none)))=some (r1,r2,r3):=by first|(rw [hy62004];with_reducible exact H)|(have H2_:=(Option.bind_some _ _).symm.trans H;rw [hy62004];with_reducible exact H2_)|(have H2_:=(Option.bind_some _ _).symm.trans H;with_reducible exact H2_)|with_reducible exact H|(rw [hy62004];exact H)|exact H
   have Ny4:=zk hy62004
   clear hy62004
   obtain ⟨⟨t7,t8,t9⟩,A6,H⟩:=zO H
   try dsimp only at H
   by_cases c7:x5_1.size+t7.size≤9223372036854775807
   ·rw [if_pos c7] at H
    have c7z:=c7
    try simp at c7z
    try replace c7z:=eq_false (Nat.not_lt.2 c7z)
    have c7b0:=eq_true c7
    have c7b1:=zdle c7
    try have c7b2:(9223372036854775807 < x5_1.size+t7.size)=False:=eq_false (Nat.not_lt.2 c7)
    have H':=zk H
    clear H
    go_wp2_with (first|((with_reducible refine gate_dst (N:=19) rfl ?_);refine Kd.R_lit Kd.string _ 9 ?hg (N:=19) ?hd (xs:=([⟨#[97]⟩,⟨#[98]⟩,⟨#[97]⟩,⟨#[98]⟩,⟨#[99]⟩]:List ByteArray)) (inner:=[.string ⟨#[97]⟩,.string ⟨#[98]⟩,.string ⟨#[97]⟩,.string ⟨#[98]⟩,.string ⟨#[99]⟩]) (ok:=fun _=>True) (okp:=fun _=>True) ?hr ?hp (fun _ hk=>hk) trivial (Below.refl _ _) (Nat.le_refl _) (by simp) ?_;(case hd=>rfl);(case hg=>rfl);(case hr=>first|(go_simp;done)|(go_simp;rfl));(case hp=>exact (Reps.one (show Kd.M Kd.string _ _ _ (⟨#[97]⟩:ByteArray) [.string ⟨#[97]⟩] from rfl) (Reps.one (show Kd.M Kd.string _ _ _ (⟨#[98]⟩:ByteArray) [.string ⟨#[98]⟩] from rfl) (Reps.one (show Kd.M Kd.string _ _ _ (⟨#[97]⟩:ByteArray) [.string ⟨#[97]⟩] from rfl) (Reps.one (show Kd.M Kd.string _ _ _ (⟨#[98]⟩:ByteArray) [.string ⟨#[98]⟩] from rfl) (Reps.one (show Kd.M Kd.string _ _ _ (⟨#[99]⟩:ByteArray) [.string ⟨#[99]⟩] from rfl) (Reps.none _ _)))))));intro v62005 w8 ho9 hb hg_ hnew_;clear hg_ hnew_;(first|rw [← Ny4.out] at ho9|(simp only [Int.reduceToNat] at ho9;rw [← Ny4.out] at ho9));have HO6:=zk (Kd.R_lower ho9 (keep_size (w:=w) (g:=g) (row:=none) za21));replace HB:=zk (below_step za19 hb);replace HI0:=zk (IsS77.below za17 hb);replace HK:=yk HK hb;clear hb ho9;obtain ⟨Ao10,co10,eo10⟩:=Kd.R_slice HO6.out;subst eo10)|((with_reducible refine gate_callee (f:=38) rfl ?_);refine zg (some 20) Tryz.func38 #[.pointer (some ⟨g,0,none⟩),.slice Ao10 y62004.length co10] rfl za14 ?_;(with_reducible refine (spec_l1Pick.calls g s0_0 x1001_1 x1002_1 _ _ y62004 t7 t8 t9 w0 _ za17 za19 ?side3 ?side4 ?side5 A6.out).mono ?_);(case side3=>repeat (first|exact (Kd.R_reads' HO6.out).2.2|(with_reducible refine Kd.C_alloc ?_ _)|(with_reducible refine Kd.C_drewN ?_ _)|(with_reducible refine Kd.C_drew ?_)));(case side4=>exact (Kd.R_reads' HO6.out).2.1);(case side5=>exact far_slice (IsS77.own_ne HI0.out HO6.out (by decide)));rintro e w11 ⟨rfl,hi,hb,hk⟩;refine ⟨_,rfl,?_⟩;replace HO6:=zk (Kd.R_mono (Kd.R_keep (IsS77.apart (show IsS77 w0 _ g s0_0 x1001_1 x1002_1 from za17) (za2 HO6.out) (by decide)) hk (fun _ h=>h.2)) (fun _ h=>h.1));replace HK:=yK HK hk;replace HB:=zk hb;replace HI0:=zk hi;(try clear hb hk hi)))
    go_roundg k1
    case measure=>have:=HK1.out;omega
    case rel=>exact ⟨(x5_1 ++ t7),(wrap64 (x7_1+1)),(t8),(t9),za23,za23,H',⟨za43⟩,⟨za17⟩,⟨za21⟩,⟨za19⟩⟩
   ·rw [if_neg c7] at H
    exact absurd H (by simp)
   ·rw [if_neg c5] at H
    have c5b0:=zdnl c5
    clear c5
    simp only [Option.some.injEq,Prod.mk.injEq] at H
    obtain ⟨rfl,rfl,rfl⟩:=H
    go_wp2
    go_ret
    exact ⟨za24,za17,za19,za21⟩
def spec_l2Any.f (k:Nat) (s0_0:List Int) (s0_1:Int) (s0_2:Int):Option (ByteArray × Int × Int):=(spec_l2Word.f k s0_0 s0_1 s0_2 6).bind fun bt63001=>((spec_l1Pick.f s0_0 bt63001.2.1 bt63001.2.2 (([(⟨#[]⟩:ByteArray),(⟨#[97]⟩:ByteArray),(⟨#[97,98,99]⟩:ByteArray),(⟨#[99,99]⟩:ByteArray),(⟨#[97,98,100]⟩:ByteArray),(⟨#[65]⟩:ByteArray),(⟨#[99,99,99,99,99,99,99,99,99,99,99,99,99,99,99,99,99,99,99,99,99,99,99,99,99,99,99,99,99,99]⟩:ByteArray),(⟨#[97,97,97,97,97,97,97,97,97,97,97,97,97,97,97,97,97,97,97,97,97,97,97,97,97,97,97,97,97,97,97]⟩:ByteArray),(⟨#[97,99,99]⟩:ByteArray),bt63001.1]:List ByteArray))).bind fun bt63007=>(some (bt63007.1,bt63007.2.1,bt63007.2.2)))
theorem spec_l2Any.calls (k:Nat) (g:Nat) (s0_0:List Int) (s0_1:Int) (s0_2:Int) (r1:ByteArray) (r2:Int) (r3:Int) (w0 w:World) (hI:IsS77 w0 w g s0_0 s0_1 s0_2) (hB:Below w0.heap.size w0 w) (h:spec_l2Any.f k s0_0 s0_1 s0_2=some (r1,r2,r3)) :
  Calls Tryz.prog 63 #[.pointer (some ⟨g,0,none⟩)] w fun e w'=>e = .returned (.string r1)∧IsS77 w0 w' g s0_0 r2 r3∧Below w0.heap.size w0 w'∧KeepBut w w' g none:=by
 have HI0:=zk hI
 have HK:=zk (KeepBut.refl w g none)
 have HL:=zk hB.size
 clear hI
 have HW0:=zk hB.size
 have HB:=zk hB
 clear hB
 have H:=h
 unfold spec_l2Any.f at H
 clear h
 obtain ⟨⟨t1,t2,t3⟩,A2,H⟩:=zO H
 try dsimp only at H
 obtain ⟨y63004,hy63004⟩:∃ y_:List ByteArray,y_=(([(⟨#[]⟩:ByteArray),(⟨#[97]⟩:ByteArray),(⟨#[97,98,99]⟩:ByteArray),(⟨#[99,99]⟩:ByteArray),(⟨#[97,98,100]⟩:ByteArray),(⟨#[65]⟩:ByteArray),(⟨#[99,99,99,99,99,99,99,99,99,99,99,99,99,99,99,99,99,99,99,99,99,99,99,99,99,99,99,99,99,99]⟩:ByteArray),(⟨#[97,97,97,97,97,97,97,97,97,97,97,97,97,97,97,97,97,97,97,97,97,97,97,97,97,97,97,97,97,97,97]⟩:ByteArray),(⟨#[97,99,99]⟩:ByteArray),t1]:List ByteArray)):=⟨_,rfl⟩
 replace H:((spec_l1Pick.f s0_0 t2 t3 y63004).bind fun bt7=>(some (bt7.1,bt7.2.1,bt7.2.2)))=some (r1,r2,r3):=by first|(rw [hy63004];with_reducible exact H)|(have H2_:=(Option.bind_some _ _).symm.trans H;rw [hy63004];with_reducible exact H2_)|(have H2_:=(Option.bind_some _ _).symm.trans H;with_reducible exact H2_)|with_reducible exact H|(rw [hy63004];exact H)|exact H
 have Ny4:=zk hy63004
 clear hy63004
 obtain ⟨⟨t7,t8,t9⟩,A3,H⟩:=zO H
 try dsimp only at H
 simp only [Option.some.injEq,Prod.mk.injEq] at H
 obtain ⟨rfl,rfl,rfl⟩:=H
 go_enter Tryz.func63,Tryz.ntmps63
 go_wp2_with (first|((with_reducible refine gate_callee (f:=62) rfl ?_);refine zg (some 5) Tryz.func62 #[.pointer (some ⟨g,0,none⟩),.int .i64 6] rfl za14 ?_;(with_reducible refine (spec_l2Word.calls k g s0_0 s0_1 s0_2 6 t1 t2 t3 w0 _ za17 za19 A2.out).mono ?_);rintro e w4 ⟨rfl,hi,hb,hk⟩;refine ⟨_,rfl,?_⟩;replace HK:=yK HK hk;replace HB:=zk hb;replace HI0:=zk hi;(try clear hb hk hi))|((with_reducible refine gate_dst (N:=6) rfl ?_);refine Kd.R_lit Kd.string _ 9 ?hg (N:=6) ?hd (xs:=([(⟨#[]⟩:ByteArray),(⟨#[97]⟩:ByteArray),(⟨#[97,98,99]⟩:ByteArray),(⟨#[99,99]⟩:ByteArray),(⟨#[97,98,100]⟩:ByteArray),(⟨#[65]⟩:ByteArray),(⟨#[99,99,99,99,99,99,99,99,99,99,99,99,99,99,99,99,99,99,99,99,99,99,99,99,99,99,99,99,99,99]⟩:ByteArray),(⟨#[97,97,97,97,97,97,97,97,97,97,97,97,97,97,97,97,97,97,97,97,97,97,97,97,97,97,97,97,97,97,97]⟩:ByteArray),(⟨#[97,99,99]⟩:ByteArray),t1]:List ByteArray)) (inner:=[.string ⟨#[]⟩,.string ⟨#[97]⟩,.string ⟨#[97,98,99]⟩,.string ⟨#[99,99]⟩,.string ⟨#[97,98,100]⟩,.string ⟨#[65]⟩,.string ⟨#[99,99,99,99,99,99,99,99,99,99,99,99,99,99,99,99,99,99,99,99,99,99,99,99,99,99,99,99,99,99]⟩,.string ⟨#[97,97,97,97,97,97,97,97,97,97,97,97,97,97,97,97,97,97,97,97,97,97,97,97,97,97,97,97,97,97,97]⟩,.string ⟨#[97,99,99]⟩,.string t1]) (ok:=fun _=>True) (okp:=fun _=>True) ?hr ?hp (fun _ hk=>hk) trivial (Below.refl _ _) (Nat.le_refl _) (by simp) ?_;(case hd=>rfl);(case hg=>rfl);(case hr=>first|(go_simp;done)|(go_simp;rfl));(case hp=>exact (Reps.one (show Kd.M Kd.string _ _ _ (⟨#[]⟩:ByteArray) [.string ⟨#[]⟩] from rfl) (Reps.one (show Kd.M Kd.string _ _ _ (⟨#[97]⟩:ByteArray) [.string ⟨#[97]⟩] from rfl) (Reps.one (show Kd.M Kd.string _ _ _ (⟨#[97,98,99]⟩:ByteArray) [.string ⟨#[97,98,99]⟩] from rfl) (Reps.one (show Kd.M Kd.string _ _ _ (⟨#[99,99]⟩:ByteArray) [.string ⟨#[99,99]⟩] from rfl) (Reps.one (show Kd.M Kd.string _ _ _ (⟨#[97,98,100]⟩:ByteArray) [.string ⟨#[97,98,100]⟩] from rfl) (Reps.one (show Kd.M Kd.string _ _ _ (⟨#[65]⟩:ByteArray) [.string ⟨#[65]⟩] from rfl) (Reps.one (show Kd.M Kd.string _ _ _ (⟨#[99,99,99,99,99,99,99,99,99,99,99,99,99,99,99,99,99,99,99,99,99,99,99,99,99,99,99,99,99,99]⟩:ByteArray) [.string ⟨#[99,99,99,99,99,99,99,99,99,99,99,99,99,99,99,99,99,99,99,99,99,99,99,99,99,99,99,99,99,99]⟩] from rfl) (Reps.one (show Kd.M Kd.string _ _ _ (⟨#[97,97,97,97,97,97,97,97,97,97,97,97,97,97,97,97,97,97,97,97,97,97,97,97,97,97,97,97,97,97,97]⟩:ByteArray) [.string ⟨#[97,97,97,97,97,97,97,97,97,97,97,97,97,97,97,97,97,97,97,97,97,97,97,97,97,97,97,97,97,97,97]⟩] from rfl) (Reps.one (show Kd.M Kd.string _ _ _ (⟨#[97,99,99]⟩:ByteArray) [.string ⟨#[97,99,99]⟩] from rfl) (Reps.one (show Kd.M Kd.string _ _ _ t1 [.string t1] from rfl) (Reps.none _ _))))))))))));intro v5 w5 ho6 hb hg_ hnew_;clear hg_ hnew_;(first|rw [← Ny4.out] at ho6|(simp only [Int.reduceToNat] at ho6;rw [← Ny4.out] at ho6));have HO6:=zk (Kd.R_lower ho6 (keep_size (w:=w) (g:=g) (row:=none) za21));replace HB:=zk (below_step za19 hb);replace HI0:=zk (IsS77.below za17 hb);replace HK:=yk HK hb;clear hb ho6;obtain ⟨Ao7,co7,eo7⟩:=Kd.R_slice HO6.out;subst eo7)|((with_reducible refine gate_callee (f:=38) rfl ?_);refine zg (some 7) Tryz.func38 #[.pointer (some ⟨g,0,none⟩),.slice Ao7 y63004.length co7] rfl za14 ?_;(with_reducible refine (spec_l1Pick.calls g s0_0 t2 t3 _ _ y63004 t7 t8 t9 w0 _ za17 za19 ?side3 ?side4 ?side5 A3.out).mono ?_);(case side3=>repeat (first|exact (Kd.R_reads' HO6.out).2.2|(with_reducible refine Kd.C_alloc ?_ _)|(with_reducible refine Kd.C_drewN ?_ _)|(with_reducible refine Kd.C_drew ?_)));(case side4=>exact (Kd.R_reads' HO6.out).2.1);(case side5=>exact far_slice (IsS77.own_ne HI0.out HO6.out (by decide)));rintro e w8 ⟨rfl,hi,hb,hk⟩;refine ⟨_,rfl,?_⟩;replace HO6:=zk (Kd.R_mono (Kd.R_keep (IsS77.apart (show IsS77 w0 _ g s0_0 t2 t3 from za17) (za2 HO6.out) (by decide)) hk (fun _ h=>h.2)) (fun _ h=>h.1));replace HK:=yK HK hk;replace HB:=zk hb;replace HI0:=zk hi;(try clear hb hk hi)))
 go_ret
 exact ⟨za24,za17,za19,za21⟩
def spec_l8Draw.l0:Nat→ByteArray→ByteArray→Int→Int→List Int→Int→Int→Option (ByteArray × Int × Int)
 | 0,_,_,_,_,_,_,_=>none
 | k+1,x2,x7,x8,x9,x1000,x1001,x1002=>if x9 < x8 then ((spec_l1Pick.f x1000 x1001 x1002 (([⟨#[97]⟩,⟨#[98]⟩,⟨#[88]⟩,⟨#[89]⟩,⟨#[88]⟩,⟨#[97]⟩,⟨#[90]⟩]:List ByteArray))).bind fun bt87007=>(if 0 < (bt87007.1.size:Int) then ((spec_LetterIndex.f k (bt bt87007.1 0)).bind fun t87010=>(if t87010 ≥ 0 then (if x7.size+bt87007.1.size≤9223372036854775807 then (spec_l8Draw.l0 k x2 (x7 ++ bt87007.1) x8 (wrap64 (x9+1)) x1000 bt87007.2.1 bt87007.2.2) else (none)) else ((spec_CountByte.f k x2 (bt bt87007.1 0)).bind fun t87011=>(if t87011 > 0 then ((spec_CountByte.f k x7 (bt bt87007.1 0)).bind fun t87012=>(if t87012 < 2 then (if x7.size+bt87007.1.size≤9223372036854775807 then (spec_l8Draw.l0 k x2 (x7 ++ bt87007.1) x8 (wrap64 (x9+1)) x1000 bt87007.2.1 bt87007.2.2) else (none)) else (spec_l8Draw.l0 k x2 x7 x8 (wrap64 (x9+1)) x1000 bt87007.2.1 bt87007.2.2))) else (spec_l8Draw.l0 k x2 x7 x8 (wrap64 (x9+1)) x1000 bt87007.2.1 bt87007.2.2))))) else (none))) else (some (x7,x1001,x1002))
def spec_l8Draw.f (k:Nat) (s0_0:List Int) (s0_1:Int) (s0_2:Int) (a1:Int) (a2:ByteArray):Option (ByteArray × Int × Int):=(spec_l1Below.f s0_0 s0_1 s0_2 (wrap64 (a1+1))).bind fun bt87001=>(spec_l8Draw.l0 k a2 (⟨#[]⟩:ByteArray) bt87001.1 0 s0_0 bt87001.2.1 bt87001.2.2)
theorem spec_l8Draw.calls (k:Nat) (g:Nat) (s0_0:List Int) (s0_1:Int) (s0_2:Int) (a1:Int) (a2:ByteArray) (r1:ByteArray) (r2:Int) (r3:Int) (w0 w:World) (hI:IsS77 w0 w g s0_0 s0_1 s0_2) (hB:Below w0.heap.size w0 w) (h:spec_l8Draw.f k s0_0 s0_1 s0_2 a1 a2=some (r1,r2,r3)) :
   Calls Tryz.prog 87 #[.pointer (some ⟨g,0,none⟩),.int .i64 a1,.string a2] w fun e w'=>e = .returned (.string r1)∧IsS77 w0 w' g s0_0 r2 r3∧Below w0.heap.size w0 w'∧KeepBut w w' g none:=by
 have HI0:=zk hI
 have HK:=zk (KeepBut.refl w g none)
 have HL:=zk hB.size
 clear hI
 have HW0:=zk hB.size
 have HB:=zk hB
 clear hB
 have H:=h
 unfold spec_l8Draw.f at H
 clear h
 obtain ⟨⟨t1,t2,t3⟩,A4,H⟩:=zO H
 try dsimp only at H
 have H':=zk H
 clear H
 go_enter Tryz.func87,Tryz.ntmps87
 go_wp2_with ((((with_reducible refine gate_callee (f:=42) rfl ?_);refine zg (some 14) Tryz.func42 #[.pointer (some ⟨g,0,none⟩),.int .i64 (wrap64 (a1+1))] rfl za11 ?_;(with_reducible refine (spec_l1Below.calls g s0_0 s0_1 s0_2 (wrap64 (a1+1)) t1 t2 t3 w0 _ za34 za8 A4.out).mono ?_);rintro e w5 ⟨rfl,hi,hb,hk⟩;refine ⟨_,rfl,?_⟩;replace HK:=yK HK hk;replace HB:=zk hb;replace HI0:=zk hi;(try clear hb hk hi))))
 try simp only [Act.put,zt,zv,zu]
 go_loopg [7,9] k (fun kq v7 v9 w'=>∃ (x7_1:ByteArray) (x9_1:Int) (x1001_1:Int) (x1002_1:Int),v7 = .string x7_1∧v9 = .int .i64 x9_1∧Aside0 (spec_l8Draw.l0 kq a2 x7_1 t1 x9_1 s0_0 x1001_1 x1002_1=some (r1,r2,r3))∧Aside0 (kq≤k)∧Aside0 (IsS77 w0 w' g s0_0 x1001_1 x1002_1)∧Aside0 (KeepBut w w' g none)∧Aside0 (Below w0.heap.size w0 w'))
 case atStart=>exact ⟨((⟨#[]⟩:ByteArray)),(0),(t2),(t3),(by (rfl)),(by (rfl)),H',⟨Nat.le_refl _⟩,⟨za34⟩,⟨za35⟩,⟨za8⟩⟩
 case round =>
  clear H'
  obtain ⟨x7_1,x9_1,x1001_1,x1002_1,rfl,rfl,HA,HK1,HI0,HK,HB⟩:=hrel
  cases gk with
  | zero=>exact absurd HA.out (by simp [spec_l8Draw.l0])
  | succ k1 =>
   have H:=HA.out
   clear HA
   simp only [spec_l8Draw.l0] at H
   by_cases c6:x9_1 < t1
   rw [if_pos c6] at H
   have c6b0:=zdl c6
   clear c6
   obtain ⟨y87004,hy87004⟩:∃ y_:List ByteArray,y_=(([⟨#[97]⟩,⟨#[98]⟩,⟨#[88]⟩,⟨#[89]⟩,⟨#[88]⟩,⟨#[97]⟩,⟨#[90]⟩]:List ByteArray)):=⟨_,rfl⟩
   replace H:((spec_l1Pick.f s0_0 x1001_1 x1002_1 y87004).bind fun bt7=>(if 0 < (bt7.1.size:Int) then ((spec_LetterIndex.f k1 (bt bt7.1 0)).bind fun t10=>(if t10 ≥ 0 then (if x7_1.size+bt7.1.size≤9223372036854775807 then (spec_l8Draw.l0 k1 a2 (x7_1 ++ bt7.1) t1 (wrap64 (x9_1+1)) s0_0 bt7.2.1 bt7.2.2) else (none)) else ((spec_CountByte.f k1 a2 (bt bt7.1 0)).bind fun t11=>(if t11 > 0 then ((spec_CountByte.f k1 x7_1 (bt bt7.1 0)).bind fun t12=>(if t12 < 2 then (if x7_1.size+bt7.1.size≤9223372036854775807 then (spec_l8Draw.l0 k1 a2 (x7_1 ++ bt7.1) t1 (wrap64 (x9_1+1)) s0_0 bt7.2.1 bt7.2.2) else (none)) else (spec_l8Draw.l0 k1 a2 x7_1 t1 (wrap64 (x9_1+1)) s0_0 bt7.2.1 bt7.2.2))) else (spec_l8Draw.l0 k1 a2 x7_1 t1 (wrap64 (x9_1+1)) s0_0 bt7.2.1 bt7.2.2))))) else (none)))=some (r1,r2,r3):=by ((rw [hy87004];with_reducible exact H))
   have Ny4:=zk hy87004
   clear hy87004
   obtain ⟨⟨t7,t8,t9⟩,A7,H⟩:=zO H
   try dsimp only at H
   by_cases c8:0 < (t7.size:Int)
   rw [if_pos c8] at H
   have c8b0:=zdl c8
   have c8b1:decide (0 < t7.size)=true:=decide_eq_true (by omega)
   clear c8
   obtain ⟨t10,A10,H⟩:=zO H
   try dsimp only at H
   by_cases c11:t10 ≥ 0
   rw [if_pos c11] at H
   have c11b0:=zdle c11
   clear c11
   by_cases c12:x7_1.size+t7.size≤9223372036854775807
   ·rw [if_pos c12] at H
    have c12z:=c12
    try simp at c12z
    try replace c12z:=eq_false (Nat.not_lt.2 c12z)
    have c12b0:=eq_true c12
    have c12b1:=zdle c12
    try have c12b2:(9223372036854775807 < x7_1.size+t7.size)=False:=eq_false (Nat.not_lt.2 c12)
    have H':=zk H
    clear H
    go_wp2_with (first|((with_reducible refine gate_dst (N:=21) rfl ?_);refine Kd.R_lit Kd.string _ 9 ?hg (N:=21) ?hd (xs:=([⟨#[97]⟩,⟨#[98]⟩,⟨#[88]⟩,⟨#[89]⟩,⟨#[88]⟩,⟨#[97]⟩,⟨#[90]⟩]:List ByteArray)) (inner:=[.string ⟨#[97]⟩,.string ⟨#[98]⟩,.string ⟨#[88]⟩,.string ⟨#[89]⟩,.string ⟨#[88]⟩,.string ⟨#[97]⟩,.string ⟨#[90]⟩]) (ok:=fun _=>True) (okp:=fun _=>True) ?hr ?hp (fun _ hk=>hk) trivial (Below.refl _ _) (Nat.le_refl _) (by simp) ?_;(case hd=>rfl);(case hg=>rfl);(case hr=>((go_simp;done)));(case hp=>exact (Reps.one (show Kd.M Kd.string _ _ _ (⟨#[97]⟩:ByteArray) [.string ⟨#[97]⟩] from rfl) (Reps.one (show Kd.M Kd.string _ _ _ (⟨#[98]⟩:ByteArray) [.string ⟨#[98]⟩] from rfl) (Reps.one (show Kd.M Kd.string _ _ _ (⟨#[88]⟩:ByteArray) [.string ⟨#[88]⟩] from rfl) (Reps.one (show Kd.M Kd.string _ _ _ (⟨#[89]⟩:ByteArray) [.string ⟨#[89]⟩] from rfl) (Reps.one (show Kd.M Kd.string _ _ _ (⟨#[88]⟩:ByteArray) [.string ⟨#[88]⟩] from rfl) (Reps.one (show Kd.M Kd.string _ _ _ (⟨#[97]⟩:ByteArray) [.string ⟨#[97]⟩] from rfl) (Reps.one (show Kd.M Kd.string _ _ _ (⟨#[90]⟩:ByteArray) [.string ⟨#[90]⟩] from rfl) (Reps.none _ _)))))))));intro v5 w13 ho14 hb hg_ hnew_;clear hg_ hnew_;((rw [← Ny4.out] at ho14));have HO6:=zk (Kd.R_lower ho14 (keep_size (w:=w) (g:=g) (row:=none) za35));replace HB:=yB HB hb;replace HI0:=zk (IsS77.below za34 hb);replace HK:=yk HK hb;clear hb ho14;obtain ⟨Ao15,co15,eo15⟩:=Kd.R_slice HO6.out;subst eo15)|((with_reducible refine gate_callee (f:=38) rfl ?_);refine zg (some 22) Tryz.func38 #[.pointer (some ⟨g,0,none⟩),.slice Ao15 y87004.length co15] rfl za11 ?_;(with_reducible refine (spec_l1Pick.calls g s0_0 x1001_1 x1002_1 _ _ y87004 t7 t8 t9 w0 _ za34 za8 ?side3 ?side4 ?side5 A7.out).mono ?_);(case side3=>repeat ((exact (Kd.R_reads' HO6.out).2.2)));(case side4=>exact (Kd.R_reads' HO6.out).2.1);(case side5=>exact far_slice (IsS77.own_ne HI0.out HO6.out (by decide)));rintro e w16 ⟨rfl,hi,hb,hk⟩;refine ⟨_,rfl,?_⟩;replace HO6:=zk (Kd.R_mono (Kd.R_keep (IsS77.apart (show IsS77 w0 _ g s0_0 x1001_1 x1002_1 from za34) (za1 HO6.out) (by decide)) hk (fun _ h=>h.2)) (fun _ h=>h.1));replace HK:=yK HK hk;replace HB:=zk hb;replace HI0:=zk hi;(try clear hb hk hi);have p9:0≤(0:Int):=(by omega);have q9:0 < t7.size:=(by have:(0:Int) < (t7.size:Int):=of_decide_eq_true za25;omega);have hx9:∀ h:0 < t7.size,((t7[0]'h).toNat:Int)=bt t7 0:=bt_at t7 0;clear p9;have qi9:(0 < (t7.size:Int))=True:=eq_true (of_decide_eq_true za25);replace q9:=eq_true q9)|((with_reducible refine gate_callee (f:=93) rfl ?_);refine zg (some 25) Tryz.func93 #[.int .u8 (bt t7 0)] rfl za11 ?_;(with_reducible refine (spec_LetterIndex.calls k1 (bt t7 0) t10 _ A10.out).mono ?_);rintro e w' ⟨rfl,⟨nd,rfl⟩⟩;refine ⟨_,rfl,?_⟩))
    go_roundg k1
    case measure=>have:=HK1.out;omega
    case rel=>exact ⟨(x7_1 ++ t7),(wrap64 (x9_1+1)),(t8),(t9),(by (rfl)),(by (rfl)),H',⟨za43⟩,⟨za34⟩,⟨za35⟩,⟨za8⟩⟩
   ·rw [if_neg c12] at H
    exact absurd H (by simp)
   rw [if_neg c11] at H
   have c11b0:=zdnle c11
   clear c11
   obtain ⟨t11,A18,H⟩:=zO H
   try dsimp only at H
   by_cases c19:t11 > 0
   rw [if_pos c19] at H
   have c19b0:=zdl c19
   clear c19
   obtain ⟨t12,A21,H⟩:=zO H
   try dsimp only at H
   by_cases c22:t12 < 2
   rw [if_pos c22] at H
   have c22b0:=zdl c22
   clear c22
   by_cases c23:x7_1.size+t7.size≤9223372036854775807
   ·rw [if_pos c23] at H
    have c23z:=c23
    try simp at c23z
    try replace c23z:=eq_false (Nat.not_lt.2 c23z)
    have c23b0:=eq_true c23
    have c23b1:=zdle c23
    try have c23b2:(9223372036854775807 < x7_1.size+t7.size)=False:=eq_false (Nat.not_lt.2 c23)
    have H':=zk H
    clear H
    go_wp2_with (first|((with_reducible refine gate_dst (N:=21) rfl ?_);refine Kd.R_lit Kd.string _ 9 ?hg (N:=21) ?hd (xs:=([⟨#[97]⟩,⟨#[98]⟩,⟨#[88]⟩,⟨#[89]⟩,⟨#[88]⟩,⟨#[97]⟩,⟨#[90]⟩]:List ByteArray)) (inner:=[.string ⟨#[97]⟩,.string ⟨#[98]⟩,.string ⟨#[88]⟩,.string ⟨#[89]⟩,.string ⟨#[88]⟩,.string ⟨#[97]⟩,.string ⟨#[90]⟩]) (ok:=fun _=>True) (okp:=fun _=>True) ?hr ?hp (fun _ hk=>hk) trivial (Below.refl _ _) (Nat.le_refl _) (by simp) ?_;(case hd=>rfl);(case hg=>rfl);(case hr=>((go_simp;done)));(case hp=>exact (Reps.one (show Kd.M Kd.string _ _ _ (⟨#[97]⟩:ByteArray) [.string ⟨#[97]⟩] from rfl) (Reps.one (show Kd.M Kd.string _ _ _ (⟨#[98]⟩:ByteArray) [.string ⟨#[98]⟩] from rfl) (Reps.one (show Kd.M Kd.string _ _ _ (⟨#[88]⟩:ByteArray) [.string ⟨#[88]⟩] from rfl) (Reps.one (show Kd.M Kd.string _ _ _ (⟨#[89]⟩:ByteArray) [.string ⟨#[89]⟩] from rfl) (Reps.one (show Kd.M Kd.string _ _ _ (⟨#[88]⟩:ByteArray) [.string ⟨#[88]⟩] from rfl) (Reps.one (show Kd.M Kd.string _ _ _ (⟨#[97]⟩:ByteArray) [.string ⟨#[97]⟩] from rfl) (Reps.one (show Kd.M Kd.string _ _ _ (⟨#[90]⟩:ByteArray) [.string ⟨#[90]⟩] from rfl) (Reps.none _ _)))))))));intro v5 w24 ho25 hb hg_ hnew_;clear hg_ hnew_;((rw [← Ny4.out] at ho25));have HO6:=zk (Kd.R_lower ho25 (keep_size (w:=w) (g:=g) (row:=none) za35));replace HB:=yB HB hb;replace HI0:=zk (IsS77.below za34 hb);replace HK:=yk HK hb;clear hb ho25;obtain ⟨Ao26,co26,eo26⟩:=Kd.R_slice HO6.out;subst eo26)|((with_reducible refine gate_callee (f:=38) rfl ?_);refine zg (some 22) Tryz.func38 #[.pointer (some ⟨g,0,none⟩),.slice Ao26 y87004.length co26] rfl za11 ?_;(with_reducible refine (spec_l1Pick.calls g s0_0 x1001_1 x1002_1 _ _ y87004 t7 t8 t9 w0 _ za34 za8 ?side3 ?side4 ?side5 A7.out).mono ?_);(case side3=>repeat ((exact (Kd.R_reads' HO6.out).2.2)));(case side4=>exact (Kd.R_reads' HO6.out).2.1);(case side5=>exact far_slice (IsS77.own_ne HI0.out HO6.out (by decide)));rintro e w27 ⟨rfl,hi,hb,hk⟩;refine ⟨_,rfl,?_⟩;replace HO6:=zk (Kd.R_mono (Kd.R_keep (IsS77.apart (show IsS77 w0 _ g s0_0 x1001_1 x1002_1 from za34) (za1 HO6.out) (by decide)) hk (fun _ h=>h.2)) (fun _ h=>h.1));replace HK:=yK HK hk;replace HB:=zk hb;replace HI0:=zk hi;(try clear hb hk hi);have p9:0≤(0:Int):=(by omega);have q9:0 < t7.size:=(by have:(0:Int) < (t7.size:Int):=of_decide_eq_true za25;omega);have hx9:∀ h:0 < t7.size,((t7[0]'h).toNat:Int)=bt t7 0:=bt_at t7 0;clear p9;have qi9:(0 < (t7.size:Int))=True:=eq_true (of_decide_eq_true za25);replace q9:=eq_true q9)|((with_reducible refine gate_callee (f:=93) rfl ?_);refine zg (some 25) Tryz.func93 #[.int .u8 (bt t7 0)] rfl za11 ?_;(with_reducible refine (spec_LetterIndex.calls k1 (bt t7 0) t10 _ A10.out).mono ?_);rintro e w' ⟨rfl,⟨nd,rfl⟩⟩;refine ⟨_,rfl,?_⟩;have p17:0≤(0:Int):=(by omega);have q17:0 < t7.size:=(by have:(0:Int) < (t7.size:Int):=of_decide_eq_true za25;omega);have hx17:∀ h:0 < t7.size,((t7[0]'h).toNat:Int)=bt t7 0:=bt_at t7 0;clear p17;have qi17:(0 < (t7.size:Int))=True:=eq_true (of_decide_eq_true za25);replace q17:=eq_true q17)|(go_at_call 35;(with_reducible refine (spec_CountByte.calls k1 a2 (bt t7 0) t11 _ A18.out).mono ?_);rintro e w' ⟨rfl,⟨nd,rfl⟩⟩;have p20:0≤(0:Int):=(by omega);have q20:0 < t7.size:=(by have:(0:Int) < (t7.size:Int):=of_decide_eq_true za25;omega);have hx20:∀ h:0 < t7.size,((t7[0]'h).toNat:Int)=bt t7 0:=bt_at t7 0;clear p20;have qi20:(0 < (t7.size:Int))=True:=eq_true (of_decide_eq_true za25);replace q20:=eq_true q20)|(go_at_call 35;(with_reducible refine (spec_CountByte.calls k1 x7_1 (bt t7 0) t12 _ A21.out).mono ?_);rintro e w' ⟨rfl,⟨nd,rfl⟩⟩))
    go_roundg k1
    case measure=>have:=HK1.out;omega
    case rel=>exact ⟨(x7_1 ++ t7),(wrap64 (x9_1+1)),(t8),(t9),(by (rfl)),(by (rfl)),H',⟨za43⟩,⟨za34⟩,⟨za35⟩,⟨za8⟩⟩
   ·rw [if_neg c23] at H
    exact absurd H (by simp)
   ·rw [if_neg c22] at H
    have c22b0:=zdnl c22
    clear c22
    have H':=zk H
    clear H
    go_wp2_with (first|((with_reducible refine gate_dst (N:=21) rfl ?_);refine Kd.R_lit Kd.string _ 9 ?hg (N:=21) ?hd (xs:=([⟨#[97]⟩,⟨#[98]⟩,⟨#[88]⟩,⟨#[89]⟩,⟨#[88]⟩,⟨#[97]⟩,⟨#[90]⟩]:List ByteArray)) (inner:=[.string ⟨#[97]⟩,.string ⟨#[98]⟩,.string ⟨#[88]⟩,.string ⟨#[89]⟩,.string ⟨#[88]⟩,.string ⟨#[97]⟩,.string ⟨#[90]⟩]) (ok:=fun _=>True) (okp:=fun _=>True) ?hr ?hp (fun _ hk=>hk) trivial (Below.refl _ _) (Nat.le_refl _) (by simp) ?_;(case hd=>rfl);(case hg=>rfl);(case hr=>((go_simp;done)));(case hp=>exact (Reps.one (show Kd.M Kd.string _ _ _ (⟨#[97]⟩:ByteArray) [.string ⟨#[97]⟩] from rfl) (Reps.one (show Kd.M Kd.string _ _ _ (⟨#[98]⟩:ByteArray) [.string ⟨#[98]⟩] from rfl) (Reps.one (show Kd.M Kd.string _ _ _ (⟨#[88]⟩:ByteArray) [.string ⟨#[88]⟩] from rfl) (Reps.one (show Kd.M Kd.string _ _ _ (⟨#[89]⟩:ByteArray) [.string ⟨#[89]⟩] from rfl) (Reps.one (show Kd.M Kd.string _ _ _ (⟨#[88]⟩:ByteArray) [.string ⟨#[88]⟩] from rfl) (Reps.one (show Kd.M Kd.string _ _ _ (⟨#[97]⟩:ByteArray) [.string ⟨#[97]⟩] from rfl) (Reps.one (show Kd.M Kd.string _ _ _ (⟨#[90]⟩:ByteArray) [.string ⟨#[90]⟩] from rfl) (Reps.none _ _)))))))));intro v5 w28 ho29 hb hg_ hnew_;clear hg_ hnew_;((rw [← Ny4.out] at ho29));have HO6:=zk (Kd.R_lower ho29 (keep_size (w:=w) (g:=g) (row:=none) za35));replace HB:=yB HB hb;replace HI0:=zk (IsS77.below za34 hb);replace HK:=yk HK hb;clear hb ho29;obtain ⟨Ao30,co30,eo30⟩:=Kd.R_slice HO6.out;subst eo30)|((with_reducible refine gate_callee (f:=38) rfl ?_);refine zg (some 22) Tryz.func38 #[.pointer (some ⟨g,0,none⟩),.slice Ao30 y87004.length co30] rfl za11 ?_;(with_reducible refine (spec_l1Pick.calls g s0_0 x1001_1 x1002_1 _ _ y87004 t7 t8 t9 w0 _ za34 za8 ?side3 ?side4 ?side5 A7.out).mono ?_);(case side3=>repeat ((exact (Kd.R_reads' HO6.out).2.2)));(case side4=>exact (Kd.R_reads' HO6.out).2.1);(case side5=>exact far_slice (IsS77.own_ne HI0.out HO6.out (by decide)));rintro e w31 ⟨rfl,hi,hb,hk⟩;refine ⟨_,rfl,?_⟩;replace HO6:=zk (Kd.R_mono (Kd.R_keep (IsS77.apart (show IsS77 w0 _ g s0_0 x1001_1 x1002_1 from za34) (za1 HO6.out) (by decide)) hk (fun _ h=>h.2)) (fun _ h=>h.1));replace HK:=yK HK hk;replace HB:=zk hb;replace HI0:=zk hi;(try clear hb hk hi);have p9:0≤(0:Int):=(by omega);have q9:0 < t7.size:=(by have:(0:Int) < (t7.size:Int):=of_decide_eq_true za25;omega);have hx9:∀ h:0 < t7.size,((t7[0]'h).toNat:Int)=bt t7 0:=bt_at t7 0;clear p9;have qi9:(0 < (t7.size:Int))=True:=eq_true (of_decide_eq_true za25);replace q9:=eq_true q9)|((with_reducible refine gate_callee (f:=93) rfl ?_);refine zg (some 25) Tryz.func93 #[.int .u8 (bt t7 0)] rfl za11 ?_;(with_reducible refine (spec_LetterIndex.calls k1 (bt t7 0) t10 _ A10.out).mono ?_);rintro e w' ⟨rfl,⟨nd,rfl⟩⟩;refine ⟨_,rfl,?_⟩;have p17:0≤(0:Int):=(by omega);have q17:0 < t7.size:=(by have:(0:Int) < (t7.size:Int):=of_decide_eq_true za25;omega);have hx17:∀ h:0 < t7.size,((t7[0]'h).toNat:Int)=bt t7 0:=bt_at t7 0;clear p17;have qi17:(0 < (t7.size:Int))=True:=eq_true (of_decide_eq_true za25);replace q17:=eq_true q17)|(go_at_call 35;(with_reducible refine (spec_CountByte.calls k1 a2 (bt t7 0) t11 _ A18.out).mono ?_);rintro e w' ⟨rfl,⟨nd,rfl⟩⟩;have p20:0≤(0:Int):=(by omega);have q20:0 < t7.size:=(by have:(0:Int) < (t7.size:Int):=of_decide_eq_true za25;omega);have hx20:∀ h:0 < t7.size,((t7[0]'h).toNat:Int)=bt t7 0:=bt_at t7 0;clear p20;have qi20:(0 < (t7.size:Int))=True:=eq_true (of_decide_eq_true za25);replace q20:=eq_true q20)|(go_at_call 35;(with_reducible refine (spec_CountByte.calls k1 x7_1 (bt t7 0) t12 _ A21.out).mono ?_);rintro e w' ⟨rfl,⟨nd,rfl⟩⟩))
    go_roundg k1
    case measure=>have:=HK1.out;omega
    case rel=>exact ⟨(x7_1),(wrap64 (x9_1+1)),(t8),(t9),(by (rfl)),(by (rfl)),H',⟨za43⟩,⟨za34⟩,⟨za35⟩,⟨za8⟩⟩
   ·rw [if_neg c19] at H
    have c19b0:=zdnl c19
    clear c19
    have H':=zk H
    clear H
    go_wp2_with (first|((with_reducible refine gate_dst (N:=21) rfl ?_);refine Kd.R_lit Kd.string _ 9 ?hg (N:=21) ?hd (xs:=([⟨#[97]⟩,⟨#[98]⟩,⟨#[88]⟩,⟨#[89]⟩,⟨#[88]⟩,⟨#[97]⟩,⟨#[90]⟩]:List ByteArray)) (inner:=[.string ⟨#[97]⟩,.string ⟨#[98]⟩,.string ⟨#[88]⟩,.string ⟨#[89]⟩,.string ⟨#[88]⟩,.string ⟨#[97]⟩,.string ⟨#[90]⟩]) (ok:=fun _=>True) (okp:=fun _=>True) ?hr ?hp (fun _ hk=>hk) trivial (Below.refl _ _) (Nat.le_refl _) (by simp) ?_;(case hd=>rfl);(case hg=>rfl);(case hr=>((go_simp;done)));(case hp=>exact (Reps.one (show Kd.M Kd.string _ _ _ (⟨#[97]⟩:ByteArray) [.string ⟨#[97]⟩] from rfl) (Reps.one (show Kd.M Kd.string _ _ _ (⟨#[98]⟩:ByteArray) [.string ⟨#[98]⟩] from rfl) (Reps.one (show Kd.M Kd.string _ _ _ (⟨#[88]⟩:ByteArray) [.string ⟨#[88]⟩] from rfl) (Reps.one (show Kd.M Kd.string _ _ _ (⟨#[89]⟩:ByteArray) [.string ⟨#[89]⟩] from rfl) (Reps.one (show Kd.M Kd.string _ _ _ (⟨#[88]⟩:ByteArray) [.string ⟨#[88]⟩] from rfl) (Reps.one (show Kd.M Kd.string _ _ _ (⟨#[97]⟩:ByteArray) [.string ⟨#[97]⟩] from rfl) (Reps.one (show Kd.M Kd.string _ _ _ (⟨#[90]⟩:ByteArray) [.string ⟨#[90]⟩] from rfl) (Reps.none _ _)))))))));intro v5 w32 ho33 hb hg_ hnew_;clear hg_ hnew_;((rw [← Ny4.out] at ho33));have HO6:=zk (Kd.R_lower ho33 (keep_size (w:=w) (g:=g) (row:=none) za35));replace HB:=yB HB hb;replace HI0:=zk (IsS77.below za34 hb);replace HK:=yk HK hb;clear hb ho33;obtain ⟨Ao34,co34,eo34⟩:=Kd.R_slice HO6.out;subst eo34)|((with_reducible refine gate_callee (f:=38) rfl ?_);refine zg (some 22) Tryz.func38 #[.pointer (some ⟨g,0,none⟩),.slice Ao34 y87004.length co34] rfl za11 ?_;(with_reducible refine (spec_l1Pick.calls g s0_0 x1001_1 x1002_1 _ _ y87004 t7 t8 t9 w0 _ za34 za8 ?side3 ?side4 ?side5 A7.out).mono ?_);(case side3=>repeat ((exact (Kd.R_reads' HO6.out).2.2)));(case side4=>exact (Kd.R_reads' HO6.out).2.1);(case side5=>exact far_slice (IsS77.own_ne HI0.out HO6.out (by decide)));rintro e w35 ⟨rfl,hi,hb,hk⟩;refine ⟨_,rfl,?_⟩;replace HO6:=zk (Kd.R_mono (Kd.R_keep (IsS77.apart (show IsS77 w0 _ g s0_0 x1001_1 x1002_1 from za34) (za1 HO6.out) (by decide)) hk (fun _ h=>h.2)) (fun _ h=>h.1));replace HK:=yK HK hk;replace HB:=zk hb;replace HI0:=zk hi;(try clear hb hk hi);have p9:0≤(0:Int):=(by omega);have q9:0 < t7.size:=(by have:(0:Int) < (t7.size:Int):=of_decide_eq_true za25;omega);have hx9:∀ h:0 < t7.size,((t7[0]'h).toNat:Int)=bt t7 0:=bt_at t7 0;clear p9;have qi9:(0 < (t7.size:Int))=True:=eq_true (of_decide_eq_true za25);replace q9:=eq_true q9)|((with_reducible refine gate_callee (f:=93) rfl ?_);refine zg (some 25) Tryz.func93 #[.int .u8 (bt t7 0)] rfl za11 ?_;(with_reducible refine (spec_LetterIndex.calls k1 (bt t7 0) t10 _ A10.out).mono ?_);rintro e w' ⟨rfl,⟨nd,rfl⟩⟩;refine ⟨_,rfl,?_⟩;have p17:0≤(0:Int):=(by omega);have q17:0 < t7.size:=(by have:(0:Int) < (t7.size:Int):=of_decide_eq_true za25;omega);have hx17:∀ h:0 < t7.size,((t7[0]'h).toNat:Int)=bt t7 0:=bt_at t7 0;clear p17;have qi17:(0 < (t7.size:Int))=True:=eq_true (of_decide_eq_true za25);replace q17:=eq_true q17)|(go_at_call 35;(with_reducible refine (spec_CountByte.calls k1 a2 (bt t7 0) t11 _ A18.out).mono ?_);rintro e w' ⟨rfl,⟨nd,rfl⟩⟩))
    go_roundg k1
    case measure=>have:=HK1.out;omega
    case rel=>exact ⟨(x7_1),(wrap64 (x9_1+1)),(t8),(t9),(by (rfl)),(by (rfl)),H',⟨za43⟩,⟨za34⟩,⟨za35⟩,⟨za8⟩⟩
   ·rw [if_neg c8] at H
    exact absurd H (by simp)
   ·rw [if_neg c6] at H
    have c6b0:=zdnl c6
    clear c6
    simp only [Option.some.injEq,Prod.mk.injEq] at H
    obtain ⟨rfl,rfl,rfl⟩:=H
    go_wp2
    go_ret
    exact ⟨by (rfl),za34,za8,za35⟩
def spec_l8Any.f (k:Nat) (s0_0:List Int) (s0_1:Int) (s0_2:Int):Option (ByteArray × Int × Int):=(spec_l8Draw.f k s0_0 s0_1 s0_2 6 (⟨#[88,89,90]⟩:ByteArray)).bind fun bt86001=>((spec_l1Pick.f s0_0 bt86001.2.1 bt86001.2.2 (([(⟨#[]⟩:ByteArray),(⟨#[97,88,98]⟩:ByteArray),(⟨#[88,88]⟩:ByteArray),(⟨#[87]⟩:ByteArray),(⟨#[90,89,88]⟩:ByteArray),(⟨#[97,97,97,97,97,97,97,97,97,97,97,97]⟩:ByteArray),(⟨#[97,97,97,97,97,97,97,97,97,97,97,97,88]⟩:ByteArray),(⟨#[120]⟩:ByteArray),bt86001.1]:List ByteArray))).bind fun bt86007=>(some (bt86007.1,bt86007.2.1,bt86007.2.2)))
theorem spec_l8Any.calls (k:Nat) (g:Nat) (s0_0:List Int) (s0_1:Int) (s0_2:Int) (r1:ByteArray) (r2:Int) (r3:Int) (w0 w:World) (hI:IsS77 w0 w g s0_0 s0_1 s0_2) (hB:Below w0.heap.size w0 w) (h:spec_l8Any.f k s0_0 s0_1 s0_2=some (r1,r2,r3)) :
  Calls Tryz.prog 86 #[.pointer (some ⟨g,0,none⟩)] w fun e w'=>e = .returned (.string r1)∧IsS77 w0 w' g s0_0 r2 r3∧Below w0.heap.size w0 w'∧KeepBut w w' g none:=by
 have HI0:=zk hI
 have HK:=zk (KeepBut.refl w g none)
 have HL:=zk hB.size
 clear hI
 have HW0:=zk hB.size
 have HB:=zk hB
 clear hB
 have H:=h
 unfold spec_l8Any.f at H
 clear h
 obtain ⟨⟨t1,t2,t3⟩,A2,H⟩:=zO H
 try dsimp only at H
 obtain ⟨y86004,hy86004⟩:∃ y_:List ByteArray,y_=(([(⟨#[]⟩:ByteArray),(⟨#[97,88,98]⟩:ByteArray),(⟨#[88,88]⟩:ByteArray),(⟨#[87]⟩:ByteArray),(⟨#[90,89,88]⟩:ByteArray),(⟨#[97,97,97,97,97,97,97,97,97,97,97,97]⟩:ByteArray),(⟨#[97,97,97,97,97,97,97,97,97,97,97,97,88]⟩:ByteArray),(⟨#[120]⟩:ByteArray),t1]:List ByteArray)):=⟨_,rfl⟩
 replace H:((spec_l1Pick.f s0_0 t2 t3 y86004).bind fun bt7=>(some (bt7.1,bt7.2.1,bt7.2.2)))=some (r1,r2,r3):=by ((rw [hy86004];with_reducible exact H))
 have Ny4:=zk hy86004
 clear hy86004
 obtain ⟨⟨t7,t8,t9⟩,A3,H⟩:=zO H
 try dsimp only at H
 simp only [Option.some.injEq,Prod.mk.injEq] at H
 obtain ⟨rfl,rfl,rfl⟩:=H
 go_enter Tryz.func86,Tryz.ntmps86
 go_wp2_with (first|((with_reducible refine gate_callee (f:=87) rfl ?_);refine zg (some 5) Tryz.func87 #[.pointer (some ⟨g,0,none⟩),.int .i64 6,.string ⟨#[88,89,90]⟩] rfl za11 ?_;(with_reducible refine (spec_l8Draw.calls k g s0_0 s0_1 s0_2 6 (⟨#[88,89,90]⟩:ByteArray) t1 t2 t3 w0 _ za34 za8 A2.out).mono ?_);rintro e w4 ⟨rfl,hi,hb,hk⟩;refine ⟨_,rfl,?_⟩;replace HK:=yK HK hk;replace HB:=zk hb;replace HI0:=zk hi;(try clear hb hk hi))|((with_reducible refine gate_dst (N:=6) rfl ?_);refine Kd.R_lit Kd.string _ 9 ?hg (N:=6) ?hd (xs:=([(⟨#[]⟩:ByteArray),(⟨#[97,88,98]⟩:ByteArray),(⟨#[88,88]⟩:ByteArray),(⟨#[87]⟩:ByteArray),(⟨#[90,89,88]⟩:ByteArray),(⟨#[97,97,97,97,97,97,97,97,97,97,97,97]⟩:ByteArray),(⟨#[97,97,97,97,97,97,97,97,97,97,97,97,88]⟩:ByteArray),(⟨#[120]⟩:ByteArray),t1]:List ByteArray)) (inner:=[.string ⟨#[]⟩,.string ⟨#[97,88,98]⟩,.string ⟨#[88,88]⟩,.string ⟨#[87]⟩,.string ⟨#[90,89,88]⟩,.string ⟨#[97,97,97,97,97,97,97,97,97,97,97,97]⟩,.string ⟨#[97,97,97,97,97,97,97,97,97,97,97,97,88]⟩,.string ⟨#[120]⟩,.string t1]) (ok:=fun _=>True) (okp:=fun _=>True) ?hr ?hp (fun _ hk=>hk) trivial (Below.refl _ _) (Nat.le_refl _) (by simp) ?_;(case hd=>rfl);(case hg=>rfl);(case hr=>((go_simp;done)));(case hp=>exact (Reps.one (show Kd.M Kd.string _ _ _ (⟨#[]⟩:ByteArray) [.string ⟨#[]⟩] from rfl) (Reps.one (show Kd.M Kd.string _ _ _ (⟨#[97,88,98]⟩:ByteArray) [.string ⟨#[97,88,98]⟩] from rfl) (Reps.one (show Kd.M Kd.string _ _ _ (⟨#[88,88]⟩:ByteArray) [.string ⟨#[88,88]⟩] from rfl) (Reps.one (show Kd.M Kd.string _ _ _ (⟨#[87]⟩:ByteArray) [.string ⟨#[87]⟩] from rfl) (Reps.one (show Kd.M Kd.string _ _ _ (⟨#[90,89,88]⟩:ByteArray) [.string ⟨#[90,89,88]⟩] from rfl) (Reps.one (show Kd.M Kd.string _ _ _ (⟨#[97,97,97,97,97,97,97,97,97,97,97,97]⟩:ByteArray) [.string ⟨#[97,97,97,97,97,97,97,97,97,97,97,97]⟩] from rfl) (Reps.one (show Kd.M Kd.string _ _ _ (⟨#[97,97,97,97,97,97,97,97,97,97,97,97,88]⟩:ByteArray) [.string ⟨#[97,97,97,97,97,97,97,97,97,97,97,97,88]⟩] from rfl) (Reps.one (show Kd.M Kd.string _ _ _ (⟨#[120]⟩:ByteArray) [.string ⟨#[120]⟩] from rfl) (Reps.one (show Kd.M Kd.string _ _ _ t1 [.string t1] from rfl) (Reps.none _ _)))))))))));intro v5 w5 ho6 hb hg_ hnew_;clear hg_ hnew_;((rw [← Ny4.out] at ho6));have HO6:=zk (Kd.R_lower ho6 (keep_size (w:=w) (g:=g) (row:=none) za35));replace HB:=yB HB hb;replace HI0:=zk (IsS77.below za34 hb);replace HK:=yk HK hb;clear hb ho6;obtain ⟨Ao7,co7,eo7⟩:=Kd.R_slice HO6.out;subst eo7)|((with_reducible refine gate_callee (f:=38) rfl ?_);refine zg (some 7) Tryz.func38 #[.pointer (some ⟨g,0,none⟩),.slice Ao7 y86004.length co7] rfl za11 ?_;(with_reducible refine (spec_l1Pick.calls g s0_0 t2 t3 _ _ y86004 t7 t8 t9 w0 _ za34 za8 ?side3 ?side4 ?side5 A3.out).mono ?_);(case side3=>repeat ((exact (Kd.R_reads' HO6.out).2.2)));(case side4=>exact (Kd.R_reads' HO6.out).2.1);(case side5=>exact far_slice (IsS77.own_ne HI0.out HO6.out (by decide)));rintro e w8 ⟨rfl,hi,hb,hk⟩;refine ⟨_,rfl,?_⟩;replace HO6:=zk (Kd.R_mono (Kd.R_keep (IsS77.apart (show IsS77 w0 _ g s0_0 t2 t3 from za34) (za1 HO6.out) (by decide)) hk (fun _ h=>h.2)) (fun _ h=>h.1));replace HK:=yK HK hk;replace HB:=zk hb;replace HI0:=zk hi;(try clear hb hk hi)))
 go_ret
 exact ⟨by (rfl),za34,za8,za35⟩
def spec_l8Values.f (k:Nat) (s0_0:List Int) (s0_1:Int) (s0_2:Int):Option (ByteArray × ByteArray × ByteArray × Int × Int):=(spec_l2Word.f k s0_0 s0_1 s0_2 3).bind fun bt34002=>((spec_l2Word.f k s0_0 bt34002.2.1 bt34002.2.2 3).bind fun bt34005=>((spec_l1Once.f s0_0 bt34005.2.1 bt34005.2.2 10).bind fun bt34008=>(if bt34008.1=true then ((spec_l2Any.f k s0_0 bt34008.2.1 bt34008.2.2).bind fun bt34011=>((spec_l2Word.f k s0_0 bt34011.2.1 bt34011.2.2 2).bind fun bt34014=>(some (bt34011.1,bt34005.1,bt34014.1,bt34014.2.1,bt34014.2.2)))) else ((spec_l2Word.f k s0_0 bt34008.2.1 bt34008.2.2 2).bind fun bt34017=>(some (bt34002.1,bt34005.1,bt34017.1,bt34017.2.1,bt34017.2.2))))))
theorem spec_l8Values.calls (k:Nat) (g:Nat) (s0_0:List Int) (s0_1:Int) (s0_2:Int) (r1:ByteArray) (r2:ByteArray) (r3:ByteArray) (r4:Int) (r5:Int) (w0 w:World) (hI:IsS77 w0 w g s0_0 s0_1 s0_2) (hB:Below w0.heap.size w0 w) (h:spec_l8Values.f k s0_0 s0_1 s0_2=some (r1,r2,r3,r4,r5)) :
  Calls Tryz.prog 34 #[.pointer (some ⟨g,0,none⟩)] w fun e w'=>e = .returned (.agg #[.string r1,.string r2,.string r3])∧IsS77 w0 w' g s0_0 r4 r5∧Below w0.heap.size w0 w'∧KeepBut w w' g none:=by
 have hu32:=Tryz.underlying32
 have HI0:=zk hI
 have HK:=zk (KeepBut.refl w g none)
 have HL:=zk hB.size
 clear hI
 have HW0:=zk hB.size
 have HB:=zk hB
 clear hB
 have H:=h
 unfold spec_l8Values.f at H
 clear h
 obtain ⟨⟨t2,t3,t4⟩,A2,H⟩:=zO H
 try dsimp only at H
 obtain ⟨⟨t5,t6,t7⟩,A3,H⟩:=zO H
 try dsimp only at H
 obtain ⟨⟨t8,t9,t10⟩,A4,H⟩:=zO H
 try dsimp only at H
 by_cases c5:t8=true
 ·subst c5
  rw [if_pos rfl] at H
  try dsimp only at H
  obtain ⟨⟨t11,t12,t13⟩,A6,H⟩:=zO H
  try dsimp only at H
  obtain ⟨⟨t14,t15,t16⟩,A7,H⟩:=zO H
  try dsimp only at H
  simp only [Option.some.injEq,Prod.mk.injEq] at H
  obtain ⟨rfl,rfl,rfl,rfl,rfl⟩:=H
  go_enter Tryz.func34,Tryz.ntmps34
  go_wp2_with (first|((with_reducible refine gate_dst (N:=2) rfl ?_);refine zE (cs:=#[.string ⟨#[]⟩,.string ⟨#[]⟩,.string ⟨#[]⟩]) (t:=32) ?_;intro gb1 hg w8 hbox hb;replace HB:=yB HB hb;have BK1:=zk hbox;have GW1:=zk ((by rw [hg];exact (keep_size (w:=w) (g:=g) (row:=none) za35):w.heap.size≤gb1));have GE1:=zk ((Nat.le_trans HW0.out (by rw [hg];exact (keep_size (w:=w) (g:=g) (row:=none) za35):w.heap.size≤gb1):w0.heap.size≤gb1));have NB0_1:=zk (zm hg (IsS77.lt (show IsS77 w0 _ g s0_0 s0_1 s0_2 from za34)));have NB1_0:=zk (zM hg (IsS77.lt (show IsS77 w0 _ g s0_0 s0_1 s0_2 from za34)));replace HI0:=zk (IsS77.below za34 hb);replace HK:=yk HK hb;clear hb hbox hg)|((with_reducible refine gate_callee (f:=62) rfl ?_);refine zg (some 6) Tryz.func62 #[.pointer (some ⟨g,0,none⟩),.int .i64 3] rfl za11 ?_;(with_reducible refine (spec_l2Word.calls k g s0_0 s0_1 s0_2 3 t2 t3 t4 w0 _ za13 za18 A2.out).mono ?_);rintro e w9 ⟨rfl,hi,hb,hk⟩;refine ⟨_,rfl,?_⟩;replace BK1:=yq hk BK1 NB1_0;replace HK:=yK HK hk;replace HB:=zk hb;replace HI0:=zk hi;(try clear hb hk hi))|((with_reducible refine gate_callee (f:=62) rfl ?_);refine zg (some 8) Tryz.func62 #[.pointer (some ⟨g,0,none⟩),.int .i64 3] rfl za11 ?_;(with_reducible refine (spec_l2Word.calls k g s0_0 t3 t4 3 t5 t6 t7 w0 _ za13 za18 A3.out).mono ?_);rintro e w10 ⟨rfl,hi,hb,hk⟩;refine ⟨_,rfl,?_⟩;replace BK1:=yq hk BK1 NB1_0;replace HK:=yK HK hk;replace HB:=zk hb;replace HI0:=zk hi;(try clear hb hk hi))|((with_reducible refine gate_callee (f:=37) rfl ?_);refine zg (some 10) Tryz.func37 #[.pointer (some ⟨g,0,none⟩),.int .i64 10] rfl za11 ?_;(with_reducible refine (spec_l1Once.calls g s0_0 t6 t7 10 true t9 t10 w0 _ za13 za18 A4.out).mono ?_);rintro e w11 ⟨rfl,hi,hb,hk⟩;refine ⟨_,rfl,?_⟩;replace BK1:=yq hk BK1 NB1_0;replace HK:=yK HK hk;replace HB:=zk hb;replace HI0:=zk hi;(try clear hb hk hi))|((with_reducible refine gate_callee (f:=63) rfl ?_);refine zg (some 12) Tryz.func63 #[.pointer (some ⟨g,0,none⟩)] rfl za11 ?_;(with_reducible refine (spec_l2Any.calls k g s0_0 t9 t10 t11 t12 t13 w0 _ za13 za18 A6.out).mono ?_);rintro e w12 ⟨rfl,hi,hb,hk⟩;refine ⟨_,rfl,?_⟩;replace BK1:=yq hk BK1 NB1_0;replace HK:=yK HK hk;replace HB:=zk hb;replace HI0:=zk hi;(try clear hb hk hi))|((with_reducible refine gate_callee (f:=62) rfl ?_);refine zg (some 16) Tryz.func62 #[.pointer (some ⟨g,0,none⟩),.int .i64 2] rfl za11 ?_;(with_reducible refine (spec_l2Word.calls k g s0_0 t12 t13 2 t14 t15 t16 w0 _ za13 za18 A7.out).mono ?_);rintro e w13 ⟨rfl,hi,hb,hk⟩;refine ⟨_,rfl,?_⟩;replace BK1:=yq hk BK1 NB1_0;replace HK:=yK HK hk;replace HB:=zk hb;replace HI0:=zk hi;(try clear hb hk hi);have hnb14:=NB1_0.out;have hnc14:=NB0_1.out;obtain ⟨hcz15_0,hcz15_1,hcz15_2,hfz15_0,hfz15_1,hfz15_2⟩:=blk3 BK1.out))
  refine bodyPost_ret (results_cell_row rfl _ _ gb1 32 #[.string t11,.string t5,.string t14] (0,0) _ rfl (zpu BK1.out) Tryz.underlying32 rfl (by kernel_rfl)) rfl ?_
  exact ⟨by (rfl),za13,za18,za12⟩
 ·replace c5:=Bool.eq_false_iff.mpr c5
  subst c5
  rw [if_neg zff] at H
  try dsimp only at H
  obtain ⟨⟨t17,t18,t19⟩,A16,H⟩:=zO H
  try dsimp only at H
  simp only [Option.some.injEq,Prod.mk.injEq] at H
  obtain ⟨rfl,rfl,rfl,rfl,rfl⟩:=H
  go_enter Tryz.func34,Tryz.ntmps34
  go_wp2_with (first|((with_reducible refine gate_dst (N:=2) rfl ?_);refine zE (cs:=#[.string ⟨#[]⟩,.string ⟨#[]⟩,.string ⟨#[]⟩]) (t:=32) ?_;intro gb1 hg w17 hbox hb;replace HB:=yB HB hb;have BK1:=zk hbox;have GW1:=zk ((by rw [hg];exact (keep_size (w:=w) (g:=g) (row:=none) za35):w.heap.size≤gb1));have GE1:=zk ((Nat.le_trans HW0.out (by rw [hg];exact (keep_size (w:=w) (g:=g) (row:=none) za35):w.heap.size≤gb1):w0.heap.size≤gb1));have NB0_1:=zk (zm hg (IsS77.lt (show IsS77 w0 _ g s0_0 s0_1 s0_2 from za34)));have NB1_0:=zk (zM hg (IsS77.lt (show IsS77 w0 _ g s0_0 s0_1 s0_2 from za34)));replace HI0:=zk (IsS77.below za34 hb);replace HK:=yk HK hb;clear hb hbox hg)|((with_reducible refine gate_callee (f:=62) rfl ?_);refine zg (some 6) Tryz.func62 #[.pointer (some ⟨g,0,none⟩),.int .i64 3] rfl za11 ?_;(with_reducible refine (spec_l2Word.calls k g s0_0 s0_1 s0_2 3 t2 t3 t4 w0 _ za13 za18 A2.out).mono ?_);rintro e w18 ⟨rfl,hi,hb,hk⟩;refine ⟨_,rfl,?_⟩;replace BK1:=yq hk BK1 NB1_0;replace HK:=yK HK hk;replace HB:=zk hb;replace HI0:=zk hi;(try clear hb hk hi))|((with_reducible refine gate_callee (f:=62) rfl ?_);refine zg (some 8) Tryz.func62 #[.pointer (some ⟨g,0,none⟩),.int .i64 3] rfl za11 ?_;(with_reducible refine (spec_l2Word.calls k g s0_0 t3 t4 3 t5 t6 t7 w0 _ za13 za18 A3.out).mono ?_);rintro e w19 ⟨rfl,hi,hb,hk⟩;refine ⟨_,rfl,?_⟩;replace BK1:=yq hk BK1 NB1_0;replace HK:=yK HK hk;replace HB:=zk hb;replace HI0:=zk hi;(try clear hb hk hi))|((with_reducible refine gate_callee (f:=37) rfl ?_);refine zg (some 10) Tryz.func37 #[.pointer (some ⟨g,0,none⟩),.int .i64 10] rfl za11 ?_;(with_reducible refine (spec_l1Once.calls g s0_0 t6 t7 10 false t9 t10 w0 _ za13 za18 A4.out).mono ?_);rintro e w20 ⟨rfl,hi,hb,hk⟩;refine ⟨_,rfl,?_⟩;replace BK1:=yq hk BK1 NB1_0;replace HK:=yK HK hk;replace HB:=zk hb;replace HI0:=zk hi;(try clear hb hk hi))|((with_reducible refine gate_callee (f:=62) rfl ?_);refine zg (some 16) Tryz.func62 #[.pointer (some ⟨g,0,none⟩),.int .i64 2] rfl za11 ?_;(with_reducible refine (spec_l2Word.calls k g s0_0 t9 t10 2 t17 t18 t19 w0 _ za13 za18 A16.out).mono ?_);rintro e w21 ⟨rfl,hi,hb,hk⟩;refine ⟨_,rfl,?_⟩;replace BK1:=yq hk BK1 NB1_0;replace HK:=yK HK hk;replace HB:=zk hb;replace HI0:=zk hi;(try clear hb hk hi);have hnb22:=NB1_0.out;have hnc22:=NB0_1.out;obtain ⟨hcz23_0,hcz23_1,hcz23_2,hfz23_0,hfz23_1,hfz23_2⟩:=blk3 BK1.out))
  refine bodyPost_ret (results_cell_row rfl _ _ gb1 32 #[.string t2,.string t5,.string t17] (0,0) _ rfl (zpu BK1.out) Tryz.underlying32 rfl (by kernel_rfl)) rfl ?_
  exact ⟨by (rfl),za13,za18,za12⟩
end Go.Proofs.YtcbjhfoeecfcoaaGreat.A
