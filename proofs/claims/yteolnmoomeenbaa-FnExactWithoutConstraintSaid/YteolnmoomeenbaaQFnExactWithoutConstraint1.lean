/- FnExactWithoutConstraint: what its proof needs, put together by this session's program wip/merge.py out of the texts that wip/xp.py printed and of this session's own. -/
import Derived.Test.YteolnmoomeenbaaQFnExactWithoutConstraint0
import Derived.Test.YteolnmoomeenbaaProg
import Derived.Lib.SliceRun
import Derived.Lib.Bytealg
import Derived.Lib.Walk
import Derived.Below
import Derived.Deep.Draws
import Derived.Deep.AppendLies
import Derived.Maps.AppendAt
import Derived.OwnWalk
import Derived.Laws.BytesArg
import Derived.Laws.MakeOwn
import Derived.Laws.OwnMore
import Derived.Deep.OwnRows
import Derived.Tactics
import Derived.Lib.ConvBytes
import Derived.Laws.Slices
import Derived.WalkKit
import Derived.KernelRfl
import Derived.RowKit3
import Derived.Deep.LoopGhost
import Derived.Deep.QuietTactic
import Derived.BigQuiet
import Derived.WideLaws
import Derived.Deep.DeepCutAuto
import Derived.Deep.CutBlock
import Derived.Deep.RegionHeld3
import Derived.Laws.Rows
import Derived.Lib.AppendStr
import Derived.ArgAppend
import Derived.Laws.IdiomCopy
import Derived.OrdersHeld
import Derived.Laws.BitsLemmas
import Derived.RowKit
set_option linter.unusedVariables false
set_option linter.unusedSimpArgs false
set_option linter.unusedSectionVars false
set_option maxHeartbeats 8000000
set_option maxRecDepth 100000
namespace Go.Proofs.Yteolnmoomeenbaa
open Go Go.RowKit Go.Proofs.YteolnmoomeenbaaW.PrintWords
theorem zk {P : Prop} (h : P) : Aside0 P := ⟨h⟩
theorem zE {P : Program} {ops : Array Oper} {rest : List Oper} {o : Oper} {a : Act} {Q : Exit → Act → World → Prop} {W : World} {cs : Array Value} {t : TypeId} (h : ∀ g, g = W.heap.size → ∀ w1, w1.heap[g]? = some (.cells cs t (0, 0)) → Below W.heap.size W w1 → wpList P ops Q rest (a.put o.dst (.pointer (some ⟨g, 0, none⟩))) w1) (hgd : o.guard = none := by rfl) (hr : (execOp a.eval o).run P W = .ok (.value (.pointer (some ⟨W.heap.size, 0, none⟩))) (W.alloc (.cells cs t (0, 0))) := by first | (go_simp; done) | (go_simp; rfl)) : wpList P ops Q (o :: rest) a W := Kd.event_run hgd hr (h _ rfl _ (blk_new W _) (below_alloc (Below.refl _ _) _))
theorem zO {α β : Type} {o : Option α} {f : α → Option β} {b : β} (h : o.bind f = some b) : ∃ a, Aside0 (o = some a) ∧ f a = some b := by
 obtain ⟨a, h1, h2⟩ := Option.bind_eq_some_iff.mp h
 exact ⟨a, ⟨h1⟩, h2⟩
theorem zff : ¬ (false = true) := by decide
theorem zm {a b c : Nat} (hg : c = b) (h : a < b) : a ≠ c := by omega
theorem zM {a b c : Nat} (hg : c = b) (h : a < b) : c ≠ a := by omega
theorem zb {W0 W1 W2 : World} {g : Nat} {o : Obj} (h : W0.heap[g]? = some o) (hb : Below W1.heap.size W1 W2) (f : W0.heap[g]? = some o → W1.heap[g]? = some o := by intro h_; (with_reducible repeat (first | refine blk_drewN ?_ _ | refine blk_drew ?_ | refine blk_alloc ?_ _)); exact h_) : W2.heap[g]? = some o := blk_below (f h) hb
theorem zl {W0 W1 : World} {g : Nat} {o : Obj} (h : W0.heap[g]? = some o) (f : W0.heap[g]? = some o → W1.heap[g]? = some o := by intro h_; (with_reducible repeat (first | refine blk_drewN ?_ _ | refine blk_drew ?_ | refine blk_alloc ?_ _)); exact h_) : g < W1.heap.size := blk_lt (f h)
theorem zn {W0 W1 : World} {g c : Nat} {o : Obj} (hg : c = W1.heap.size) (h : W0.heap[g]? = some o) (f : W0.heap[g]? = some o → W1.heap[g]? = some o := by intro h_; (with_reducible repeat (first | refine blk_drewN ?_ _ | refine blk_drew ?_ | refine blk_alloc ?_ _)); exact h_) : g ≠ c := by
 rw [hg]
 exact Nat.ne_of_lt (blk_lt (f h))
theorem zp {W0 W1 : World} {g c : Nat} {o : Obj} (hg : c = W1.heap.size) (h : W0.heap[g]? = some o) (f : W0.heap[g]? = some o → W1.heap[g]? = some o := by intro h_; (with_reducible repeat (first | refine blk_drewN ?_ _ | refine blk_drew ?_ | refine blk_alloc ?_ _)); exact h_) : c ≠ g := by
 rw [hg]
 exact Nat.ne_of_gt (blk_lt (f h))
theorem zq {W0 W1 W2 : World} {g b : Nat} {r : Option Nat} {o : Obj} (hk : KeepBut W1 W2 b r) (h : W0.heap[g]? = some o) (n : g ≠ b) (f : W0.heap[g]? = some o → W1.heap[g]? = some o := by intro h_; (with_reducible repeat (first | refine blk_drewN ?_ _ | refine blk_drew ?_ | refine blk_alloc ?_ _)); exact h_) (e : some g ≠ r := by simp) : W2.heap[g]? = some o := KeepBut.blk hk (f h) n e
theorem zF {W0 W1 : World} {g : Nat} {o : Obj} (h : W0.heap[g]? = some o) (k : Nat) (hk : W1.heap.size ≤ k) (f : W0.heap[g]? = some o → W1.heap[g]? = some o := by intro h_; (with_reducible repeat (first | refine blk_drewN ?_ _ | refine blk_drew ?_ | refine blk_alloc ?_ _)); exact h_) : k ≠ g := Kd.freshB (f h) k hk
theorem zg {P : Program} {ops : Array Oper} {Q : Exit → Act → World → Prop} {rest : List Oper} {oi : Oper} {a : Act} {w : World} (N : Option Tmp) {f : FuncId} {fn : Func} {xs : Array Operand} {ts : Array TypeId} (hf : P.funcs[f]? = some fn) (args : Array Value) (hop : oi.op = .call { callee := .value (.func f), args := xs, argTypes := ts }) (hargs : xs.map a.eval = args) (h : Calls P f args w fun e w' => ∃ v, e = .returned v ∧ wpList P ops Q rest (a.put N v) w') (hd : oi.dst = N := by exact rfl) (hg : oi.guard = none := by exact rfl) (hname : (fn.name == "runtime.NumGoroutine") = false := by kernel_rfl) (hb : fn.body.isSome = true := by exact rfl) : wpList P ops Q (oi :: rest) a w := Go.Proofs.YteolnmoomeenbaaW.PrintLast.goesL_ N hd hg hf hname hb args hop hargs h
theorem yb {W0 W1 W2 : World} {g : Nat} {o : Obj} (h : Aside0 (W0.heap[g]? = some o)) (hb : Below W1.heap.size W1 W2) (f : W0.heap[g]? = some o → W1.heap[g]? = some o := by intro h_; (with_reducible repeat (first | refine blk_drewN ?_ _ | refine blk_drew ?_ | refine blk_alloc ?_ _)); exact h_) : Aside0 (W2.heap[g]? = some o) := ⟨blk_below (f h.out) hb⟩
theorem yn {W0 W1 : World} {g c : Nat} {o : Obj} (hg : c = W1.heap.size) (h : Aside0 (W0.heap[g]? = some o)) (f : W0.heap[g]? = some o → W1.heap[g]? = some o := by intro h_; (with_reducible repeat (first | refine blk_drewN ?_ _ | refine blk_drew ?_ | refine blk_alloc ?_ _)); exact h_) : Aside0 (g ≠ c) := ⟨zn hg (f h.out) (fun h => h)⟩
theorem yp {W0 W1 : World} {g c : Nat} {o : Obj} (hg : c = W1.heap.size) (h : Aside0 (W0.heap[g]? = some o)) (f : W0.heap[g]? = some o → W1.heap[g]? = some o := by intro h_; (with_reducible repeat (first | refine blk_drewN ?_ _ | refine blk_drew ?_ | refine blk_alloc ?_ _)); exact h_) : Aside0 (c ≠ g) := ⟨zp hg (f h.out) (fun h => h)⟩
theorem yq {W0 W1 W2 : World} {g b : Nat} {r : Option Nat} {o : Obj} (hk : KeepBut W1 W2 b r) (h : Aside0 (W0.heap[g]? = some o)) (n : Aside0 (g ≠ b)) (f : W0.heap[g]? = some o → W1.heap[g]? = some o := by intro h_; (with_reducible repeat (first | refine blk_drewN ?_ _ | refine blk_drew ?_ | refine blk_alloc ?_ _)); exact h_) (e : some g ≠ r := by simp) : Aside0 (W2.heap[g]? = some o) := ⟨KeepBut.blk hk (f h.out) n.out e⟩
theorem zpw {W0 W : World} {g : Nat} {o o' : Obj} (h : W0.heap[g]? = some o) (f : W0.heap[g]? = some o → W.heap[g]? = some o' := by intro h_; repeat (first | with_reducible exact h_ | with_reducible refine blk_drewN ?_ _ | with_reducible refine blk_drew ?_ | with_reducible refine blk_alloc ?_ _ | with_reducible apply blk_put | with_reducible apply blk_far (hp := Aside0.out (by assumption)) | rfl)) : W.heap[g]? = some o' := f h
theorem yB {w W0 W W2 : World} (h : Aside0 (Below w.heap.size w W0)) (hb : Below W.heap.size W W2) (f : Below w.heap.size w W0 → Below w.heap.size w W := by intro h_; repeat (first | (with_reducible first | exact h_ | apply below_alloc | apply pw_below_drewN | apply below_drew1 | refine below_set ?_ (Aside0.out (by assumption))) | exact h_)) : Aside0 (Below w.heap.size w W2) := ⟨below_step (f h.out) hb⟩
theorem yK {w W0 W W2 : World} {g : Nat} (h : Aside0 (KeepBut w W0 g none)) (hk : KeepBut W W2 g none) (f : KeepBut w W0 g none → KeepBut w W g none := by intro h_; repeat (first | (with_reducible first | exact h_ | apply KeepBut.set_ | apply keep_drewN | apply keep_drew | apply keep_alloc | refine keep_far ?_ (Aside0.out (by assumption)) _) | exact h_)) : Aside0 (KeepBut w W2 g none) := ⟨KeepBut.trans (f h.out) hk (.inl rfl)⟩
theorem yk {w W0 W W2 : World} {g : Nat} (h : Aside0 (KeepBut w W0 g none)) (hb : Below W.heap.size W W2) (f : KeepBut w W0 g none → KeepBut w W g none := by intro h_; repeat (first | (with_reducible first | exact h_ | apply KeepBut.set_ | apply keep_drewN | apply keep_drew | apply keep_alloc | refine keep_far ?_ (Aside0.out (by assumption)) _) | exact h_)) : Aside0 (KeepBut w W2 g none) := ⟨KeepBut.trans (f h.out) (KeepBut.of_below hb g none) (.inl rfl)⟩
theorem zo {α β : Type} {o : Option α} {f : α → Option β} {b : β} (h : o.bind f = some b) : ∃ a, o = some a ∧ f a = some b := Option.bind_eq_some_iff.mp h
theorem zi {α : Type} {a b : α} (h : some a = some b) : a = b := Option.some.inj h
theorem zt {α : Type} (l : List α) (i : Nat) (a : α) : l.toArray.setIfInBounds i a = (l.set i a).toArray := List.setIfInBounds_toArray l i a
theorem zu {α : Type} {x : α} {l : List α} {a : α} : (x :: l).set 0 a = a :: l := List.set_cons_zero
theorem zv {α : Type} {x : α} {l : List α} {n : Nat} {a : α} : (x :: l).set (n + 1) a = x :: l.set n a := List.set_cons_succ
theorem zs {w W : World} {g : Nat} (hg : g = W.heap.size) (hb : Below w.heap.size w W) : w.heap.size ≤ g := by
 rw [hg]
 exact below_size hb
theorem zx {w W : World} {a : Addr} {v : Value} (hB : Below w.heap.size w W) (h : w.cell? a = some v) : W.cell? a = some v := (hB.cell (World.block_lt_of_cell? w _ h)).trans h
theorem za0 {P Q : Prop} (h : Q) (f : Q → P := by intro h_; (with_reducible repeat (first | refine blk_drewN ?_ _ | refine blk_drew ?_ | refine blk_alloc ?_ _)); exact h_) : P := f h
theorem za1 {P Q : Prop} (h : Q) (f : Q → P := by intro h_; (with_reducible repeat (first | apply Kd.S_alloc | apply Kd.S_drewN | apply Kd.S_drew)); exact h_) : P := f h
theorem za2 {P Q : Prop} (h : Q) (f : Q → P := by intro h_; (with_reducible repeat (first | apply Kd.R_alloc | apply Kd.R_drewN | apply Kd.R_drew)); exact h_) : P := f h
theorem za3 {P Q : Prop} (h : Q) (f : Q → P := by intro h_; (with_reducible repeat (first | apply Kd.N_alloc | apply Kd.N_drewN | apply Kd.N_drew)); exact h_) : P := f h
theorem za4 {P Q : Prop} (h : Q) (f : Q → P := by intro h_; (with_reducible repeat (first | apply Kd.V_alloc | apply Kd.V_drewN | apply Kd.V_drew)); exact h_) : P := f h
theorem za5 {P : Prop} (h : P := by repeat (first | (with_reducible first | exact HB.out | apply below_alloc | apply pw_below_drewN | apply below_drew1 | refine below_set ?_ (Aside0.out (by assumption))) | exact HB.out)) : P := h
theorem za6 {P : Prop} (h : P := by (try simp only [List.map_toArray, List.map_cons, List.map_nil]); first | done | rfl | (simp only [List.length_drop, List.length_take]; rfl)) : P := h
theorem za7 {P : Prop} (h : P := by first | (with_reducible assumption) | assumption) : P := h
theorem za8 {P : Prop} (h : P := by first | rfl | (simp [errW_none, errW_some] <;> rfl) | (simp [*, errW_none, errW_some] <;> rfl)) : P := h
theorem za9 {P : Prop} (h : P := by first | rfl | (simp; done) | (simp [*]; done)) : P := h
theorem za10 {P : Prop} (h : P := by repeat (first | exact Drawn0.refl _ | apply Drawn0.step)) : P := h
theorem za11 {P : Prop} (h : P := by have := HK1.out; omega) : P := h
theorem za12 {P : Prop} (h : P := by first | exact Kd.R_nil _ _ _ _ _ | exact Kd.N_nil _ _ _ _ _ | exact Kd.V_nil _ _ _ _ _ | exact Kd.Q_nil _ _ _ _ _ | exact Kd.S_nil _ _ _ _ _) : P := h
theorem za13 {P : Prop} (h : P := by first | omega | exact Nat.le_refl _) : P := h
theorem za14 {P : Prop} (h : P := by have := UP1.out; have := H1.out; have := LE.out; omega) : P := h
theorem za15 {P : Prop} (h : P := by rw [← hq1]; exact w64n (by have := LO0.out; omega) (by have := UP0.out; have := H1.out; have := LE.out; omega)) : P := h
theorem za16 {P : Prop} (h : P := by rw [hw]; exact M.out.trans (Fr.set D.out.own)) : P := h
theorem za17 {P : Prop} (h : P := by intro u hu; rw [List.mem_singleton.1 hu]; rfl) : P := h
theorem za18 {P : Prop} (h : P := by first | (rw [← HN1.out, ← hn1]; done) | (rw [← HN1.out]; done)) : P := h
theorem za19 {P : Prop} (h : P := by have := HJ1.out; first | omega | exact Nat.le_refl _) : P := h
theorem za20 {P : Prop} (h : P := by rw [← hn1, w64n (by omega) (by have := HN.out; have := HB.out; omega)]; omega) : P := h
theorem za21 {P : Prop} (h : P := by have := Q0.out; rw [List.take_of_length_le (by omega)] at this; exact this) : P := h
theorem za22 {P : Prop} (h : P := by have := HJ2.out; have := HJ8.out; have := HK3.out; omega) : P := h
theorem za23 {P : Prop} (h : P := by rw [← hq8]; exact w64n (by have := LO6.out; have := Qq7.out; omega) (by have := Qq6.out; have := Qq7.out; have := UP5.out; have := LE.out; have := H1.out; omega)) : P := h
theorem za24 {P : Prop} (h : P := by have := UP4.out; have := H1.out; have := LE.out; omega) : P := h
theorem za25 {P : Prop} (h : P := by have := UP2.out; have := H1.out; have := LE.out; omega) : P := h
theorem za26 {P : Prop} (h : P := by rw [← add_field _ _ 2 (by omega)]; exact hc 2 _ rfl) : P := h
theorem za27 {P : Prop} (h : P := by rw [← add_field _ _ 1 (by omega)]; exact hc 1 _ rfl) : P := h
theorem za28 {P : Prop} (h : P := by have := LO1.out; omega) : P := h
theorem za29 {P : Prop} (h : P := by first | exact Kd.S_nil _ _ _ _ _ | exact Kd.N_nil _ _ _ _ _ | exact Kd.V_nil _ _ _ _ _ | exact Kd.Q_nil _ _ _ _ _ | exact Kd.S_nil _ _ _ _ _) : P := h
theorem za30 {P : Prop} (h : P := by first | rfl | (simp; done)) : P := h
end Go.Proofs.Yteolnmoomeenbaa
namespace Go.Proofs.Yteolnmoomeenbaa.Ext
open Go.RowKit YteolnmoomeenbaaW.PrintWords
theorem blk1 {w:World} {g:Nat} {t:TypeId} {a0:Value} (h:w.heap[g]? = some (.cells #[a0] t (0,0))):w.cell? ⟨g,0,none⟩=some a0∧w.frozen? ⟨g,0,none⟩=false:=⟨(blk_cell h 0).trans rfl,blk_frozen h 0⟩
theorem blk3 {w:World} {g:Nat} {t:TypeId} {a0 a1 a2:Value} (h:w.heap[g]? = some (.cells #[a0,a1,a2] t (0,0))):w.cell? ⟨g,0,none⟩=some a0∧w.cell? ⟨g,1,none⟩=some a1∧w.cell? ⟨g,2,none⟩=some a2∧w.frozen? ⟨g,0,none⟩=false∧w.frozen? ⟨g,1,none⟩=false∧w.frozen? ⟨g,2,none⟩=false:=⟨(blk_cell h 0).trans rfl,(blk_cell h 1).trans rfl,(blk_cell h 2).trans rfl,blk_frozen h 0,blk_frozen h 1,blk_frozen h 2⟩
theorem blk8 {w:World} {g:Nat} {t:TypeId} {a0 a1 a2 a3 a4 a5 a6 a7:Value} (h:w.heap[g]? = some (.cells #[a0,a1,a2,a3,a4,a5,a6,a7] t (0,0))):w.cell? ⟨g,0,none⟩=some a0∧w.cell? ⟨g,1,none⟩=some a1∧w.cell? ⟨g,2,none⟩=some a2∧w.cell? ⟨g,3,none⟩=some a3∧w.cell? ⟨g,4,none⟩=some a4∧w.cell? ⟨g,5,none⟩=some a5∧w.cell? ⟨g,6,none⟩=some a6∧w.cell? ⟨g,7,none⟩=some a7∧w.frozen? ⟨g,0,none⟩=false∧w.frozen? ⟨g,1,none⟩=false∧w.frozen? ⟨g,2,none⟩=false∧w.frozen? ⟨g,3,none⟩=false∧w.frozen? ⟨g,4,none⟩=false∧w.frozen? ⟨g,5,none⟩=false∧w.frozen? ⟨g,6,none⟩=false∧w.frozen? ⟨g,7,none⟩=false:=⟨(blk_cell h 0).trans rfl,(blk_cell h 1).trans rfl,(blk_cell h 2).trans rfl,(blk_cell h 3).trans rfl,(blk_cell h 4).trans rfl,(blk_cell h 5).trans rfl,(blk_cell h 6).trans rfl,(blk_cell h 7).trans rfl,blk_frozen h 0,blk_frozen h 1,blk_frozen h 2,blk_frozen h 3,blk_frozen h 4,blk_frozen h 5,blk_frozen h 6,blk_frozen h 7⟩
end Go.Proofs.Yteolnmoomeenbaa.Ext
namespace Go.Proofs.Yteolnmoomeenbaa.Ext
open Go Go.RowKit YteolnmoomeenbaaW.PrintWords YteolnmoomeenbaaW.PrintLast
-- EXT slices.Clone[[]int,int] making
def slices_Clone_int_int.f (l0:List Int):Option (List Int):=if l0.length≤17592186044415 then some l0 else none
set_option maxHeartbeats 2000000 in
theorem slices_Clone_int_int.calls (A0:Option Addr) (c0:Nat) (l0:List Int) (r:List Int) (w:World) (hr0:Kd.C (Kd.int .i64) w A0 l0.length l0) (hc0:l0.length≤c0) (h:slices_Clone_int_int.f l0=some r) :
  Calls Try.prog 53 #[.slice A0 l0.length c0] w fun e w'=>∃ v0_:Value,e = .returned (v0_)∧Kd.R (Kd.int .i64) 3 w' w.heap.size (fun _=>True) v0_ r∧Below w.heap.size w w':=by
 unfold slices_Clone_int_int.f at h
 split at h
 ·next hl =>
  obtain rfl:=zi h
  have q25:∀ (w:World) (a:Option Addr) (n c n' c':Nat),(binOp .eql 44 (.slice a n c) (.slice none n' c')).run Try.prog w = .ok (.bool a.isNone) w:=fun w a n c n' c'=>Lib.run_eql_slice_nil w _ _ a n c n' c' Try.underlying44
  have HR:=zk hr0
  have HL:=zk hl
  have HB:=zk (Below.refl w.heap.size w)
  cases A0 with
  | none =>
   have hn:l0 = []:=by
    cases l0 with
    | nil=>rfl
    | cons x l =>
     obtain ⟨ad,e,_⟩:=hr0.2.2 (by simp)
     cases e
   subst hn
   clear hr0 hl hc0
   go_enter Try.func53,Try.ntmps53
   go_wp2
   go_ret
   exact ⟨_,za30,Kd.R_nil _ _ _ _ _,HB.out⟩
  | some ad =>
   generalize hn:l0.length=n at *
   have HN:=zk hn
   clear hr0 hl hc0 hn
   go_enter Try.func53,Try.ntmps53
   go_wp2_with (first
    | ((with_reducible refine gate_dst (N:=5) rfl ?_);refine Kd.R_lit (Kd.int .i64) _ 3 ?hg (N:=5) ?hd (xs:=([]:List Int)) (inner:=[]) (ok:=fun _=>True) (okp:=fun _=>True) ?hr ?hp (fun _ hk=>hk) trivial (Below.refl _ _) (Nat.le_refl _) (by simp) ?_;(case hd=>rfl);(case hg=>rfl);(case hr=>first|(go_simp;done)|(go_simp;rfl));(case hp=>exact (Reps.none _ _));intro v5 w5 ho hb hg_ hnew_;clear hg_ hnew_;have R5:=zk ho;have B5:=zk (below_step HB.out hb);have C5:=zk (Kd.C_below HR.out hb);clear hb ho)
    | (at_builtin;refine Kd.R_append_row (Value.int .i64) (0:Int) (w0:=w) w.heap.size rfl (.tmp 5) (.tmp 6) 44 3 (.int .i64 0) 8 rfl Try.underlying44 (by kernel_rfl) rfl (by decide) v5 [] l0 (some ad) n c0 (fun _=>True) rfl rfl (fun _ _=>trivial) R5.out (by have:=C5.out;exact this) B5.out B5.out.size (by have:=HL.out;simp;omega) ?_;intro v7 w7 hr7 hb7 hg7 hat7;have R7:=zk hr7;have B7:=zk hb7;clear hr7 hb7 hg7 hat7))
   go_ret
   exact ⟨_,za30,by have:=R7.out;rw [List.nil_append] at this;exact this,B7.out⟩
 ·cases h
end Go.Proofs.Yteolnmoomeenbaa.Ext
namespace Go.Proofs.Yteolnmoomeenbaa.Ext
open Go.RowKit YteolnmoomeenbaaW.PrintWords
-- EXT strings.IndexByte
def strings_IndexByte.f (s:ByteArray) (c:Int):Option Int:=some (Lib.indexByte s.data.toList c.toNat.toUInt8)
theorem stringslite_run (s:ByteArray) (c:Int) (w:World) :
  Calls Try.prog 74 #[.string s,.int .u8 c] w fun e w'=>e = .returned (.int .i64 (Lib.indexByte s.data.toList c.toNat.toUInt8))∧w'=w:=by
 go_enter Try.func74,Try.ntmps74
 go_wp2
 rw [run_callFunc_extern Try.func76 (by kernel_rfl) (by kernel_rfl) (by kernel_rfl) (e:=Extern.BytealgIndexByte.indexByte) (by kernel_rfl),Lib.run_indexByteString]
 simp only [Result.andThen]
 rw [Oper.upon_value]
 go_wp2
 go_ret
 exact ⟨rfl,rfl⟩
theorem strings_IndexByte.calls (s:ByteArray) (c:Int) (r:Int) (w:World) (h:strings_IndexByte.f s c=some r) :
  Calls Try.prog 71 #[.string s,.int .u8 c] w fun e w'=>e = .returned (.int .i64 r)∧Drawn0 w w':=by
 obtain rfl:=zi h
 go_enter Try.func71,Try.ntmps71
 go_wp2_with (go_at_call 74;refine (stringslite_run _ _ _).mono ?_;rintro e w' ⟨rfl,rfl⟩)
 go_ret
 exact ⟨rfl,Drawn0.refl _⟩
end Go.Proofs.Yteolnmoomeenbaa.Ext
namespace Go.Proofs.Yteolnmoomeenbaa.Ext
open Go Go.RowKit YteolnmoomeenbaaW.PrintWords YteolnmoomeenbaaW.PrintLast YteolnmoomeenbaaW.PrintMore
theorem zsz0:(⟨#[]⟩:ByteArray).size=0:=rfl
theorem zsz1 {a:UInt8} : (⟨#[a]⟩:ByteArray).size=1:=rfl
theorem zsz2 {a b:UInt8} : (⟨#[a,b]⟩:ByteArray).size=2:=rfl
theorem zsz3 {a b c:UInt8} : (⟨#[a,b,c]⟩:ByteArray).size=3:=rfl
theorem zsz4 {a b c d:UInt8} : (⟨#[a,b,c,d]⟩:ByteArray).size=4:=rfl
theorem zsz5 {a b c d e:UInt8} : (⟨#[a,b,c,d,e]⟩:ByteArray).size=5:=rfl
theorem zrr {p:Prop} (h:p:=by first|with_reducible rfl|(rw [if_neg (by omega)];done)|(rw [if_neg (by (try simp only [decide_eq_true_eq,decide_eq_false_iff_not,eq_iff_iff,iff_true,iff_false] at *);(try simp only [ByteArray.size_extract,ByteArray.size_append,zsz0,zsz1,zsz2,zsz3,zsz4,zsz5] at *);omega)];done)):p:=h
theorem zpu {W0 W:World} {g:Nat} {o o':Obj} (h:W0.heap[g]? = some o) (f:W0.heap[g]? = some o→W.heap[g]? = some o':=by intro h_;repeat (first|with_reducible exact h_|with_reducible refine blk_drewN ?_ _|with_reducible refine blk_drew ?_|with_reducible refine blk_alloc ?_ _|with_reducible apply blk_put|with_reducible refine blk_far ?_ (Aside0.out (by assumption)) _|rfl)):W.heap[g]? = some o':=f h
theorem zdl {α:Type} [LT α] {a b:α} [Decidable (a < b)] (h:a < b):decide (a < b)=true:=decide_eq_true h
theorem zdle {α:Type} [LE α] {a b:α} [Decidable (a≤b)] (h:a≤b):decide (a≤b)=true:=decide_eq_true h
theorem zdnl {α:Type} [LT α] {a b:α} [Decidable (a < b)] (h:¬ a < b):decide (a < b)=false:=decide_eq_false h
theorem zdnle {α:Type} [LE α] {a b:α} [Decidable (a≤b)] (h:¬ a≤b):decide (a≤b)=false:=decide_eq_false h
theorem zbt {α:Type} [BEq α] [LawfulBEq α] {a b:α} (h:a=b):(a == b)=true:=beq_iff_eq.mpr h
theorem zbn {α:Type} [BEq α] [LawfulBEq α] {a b:α} (h:¬ a=b):(a == b)=false:=beq_eq_false_iff_ne.mpr h
theorem zqt {α:Type} [BEq α] [LawfulBEq α] {a b:α} (h:¬ a=b):(a != b)=true:=bne_iff_ne.mpr h
theorem zqn {α:Type} [BEq α] [LawfulBEq α] {a b:α} (h:a=b):(a != b)=false:=bne_eq_false_iff_eq.mpr h
section
variable {α : Type} {d : Kd α} {e base g i : Nat} {ok : Nat → Prop} {w : World} {v u : Value} {xs : List α}
theorem zfN (h:Kd.N d e w base (fun k=>ok k∧k ≠ g) v xs):Kd.N d e (w.setCell ⟨g,i,none⟩ u) base (fun k=>ok k∧k ≠ g) v xs:=Kd.N_far h (fun _ hk=>hk.2) u
theorem zfR (h:Kd.R d e w base (fun k=>ok k∧k ≠ g) v xs):Kd.R d e (w.setCell ⟨g,i,none⟩ u) base (fun k=>ok k∧k ≠ g) v xs:=Kd.R_far h (fun _ hk=>hk.2) u
theorem zfS (h:Kd.S d e w base (fun k=>ok k∧k ≠ g) v xs):Kd.S d e (w.setCell ⟨g,i,none⟩ u) base (fun k=>ok k∧k ≠ g) v xs:=Kd.S_far h (fun _ hk=>hk.2) u
end
section
variable {P : Program} {ops : Array Oper} {Q : Exit → Act → World → Prop} {md : Region.Mode} {S : World → Prop} {ds : List Nat}
theorem zy (i:Nat) (N:Option Tmp) {T:Bool × List (List Nat × List Nat)} (hT:rtab md ops=T) {oi:Oper} {v:Value} {fuel:Nat} {l l':Array Bool} {a a':Act} {w:World}
 (h:wpAnyLast P md ops Q S ds fuel l' a' w) (hi:ops[i]? = some oi:=by rfl) (hN:oi.dst=N:=by rfl)
 (hl:l.setIfInBounds i true=l':=by simp only [zt,zv,zu];rfl)
 (hc:anyT T l.toList l'.toList i=true:=by kernel_rfl) (hw:Region.wanted oi (yielded ops a.tmps)=true:=by rfl)
 (hy:∀ w,(execOp a.eval oi).run P w = .ok (.value v) w:=by intro w';go_simp;exact zrr)
 (ha:a.put N v=a':=by simp only [Act.put,zt,zv,zu,i64_w,i32_w];rfl)
 (hQ:∀ c a w,Q (.panic c) (a.put oi.dst v) w→Q (.panic c) a w:=by exact fun _ _ _ h=>h) :
 wpAnyLast P md ops Q S ds (fuel+1) l a w:=pure_ l' hi hN (any_of hT hc) hQ (.inl ⟨hw,hy⟩) ha h
theorem ztk (i:Nat) (N:Option Tmp) {T:Bool × List (List Nat × List Nat)} (hT:rtab md ops=T) {B:List Nat} (hB:waitsOk T.2 B=true) {oi:Oper} {v:Value} {fuel:Nat} {l l':Array Bool} {a a':Act} {w:World}
 (hS:S w) (h:wpAnyLast P md ops Q S ds fuel l' a' w) (hi:ops[i]? = some oi:=by rfl) (hN:oi.dst=N:=by rfl) (hl:l.setIfInBounds i true=l':=by simp only [zt,zv,zu];rfl)
 (hc:takeW T B ds l.toList l'.toList i=true:=by kernel_rfl) (hw:Region.wanted oi (yielded ops a.tmps)=true:=by rfl)
 (hy:∀ w,S w→(execOp a.eval oi).run P w = .ok (.value v) w:=by intro w' hs_;(repeat obtain ⟨_,hs_⟩:=hs_);go_simp;exact zrr) (ha:a.put N v=a':=by simp only [Act.put,zt,zv,zu,i64_w,i32_w];rfl)
 (hQ:∀ c a w,Q (.panic c) (a.put oi.dst v) w→Q (.panic c) a w:=by exact fun _ _ _ h=>h) :
 wpAnyLast P md ops Q S ds (fuel+1) l a w:=take_ l' hi hN (take_ofW hT hB hc) hQ (.inl ⟨hw,hy⟩) hS ha h
theorem zno (N:Option Tmp) {v:Value} {fuel:Nat} {l:Array Bool} {a0 a':Act} {w:World} (h:wpAnyLast P md ops Q S ds fuel l a' w) (ha:a0.put N v=a':=by simp only [Act.put,zt,zv,zu,i64_w,i32_w];rfl) :
 wpAnyLast P md ops Q S ds fuel l (a0.put N v) w:=norm_ ha h
theorem zon (i:Nat) (N:Option Tmp) {T:Bool × List (List Nat × List Nat)} (hT:rtab md ops=T) {oi:Oper} {fuel:Nat} {l l':Array Bool} {a:Act} {w:World}
 (h:∀ K:Act→World→Prop,Shut (∀ a' w',S w'→(S w'→wpAnyLast P md ops Q S ds fuel l' a' w')→K a' w')→if Region.wanted oi (yielded ops a.tmps)=true then Oper.wp P oi a w K Q else K (a.put N undef) w)
 (hi:ops[i]? = some oi:=by rfl) (hN:oi.dst=N:=by rfl) (hl:l.setIfInBounds i true=l':=by simp only [zt,zv,zu];rfl) (hc:(readyT T.2 l.toList == [i] && l.toList.set i true == l'.toList)=true:=by kernel_rfl) (hd:i ∉ ds:=by decide) :
 wpAnyLast P md ops Q S ds (fuel+1) l a w:=one_ l' hi hN (one_of hT hc) hd h
end
end Go.Proofs.Yteolnmoomeenbaa.Ext
namespace Go.Proofs.Yteolnmoomeenbaa.A
open Go.RowKit Yteolnmoomeenbaa.Ext YteolnmoomeenbaaW.PrintWords YteolnmoomeenbaaW.PrintLast YteolnmoomeenbaaW.PrintMore
attribute [local go_sem] max2_int min2_int max_two min_two max_three min_three max_four min_four
def errW:Option Int→Value
 | none => .nilIface
 | some c => .iface 0 (.int .i64 c)
theorem errW_none:errW none = .nilIface:=rfl
theorem errW_some (c:Int):errW (some c) = .iface 0 (.int .i64 c):=rfl
theorem info3:(Try.prog.info? 3).map (fun i=>(i.zero,i.size,i.bytes))=some (some (.int .i64 0),1,8):=by kernel_rfl
theorem info43:(Try.prog.info? 43).map (fun i=>(i.zero,i.size,i.bytes))=some (some (.agg #[(.int .i64 0),(.string ⟨#[]⟩),(.slice none 0 0)]),3,48):=by kernel_rfl
theorem info46:(Try.prog.info? 46).map (fun i=>(i.zero,i.size,i.bytes))=some (some (.agg #[(.int .i64 0),(.string ⟨#[]⟩),(.string ⟨#[]⟩),(.int .i64 0),(.string ⟨#[]⟩),(.slice none 0 0),(.slice none 0 0),(.int .i64 0)]),8,120):=by kernel_rfl
-- the values' own types
/-! #### struct type 52, nested in itself -/
structure S52 where
 f0:Int
 f1:ByteArray
 f2:(List S52)
def z52:S52:=⟨(0:Int),(⟨#[]⟩:ByteArray),([]:List S52)⟩
def F52 (d:Kd S52):Kd S52:=Kd.iso (Kd.pair (Kd.int .i64) (Kd.pair Kd.string (Kd.slice 52 d))) (fun x:S52=>(x.f0,x.f1,x.f2))
theorem sub52:Kd.Sub F52 [52]:=Kd.sub_iso _ (Kd.sub_pair (Kd.sub_const _ (by decide)) (Kd.sub_pair (Kd.sub_const _ (by decide)) (Kd.sub_slice 52 (by decide) Kd.sub_id)))
theorem sz52:∀ n,(Kd.upto F52 3 [52] n).sz=3:=Kd.upto_sz (fun _=>rfl)
def k52:Kd S52:=Kd.fix F52 3 [52] sz52 (Kd.upto_E sub52)
theorem k52_open {w:World} {x:S52} {cs:List Value} (h:k52.K w x cs):∃ A2 c2,cs = [.int .i64 x.f0,.string x.f1,.slice A2 x.f2.length c2]∧x.f2.length≤c2∧k52.C w A2 x.f2.length x.f2:=by
 obtain ⟨n,h⟩:=h
 cases n with
 | zero=>exact h.elim
 | succ n =>
  obtain ⟨_,_,rfl,rfl,⟨_,_,rfl,rfl,⟨A2,c2,rfl,l2,g2⟩⟩⟩:=h
  exact ⟨A2,c2,rfl,l2,Kd.fix_C g2⟩
def rd_T52 (xs:List S52) (i:Int):S52:=xs.getD i.toNat z52
theorem at_T52 {w:World} {A:Option Addr} {n:Nat} {xs:List S52} (h:Kd.C k52 w A n xs) (i:Int) (h0:0≤i) (h1:i < n):∃ ad A2 c2,A=some ad∧w.cell? (ad.add (i.toNat * 3))=some (.int .i64 (rd_T52 xs i).f0)∧w.cell? ⟨(ad.add (i.toNat * 3)).block,(ad.add (i.toNat * 3)).off+1,none⟩=some (.string (rd_T52 xs i).f1)∧w.cell? ⟨(ad.add (i.toNat * 3)).block,(ad.add (i.toNat * 3)).off+2,none⟩=some (.slice A2 (rd_T52 xs i).f2.length c2)∧(rd_T52 xs i).f2.length≤c2∧k52.C w A2 (rd_T52 xs i).f2.length (rd_T52 xs i).f2:=by
 obtain ⟨ad,c,e,_,hK,hc0⟩:=Kd.C_get h z52 i h0 h1
 have hc:∀ j u,c[j]? = some u→w.cell? (ad.add (i.toNat * 3+j))=some u:=hc0
 obtain ⟨A2,c2,rfl,l2,g2⟩:=k52_open hK
 exact ⟨ad,A2,c2,e,hc 0 _ rfl,za27,za26,l2,g2⟩
/-! #### struct type 54 -/
structure S54 where
 f0:Int
 f1:ByteArray
 f2:ByteArray
 f3:S52
 f4:(List Int)
 f5:Int
def z54:S54:=⟨(0:Int),(⟨#[]⟩:ByteArray),(⟨#[]⟩:ByteArray),z52,([]:List Int),(0:Int)⟩
def k54:Kd S54:=Kd.iso (Kd.pair (Kd.int .i64) (Kd.pair Kd.string (Kd.pair Kd.string (Kd.pair k52 (Kd.pair (Kd.slice 3 (Kd.int .i64)) (Kd.int .i64)))))) (fun x:S54=>(x.f0,x.f1,x.f2,x.f3,x.f4,x.f5))
theorem k54_open {w:World} {x:S54} {cs:List Value} (h:k54.K w x cs):∃ A5 c5 A6 c6,cs = [.int .i64 x.f0,.string x.f1,.string x.f2,.int .i64 x.f3.f0,.string x.f3.f1,.slice A5 x.f3.f2.length c5,.slice A6 x.f4.length c6,.int .i64 x.f5]∧x.f3.f2.length≤c5∧k52.C w A5 x.f3.f2.length x.f3.f2∧x.f4.length≤c6∧(Kd.int .i64).C w A6 x.f4.length x.f4:=by
 obtain ⟨_,_,rfl,rfl,⟨_,_,rfl,rfl,⟨_,_,rfl,rfl,⟨_,_,rfl,s3,⟨_,_,rfl,⟨A6,c6,rfl,l6,g6⟩,rfl⟩⟩⟩⟩⟩:=h
 obtain ⟨A5,c5,rfl,l5,g5⟩:=k52_open s3
 exact ⟨A5,c5,A6,c6,rfl,l5,g5,l6,g6⟩
def rd_T54 (xs:List S54) (i:Int):S54:=xs.getD i.toNat z54
theorem at_T54 {w:World} {A:Option Addr} {n:Nat} {xs:List S54} (h:Kd.C k54 w A n xs) (i:Int) (h0:0≤i) (h1:i < n):∃ ad A5 c5 A6 c6,A=some ad∧w.cell? (ad.add (i.toNat * 8))=some (.int .i64 (rd_T54 xs i).f0)∧w.cell? ⟨(ad.add (i.toNat * 8)).block,(ad.add (i.toNat * 8)).off+1,none⟩=some (.string (rd_T54 xs i).f1)∧w.cell? ⟨(ad.add (i.toNat * 8)).block,(ad.add (i.toNat * 8)).off+2,none⟩=some (.string (rd_T54 xs i).f2)∧w.cell? ⟨(ad.add (i.toNat * 8)).block,(ad.add (i.toNat * 8)).off+3,none⟩=some (.int .i64 (rd_T54 xs i).f3.f0)∧w.cell? ⟨(ad.add (i.toNat * 8)).block,(ad.add (i.toNat * 8)).off+4,none⟩=some (.string (rd_T54 xs i).f3.f1)∧w.cell? ⟨(ad.add (i.toNat * 8)).block,(ad.add (i.toNat * 8)).off+5,none⟩=some (.slice A5 (rd_T54 xs i).f3.f2.length c5)∧w.cell? ⟨(ad.add (i.toNat * 8)).block,(ad.add (i.toNat * 8)).off+6,none⟩=some (.slice A6 (rd_T54 xs i).f4.length c6)∧w.cell? ⟨(ad.add (i.toNat * 8)).block,(ad.add (i.toNat * 8)).off+7,none⟩=some (.int .i64 (rd_T54 xs i).f5)∧(rd_T54 xs i).f3.f2.length≤c5∧k52.C w A5 (rd_T54 xs i).f3.f2.length (rd_T54 xs i).f3.f2∧(rd_T54 xs i).f4.length≤c6∧(Kd.int .i64).C w A6 (rd_T54 xs i).f4.length (rd_T54 xs i).f4:=by
 obtain ⟨ad,c,e,_,hK,hc0⟩:=Kd.C_get h z54 i h0 h1
 have hc:∀ j u,c[j]? = some u→w.cell? (ad.add (i.toNat * 8+j))=some u:=hc0
 obtain ⟨A5,c5,A6,c6,rfl,l5,g5,l6,g6⟩:=k54_open hK
 exact ⟨ad,A5,c5,A6,c6,e,hc 0 _ rfl,za27,za26,by rw [← add_field _ _ 3 (by omega)];exact hc 3 _ rfl,by rw [← add_field _ _ 4 (by omega)];exact hc 4 _ rfl,by rw [← add_field _ _ 5 (by omega)];exact hc 5 _ rfl,by rw [← add_field _ _ 6 (by omega)];exact hc 6 _ rfl,by rw [← add_field _ _ 7 (by omega)];exact hc 7 _ rfl,l5,g5,l6,g6⟩
/-! #### struct type 43, nested in itself -/
structure S43 where
 f0:Int
 f1:ByteArray
 f2:(List S43)
def z43:S43:=⟨(0:Int),(⟨#[]⟩:ByteArray),([]:List S43)⟩
def F43 (d:Kd S43):Kd S43:=Kd.iso (Kd.pair (Kd.int .i64) (Kd.pair Kd.string (Kd.slice 43 d))) (fun x:S43=>(x.f0,x.f1,x.f2))
theorem mono43:Kd.Mono F43:=Kd.mono_iso _ (Kd.mono_pair (Kd.mono_const _) (Kd.mono_pair (Kd.mono_const _) (Kd.mono_slice 43 Kd.mono_id)))
theorem sub43:Kd.Sub F43 [43]:=Kd.sub_iso _ (Kd.sub_pair (Kd.sub_const _ (by decide)) (Kd.sub_pair (Kd.sub_const _ (by decide)) (Kd.sub_slice 43 (by decide) Kd.sub_id)))
theorem sz43:∀ n,(Kd.upto F43 3 [43] n).sz=3:=Kd.upto_sz (fun _=>rfl)
def k43:Kd S43:=Kd.fix F43 3 [43] sz43 (Kd.upto_E sub43)
theorem k43_open {w:World} {x:S43} {cs:List Value} (h:k43.K w x cs):∃ A2 c2,cs = [.int .i64 x.f0,.string x.f1,.slice A2 x.f2.length c2]∧x.f2.length≤c2∧k43.C w A2 x.f2.length x.f2:=by
 obtain ⟨n,h⟩:=h
 cases n with
 | zero=>exact h.elim
 | succ n =>
  obtain ⟨_,_,rfl,rfl,⟨_,_,rfl,rfl,⟨A2,c2,rfl,l2,g2⟩⟩⟩:=h
  exact ⟨A2,c2,rfl,l2,Kd.fix_C g2⟩
theorem k43_openM {w:World} {base:Nat} {ok:Nat→Prop} {x:S43} {cs:List Value} (h:k43.M w base ok x cs):∃ v2,cs = [.int .i64 x.f0,.string x.f1,v2]∧k43.R 43 w base ok v2 x.f2:=by
 obtain ⟨n,h⟩:=h
 cases n with
 | zero=>exact h.elim
 | succ n =>
  obtain ⟨_,_,rfl,rfl,⟨_,_,rfl,rfl,⟨v2,rfl,g2⟩⟩⟩:=h
  exact ⟨v2,rfl,Kd.fix_R g2⟩
theorem k43_mkM (w:World) (base:Nat) (ok:Nat→Prop) (x:S43) {v2:Value} (g2:k43.R 43 w base ok v2 x.f2):k43.M w base ok x [.int .i64 x.f0,.string x.f1,v2]:=by
 obtain ⟨n2,q2⟩:=Kd.fix_R_back mono43 g2
 have r2:=Kd.upto_R_le mono43 sz43 (show n2≤n2 by omega) q2
 exact ⟨n2+1,⟨[.int .i64 x.f0],[.string x.f1,v2],rfl,rfl,⟨[.string x.f1],[v2],rfl,rfl,⟨v2,rfl,r2⟩⟩⟩⟩
def rd_T43 (xs:List S43) (i:Int):S43:=xs.getD i.toNat z43
theorem at_T43 {w:World} {A:Option Addr} {n:Nat} {xs:List S43} (h:Kd.C k43 w A n xs) (i:Int) (h0:0≤i) (h1:i < n):∃ ad A2 c2,A=some ad∧w.cell? (ad.add (i.toNat * 3))=some (.int .i64 (rd_T43 xs i).f0)∧w.cell? ⟨(ad.add (i.toNat * 3)).block,(ad.add (i.toNat * 3)).off+1,none⟩=some (.string (rd_T43 xs i).f1)∧w.cell? ⟨(ad.add (i.toNat * 3)).block,(ad.add (i.toNat * 3)).off+2,none⟩=some (.slice A2 (rd_T43 xs i).f2.length c2)∧(rd_T43 xs i).f2.length≤c2∧k43.C w A2 (rd_T43 xs i).f2.length (rd_T43 xs i).f2:=by
 obtain ⟨ad,c,e,_,hK,hc0⟩:=Kd.C_get h z43 i h0 h1
 have hc:∀ j u,c[j]? = some u→w.cell? (ad.add (i.toNat * 3+j))=some u:=hc0
 obtain ⟨A2,c2,rfl,l2,g2⟩:=k43_open hK
 exact ⟨ad,A2,c2,e,hc 0 _ rfl,za27,za26,l2,g2⟩
/-! #### struct type 46 -/
structure S46 where
 f0:Int
 f1:ByteArray
 f2:ByteArray
 f3:S43
 f4:(List Int)
 f5:Int
def z46:S46:=⟨(0:Int),(⟨#[]⟩:ByteArray),(⟨#[]⟩:ByteArray),z43,([]:List Int),(0:Int)⟩
def k46:Kd S46:=Kd.iso (Kd.pair (Kd.int .i64) (Kd.pair Kd.string (Kd.pair Kd.string (Kd.pair k43 (Kd.pair (Kd.slice 3 (Kd.int .i64)) (Kd.int .i64)))))) (fun x:S46=>(x.f0,x.f1,x.f2,x.f3,x.f4,x.f5))
theorem k46_open {w:World} {x:S46} {cs:List Value} (h:k46.K w x cs):∃ A5 c5 A6 c6,cs = [.int .i64 x.f0,.string x.f1,.string x.f2,.int .i64 x.f3.f0,.string x.f3.f1,.slice A5 x.f3.f2.length c5,.slice A6 x.f4.length c6,.int .i64 x.f5]∧x.f3.f2.length≤c5∧k43.C w A5 x.f3.f2.length x.f3.f2∧x.f4.length≤c6∧(Kd.int .i64).C w A6 x.f4.length x.f4:=by
 obtain ⟨_,_,rfl,rfl,⟨_,_,rfl,rfl,⟨_,_,rfl,rfl,⟨_,_,rfl,s3,⟨_,_,rfl,⟨A6,c6,rfl,l6,g6⟩,rfl⟩⟩⟩⟩⟩:=h
 obtain ⟨A5,c5,rfl,l5,g5⟩:=k43_open s3
 exact ⟨A5,c5,A6,c6,rfl,l5,g5,l6,g6⟩
theorem k46_openM {w:World} {base:Nat} {ok:Nat→Prop} {x:S46} {cs:List Value} (h:k46.M w base ok x cs):∃ v5 v6,cs = [.int .i64 x.f0,.string x.f1,.string x.f2,.int .i64 x.f3.f0,.string x.f3.f1,v5,v6,.int .i64 x.f5]∧k43.R 43 w base ok v5 x.f3.f2∧(Kd.int .i64).R 3 w base ok v6 x.f4:=by
 obtain ⟨_,_,rfl,rfl,⟨_,_,rfl,rfl,⟨_,_,rfl,rfl,⟨_,_,rfl,s3,⟨_,_,rfl,⟨v6,rfl,g6⟩,rfl⟩⟩⟩⟩⟩:=h
 obtain ⟨v5,rfl,g5⟩:=k43_openM s3
 exact ⟨v5,v6,rfl,g5,g6⟩
theorem k46_mkM (w:World) (base:Nat) (ok:Nat→Prop) (x:S46) {v5:Value} (g5:k43.R 43 w base ok v5 x.f3.f2) {v6:Value} (g6:(Kd.int .i64).R 3 w base ok v6 x.f4):k46.M w base ok x [.int .i64 x.f0,.string x.f1,.string x.f2,.int .i64 x.f3.f0,.string x.f3.f1,v5,v6,.int .i64 x.f5]:=⟨[.int .i64 x.f0],[.string x.f1,.string x.f2,.int .i64 x.f3.f0,.string x.f3.f1,v5,v6,.int .i64 x.f5],rfl,rfl,⟨[.string x.f1],[.string x.f2,.int .i64 x.f3.f0,.string x.f3.f1,v5,v6,.int .i64 x.f5],rfl,rfl,⟨[.string x.f2],[.int .i64 x.f3.f0,.string x.f3.f1,v5,v6,.int .i64 x.f5],rfl,rfl,⟨[.int .i64 x.f3.f0,.string x.f3.f1,v5],[v6,.int .i64 x.f5],rfl,(k43_mkM w base ok x.f3 g5),⟨[v6],[.int .i64 x.f5],rfl,⟨v6,rfl,g6⟩,rfl⟩⟩⟩⟩⟩
def rd_T46 (xs:List S46) (i:Int):S46:=xs.getD i.toNat z46
theorem at_T46 {w:World} {A:Option Addr} {n:Nat} {xs:List S46} (h:Kd.C k46 w A n xs) (i:Int) (h0:0≤i) (h1:i < n):∃ ad A5 c5 A6 c6,A=some ad∧w.cell? (ad.add (i.toNat * 8))=some (.int .i64 (rd_T46 xs i).f0)∧w.cell? ⟨(ad.add (i.toNat * 8)).block,(ad.add (i.toNat * 8)).off+1,none⟩=some (.string (rd_T46 xs i).f1)∧w.cell? ⟨(ad.add (i.toNat * 8)).block,(ad.add (i.toNat * 8)).off+2,none⟩=some (.string (rd_T46 xs i).f2)∧w.cell? ⟨(ad.add (i.toNat * 8)).block,(ad.add (i.toNat * 8)).off+3,none⟩=some (.int .i64 (rd_T46 xs i).f3.f0)∧w.cell? ⟨(ad.add (i.toNat * 8)).block,(ad.add (i.toNat * 8)).off+4,none⟩=some (.string (rd_T46 xs i).f3.f1)∧w.cell? ⟨(ad.add (i.toNat * 8)).block,(ad.add (i.toNat * 8)).off+5,none⟩=some (.slice A5 (rd_T46 xs i).f3.f2.length c5)∧w.cell? ⟨(ad.add (i.toNat * 8)).block,(ad.add (i.toNat * 8)).off+6,none⟩=some (.slice A6 (rd_T46 xs i).f4.length c6)∧w.cell? ⟨(ad.add (i.toNat * 8)).block,(ad.add (i.toNat * 8)).off+7,none⟩=some (.int .i64 (rd_T46 xs i).f5)∧(rd_T46 xs i).f3.f2.length≤c5∧k43.C w A5 (rd_T46 xs i).f3.f2.length (rd_T46 xs i).f3.f2∧(rd_T46 xs i).f4.length≤c6∧(Kd.int .i64).C w A6 (rd_T46 xs i).f4.length (rd_T46 xs i).f4:=by
 obtain ⟨ad,c,e,_,hK,hc0⟩:=Kd.C_get h z46 i h0 h1
 have hc:∀ j u,c[j]? = some u→w.cell? (ad.add (i.toNat * 8+j))=some u:=hc0
 obtain ⟨A5,c5,A6,c6,rfl,l5,g5,l6,g6⟩:=k46_open hK
 exact ⟨ad,A5,c5,A6,c6,e,hc 0 _ rfl,za27,za26,by rw [← add_field _ _ 3 (by omega)];exact hc 3 _ rfl,by rw [← add_field _ _ 4 (by omega)];exact hc 4 _ rfl,by rw [← add_field _ _ 5 (by omega)];exact hc 5 _ rfl,by rw [← add_field _ _ 6 (by omega)];exact hc 6 _ rfl,by rw [← add_field _ _ 7 (by omega)];exact hc 7 _ rfl,l5,g5,l6,g6⟩
def impl_LetterIndex.f (a0:Int):Option (Int):=(strings_IndexByte.f (⟨#[97,98,99]⟩:ByteArray) a0).bind fun t63001=>(some t63001)
theorem impl_LetterIndex.calls (a0:Int) (r:Int) (w:World) (h:impl_LetterIndex.f a0=some r) :
  Calls Try.prog 63 #[.int .u8 a0] w fun e w'=>e = .returned (.int .i64 r)∧Drawn0 w w':=by
 have H:=h
 unfold impl_LetterIndex.f at H
 clear h
 obtain ⟨t1,A2,H⟩:=zO H
 try dsimp only at H
 obtain rfl:=zi H
 go_enter Try.func63,Try.ntmps63
 go_wp2_with (first|((with_reducible refine gate_callee (f:=71) rfl ?_);refine zg (some 4) Try.func71 #[.string ⟨#[97,98,99]⟩,.int .u8 a0] rfl za6 ?_;(with_reducible refine (strings_IndexByte.calls (⟨#[97,98,99]⟩:ByteArray) a0 t1 _ A2.out).mono ?_);rintro e w' ⟨rfl,⟨nd,rfl⟩⟩;refine ⟨_,rfl,?_⟩))
 go_ret
 exact ⟨za9,za10⟩
def impl_isLetters.l0:Nat→ByteArray→Int→Option (Bool)
 | 0,_,_=>none
 | k+1,x0,x3=>if x3 < (x0.size:Int) then (if 0≤x3 then ((impl_LetterIndex.f (bt x0 x3)).bind fun t75001=>(if t75001 < 0 then (some false) else (impl_isLetters.l0 k x0 (wrap64 (x3+1))))) else (none)) else (some true)
def impl_isLetters.f (k:Nat) (a0:ByteArray):Option (Bool):=impl_isLetters.l0 k a0 0
theorem impl_isLetters.calls (k:Nat) (a0:ByteArray) (r:Bool) (w:World) (h:impl_isLetters.f k a0=some r) :
   Calls Try.prog 75 #[.string a0] w fun e w'=>e = .returned (.bool r)∧Drawn0 w w':=by
 have H:=h
 unfold impl_isLetters.f at H
 clear h
 have H':=zk H
 clear H
 go_enter Try.func75,Try.ntmps75
 go_wp2
 try simp only [Act.put,zt,zv,zu]
 go_loopg [3] k (fun kq v3 w'=>∃ (x3_1:Int),v3 = .int .i64 x3_1∧Aside0 (impl_isLetters.l0 kq a0 x3_1=some r)∧Aside0 (kq≤k)∧Drawn0 w w')
 case atStart=>exact ⟨(0),za9,H',⟨Nat.le_refl _⟩,za10⟩
 case round =>
  clear H'
  obtain ⟨x3_1,rfl,HA,HK1,⟨m1,rfl⟩⟩:=hrel
  cases gk with
  | zero=>exact absurd HA.out (by simp [impl_isLetters.l0])
  | succ k1 =>
   have H:=HA.out
   clear HA
   simp only [impl_isLetters.l0] at H
   by_cases c2:x3_1 < (a0.size:Int)
   rw [if_pos c2] at H
   have c2b0:=zdl c2
   clear c2
   by_cases c3:0≤x3_1
   rw [if_pos c3] at H
   have c3b0:=zdle c3
   clear c3
   obtain ⟨t1,A5,H⟩:=zO H
   try dsimp only at H
   by_cases c6:t1 < 0
   rw [if_pos c6] at H
   have c6b0:=zdl c6
   clear c6
   obtain rfl:=zi H
   have fin0_:=zk trivial
   rotate_left
   rw [if_neg c6] at H
   have c6b0:=zdnl c6
   clear c6
   have H':=zk H
   clear H
   have fin1_:=zk trivial
   rotate_left
   · rw [if_neg c3] at H
     exact absurd H (by simp)
   · rw [if_neg c2] at H
     have c2b0:=zdnl c2
     clear c2
     obtain rfl:=zi H
     go_wp2
     go_ret
     exact ⟨za9,za10⟩
   all_goals
    have p4:0≤(x3_1:Int):=of_decide_eq_true za7
    have q4:x3_1 < (a0.size:Int):=of_decide_eq_true za7
    have hx4:=bt_at a0 x3_1
    replace p4:=eq_true p4
    replace q4:=eq_true q4
    go_wp2_with (((with_reducible refine gate_callee (f:=63) rfl ?_);refine zg (some 13) Try.func63 #[.int .u8 (bt a0 x3_1)] rfl za6 ?_;(with_reducible refine (impl_LetterIndex.calls (bt a0 x3_1) t1 _ A5.out).mono ?_);rintro e w' ⟨rfl,⟨nd,rfl⟩⟩;refine ⟨_,rfl,?_⟩))
    first
    | (
      clear fin0_
      go_ret
      exact ⟨za9,za10⟩)
    | (
      clear fin1_
      go_roundg k1
      case measure=>have:=HK1.out;omega
      case rel=>exact ⟨(wrap64 (x3_1+1)),za9,H',⟨za11⟩,za10⟩)
def impl_IsWord.f (k:Nat) (a0:ByteArray):Option (Bool):=if (a0.size:Int)≤30 then ((impl_isLetters.f k a0).bind fun t73001=>(some t73001)) else (some false)
theorem impl_IsWord.calls (k:Nat) (a0:ByteArray) (r:Bool) (w:World) (h:impl_IsWord.f k a0=some r) :
   Calls Try.prog 73 #[.string a0] w fun e w'=>e = .returned (.bool r)∧Drawn0 w w':=by
 have H:=h
 unfold impl_IsWord.f at H
 clear h
 by_cases c2:(a0.size:Int)≤30
 rw [if_pos c2] at H
 have c2b0:=zdle c2
 have c2b1:decide (a0.size≤30)=true:=decide_eq_true (by omega)
 clear c2
 obtain ⟨t1,A3,H⟩:=zO H
 try dsimp only at H
 rotate_left
 rw [if_neg c2] at H
 have c2b0:=zdnle c2
 have c2b1:decide (a0.size≤30)=false:=decide_eq_false (by omega)
 clear c2
 rotate_left
 all_goals
  obtain rfl:=zi H
  go_enter Try.func73,Try.ntmps73
  go_wp2_with ((go_at_call 75;(with_reducible refine (impl_isLetters.calls k a0 t1 _ A3.out).mono ?_);rintro e w' ⟨rfl,⟨nd,rfl⟩⟩))
  go_ret
  exact ⟨za9,za10⟩
def impl_isZeroRegex.f (a0_0:Int) (a0_1:ByteArray) (l0_2:List (S43)):Option (Bool):=if a0_0=0 then (if a0_1.toList=([]:List UInt8) then (some ((l0_2.length:Int) == 0)) else (some false)) else (some false)
theorem impl_isZeroRegex.calls (a0_0:Int) (a0_1:ByteArray) (A0_2:Option Addr) (c0_2:Nat) (l0_2:List (S43)) (r:Bool) (w:World) (hr0_2:Kd.C k43 w A0_2 l0_2.length l0_2) (hc0_2:l0_2.length≤c0_2) (h:impl_isZeroRegex.f a0_0 a0_1 l0_2=some r) :
   Calls Try.prog 48 #[.agg #[.int .i64 a0_0,.string a0_1,.slice A0_2 l0_2.length c0_2]] w fun e w'=>e = .returned (.bool r)∧Below w.heap.size w w':=by
 have hu43:=Try.underlying43
 have HR0_2:=zk hr0_2
 have HC0_2:=zk hc0_2
 clear hr0_2 hc0_2
 have HB:=zk (Below.refl w.heap.size w)
 have H:=h
 unfold impl_isZeroRegex.f at H
 clear h
 by_cases c2:a0_0=0
 rw [if_pos c2] at H
 have c2b0:=zbt c2
 have c2b1:=zqn c2
 clear c2
 by_cases c3:a0_1.toList=([]:List UInt8)
 rw [if_pos c3] at H
 have c3b0:=zbt c3
 have c3b1:=zqn c3
 clear c3
 rotate_left
 rw [if_neg c3] at H
 have c3b0:=zbn c3
 have c3b1:=zqt c3
 rotate_left
 rw [if_neg c2] at H
 have c2b0:=zbn c2
 have c2b1:=zqt c2
 rotate_left
 all_goals
  obtain rfl:=zi H
  go_enter Try.func48,Try.ntmps48
  go_wp2_with (((with_reducible refine gate_dst (N:=1) rfl ?_);(try (refine gate_guard (by rfl) ?_;dsimp only));refine zE (cs:=#[.int .i64 a0_0,.string a0_1,.slice A0_2 l0_2.length c0_2]) (t:=43) ?_;intro gb1 hg w4 hbox hb;have BK1:=zk hbox;have GW1:=zk (zs (w:=w) hg za5);have GE1:=GW1;replace HB:=yB HB hb;clear hb hbox hg;obtain ⟨hcz5_0,hcz5_1,hcz5_2,hfz5_0,hfz5_1,hfz5_2⟩:=blk3 BK1.out))
  go_ret
  exact ⟨za8,za5⟩
mutual
def impl_argsOf.j0:Nat→Int→Bool→Option (Int)
 | 0,_,_=>none
 | k+1,x3,x4=>if x4=true then (some 0) else (if x3=8 then (impl_argsOf.j1 k x3 (x3 == 8)) else (impl_argsOf.j1 k x3 (x3 == 9)))
def impl_argsOf.j1:Nat→Int→Bool→Option (Int)
 | 0,_,_=>none
 | k+1,x3,x9=>if x9=true then (some 1) else (if x3=5 then (some 2) else (if x3=6 then (some 2) else (if x3=7 then (some 2) else (some (-1)))))
end
def impl_argsOf.f (k:Nat) (a0:Int):Option (Int):=if a0=1 then (impl_argsOf.j0 k a0 (a0 == 1)) else (if a0=2 then (impl_argsOf.j0 k a0 (a0 == 2)) else (if a0=3 then (impl_argsOf.j0 k a0 (a0 == 3)) else (impl_argsOf.j0 k a0 (a0 == 4))))
theorem impl_argsOf.calls (k:Nat) (a0:Int) (r:Int) (w:World) (h:impl_argsOf.f k a0=some r) :
   Calls Try.prog 72 #[.int .i64 a0] w fun e w'=>e = .returned (.int .i64 r)∧Drawn0 w w':=by
 have H:=h
 unfold impl_argsOf.f at H
 clear h
 have HC2:=zk H
 clear H
 go_enter Try.func72,Try.ntmps72
 go_upto_if 4 with (fail)
 go_cut [4] (fun v4 wc=>∃ (kq:Nat) (x4_1:Bool),v4 = .bool x4_1∧Aside0 (impl_argsOf.j0 kq a0 x4_1=some r)∧Aside0 (kq≤k)∧Drawn0 w wc)
 case first =>
  have H:=HC2.out
  clear HC2
  by_cases c3:a0=1
  · rw [if_pos c3] at H
    have c3b0:=zbt c3
    have c3b1:=zqn c3
    clear c3
    (first|rw [c3b0]|(simp only [i64_w,i32_w];rw [c3b0])|skip)
    have H':=zk H
    clear H
    go_wp2
    go_meet
    case rel=>exact ⟨_,((a0 == 1)),za9,H',⟨za13⟩,za10⟩
  rw [if_neg c3] at H
  have c3b0:=zbn c3
  have c3b1:=zqt c3
  (first|rw [c3b0]|(simp only [i64_w,i32_w];rw [c3b0])|skip)
  by_cases c4:a0=2
  · rw [if_pos c4] at H
    have c4b0:=zbt c4
    have c4b1:=zqn c4
    clear c4
    have H':=zk H
    clear H
    go_wp2
    go_meet
    case rel=>exact ⟨_,((a0 == 2)),za9,H',⟨za13⟩,za10⟩
  rw [if_neg c4] at H
  have c4b0:=zbn c4
  have c4b1:=zqt c4
  by_cases c5:a0=3
  · rw [if_pos c5] at H
    have c5b0:=zbt c5
    have c5b1:=zqn c5
    clear c5
    have H':=zk H
    clear H
    go_wp2
    go_meet
    case rel=>exact ⟨_,((a0 == 3)),za9,H',⟨za13⟩,za10⟩
  · rw [if_neg c5] at H
    have c5b0:=zbn c5
    have c5b1:=zqt c5
    have H':=zk H
    clear H
    go_wp2
    go_meet
    case rel=>exact ⟨_,((a0 == 4)),za9,H',⟨za13⟩,za10⟩
 case rest =>
  clear HC2
  obtain ⟨kq,x4_1,rfl,HA,HJ1,⟨mc1,rfl⟩⟩:=hcut
  cases kq with
  | zero=>exact absurd HA.out (by simp [impl_argsOf.j0])
  | succ kj1 =>
   have H:=HA.out
   clear HA
   simp only [impl_argsOf.j0] at H
   by_cases c6:x4_1=true
   · subst c6
     rw [if_pos rfl] at H
     try dsimp only at H
     obtain rfl:=zi H
     go_wp2
     go_ret
     exact ⟨za9,za10⟩
   · replace c6:=Bool.eq_false_iff.mpr c6
     subst c6
     rw [if_neg zff] at H
     try dsimp only at H
     have HC7:=zk H
     clear H
     go_upto_if 9 with (fail)
     go_cut [9] (fun v9 wc=>∃ (kq:Nat) (x9_6:Bool),v9 = .bool x9_6∧Aside0 (impl_argsOf.j1 kq a0 x9_6=some r)∧Aside0 (kq≤kj1)∧Drawn0 w wc)
     case first =>
      have H:=HC7.out
      clear HC7
      by_cases c8:a0=8
      · rw [if_pos c8] at H
        have c8b0:=zbt c8
        have c8b1:=zqn c8
        clear c8
        (first|rw [c8b0]|(simp only [i64_w,i32_w];rw [c8b0])|skip)
        have H':=zk H
        clear H
        go_wp2
        go_meet
        case rel=>exact ⟨_,((a0 == 8)),za9,H',⟨za19⟩,za10⟩
      · rw [if_neg c8] at H
        have c8b0:=zbn c8
        have c8b1:=zqt c8
        (first|rw [c8b0]|(simp only [i64_w,i32_w];rw [c8b0])|skip)
        have H':=zk H
        clear H
        go_wp2
        go_meet
        case rel=>exact ⟨_,((a0 == 9)),za9,H',⟨za19⟩,za10⟩
     case rest =>
      clear HC7
      try clear c6
      obtain ⟨kq,x9_6,rfl,HA,HJ6,⟨mc6,rfl⟩⟩:=hcut
      cases kq with
      | zero=>exact absurd HA.out (by simp [impl_argsOf.j1])
      | succ kj6 =>
       have H:=HA.out
       clear HA
       simp only [impl_argsOf.j1] at H
       by_cases c9:x9_6=true
       subst c9
       rw [if_pos rfl] at H
       try dsimp only at H
       rotate_left
       replace c9:=Bool.eq_false_iff.mpr c9
       subst c9
       rw [if_neg zff] at H
       try dsimp only at H
       by_cases c10:a0=5
       rw [if_pos c10] at H
       have c10b0:=zbt c10
       have c10b1:=zqn c10
       clear c10
       rotate_left
       rw [if_neg c10] at H
       have c10b0:=zbn c10
       have c10b1:=zqt c10
       by_cases c11:a0=6
       rw [if_pos c11] at H
       have c11b0:=zbt c11
       have c11b1:=zqn c11
       clear c11
       rotate_left
       rw [if_neg c11] at H
       have c11b0:=zbn c11
       have c11b1:=zqt c11
       by_cases c12:a0=7
       rw [if_pos c12] at H
       have c12b0:=zbt c12
       have c12b1:=zqn c12
       clear c12
       rotate_left
       rw [if_neg c12] at H
       have c12b0:=zbn c12
       have c12b1:=zqt c12
       rotate_left
       all_goals
        obtain rfl:=zi H
        go_wp2
        go_ret
        exact ⟨za9,za10⟩
mutual
def impl_nodesOf.j0:Nat→Int→Bool→Int→ByteArray→List (S43)→Option (Int)
 | 0,_,_,_,_,_=>none
 | k+1,x1,x18,x65002000,x65002001,x65002002=>if x18=true then (some 17) else (if x65002000=3 then (if (x65002001.size:Int)=1 then ((impl_IsWord.f k x65002001).bind fun t65003=>(if t65003=true then (impl_nodesOf.j1 k x1 x65002000 x65002001 x65002002) else (some 17))) else (some 17)) else (if x65002001.toList=([]:List UInt8) then (impl_nodesOf.j1 k x1 x65002000 x65002001 x65002002) else (some 17)))
def impl_nodesOf.j1:Nat→Int→Int→ByteArray→List (S43)→Option (Int)
 | 0,_,_,_,_=>none
 | k+1,x1,x65002000,x65002001,x65002002=>impl_nodesOf.l0 k x1 1 x65002002 (x65002002.length:Int) 0
def impl_nodesOf.l0:Nat→Int→Int→List (S43)→Int→Int→Option (Int)
 | 0,_,_,_,_,_=>none
 | k+1,x1,x5,x36,x37,x38=>if x38 < x37 then (if 0≤x38 then (if x38 < (x36.length:Int) then ((impl_nodesOf.f k ((rd_T43 x36 x38).f0) ((rd_T43 x36 x38).f1) ((rd_T43 x36 x38).f2) (wrap64 (x1 - 1))).bind fun t65006=>(impl_nodesOf.l0 k x1 (wrap64 (x5+t65006)) x36 x37 (wrap64 (x38+1)))) else (none)) else (none)) else (some (mn x5 17))
def impl_nodesOf.f:Nat→Int→ByteArray→List (S43)→Int→Option (Int)
 | 0,_,_,_,_=>none
 | k+1,a0_0,a0_1,l0_2,a1=>if a1=0 then (impl_nodesOf.j0 k a1 true a0_0 a0_1 l0_2) else ((impl_argsOf.f k a0_0).bind fun t65002=>(impl_nodesOf.j0 k a1 ((l0_2.length:Int) != t65002) a0_0 a0_1 l0_2))
end
theorem impl_nodesOf.calls (k:Nat):∀ (a0_0:Int) (a0_1:ByteArray) (A0_2:Option Addr) (c0_2:Nat) (l0_2:List (S43)) (a1:Int) (r:Int) (w:World) (hr0_2:Kd.C k43 w A0_2 l0_2.length l0_2) (hc0_2:l0_2.length≤c0_2) (h:impl_nodesOf.f k a0_0 a0_1 l0_2 a1=some r),
   Calls Try.prog 65 #[.agg #[.int .i64 a0_0,.string a0_1,.slice A0_2 l0_2.length c0_2],.int .i64 a1] w fun e w'=>e = .returned (.int .i64 r)∧Below w.heap.size w w':=by
 induction k using Nat.strongRecOn with
 | _ k ih =>
 intro a0_0 a0_1 A0_2 c0_2 l0_2 a1 r w hr0_2 hc0_2 h
 cases k with
 | zero=>exact absurd h (by simp [impl_nodesOf.f])
 | succ k =>
 simp only [impl_nodesOf.f] at h
 have hu43:=Try.underlying43
 have HR0_2:=zk hr0_2
 have HC0_2:=zk hc0_2
 clear hr0_2 hc0_2
 have HB:=zk (Below.refl w.heap.size w)
 have H:=h
 clear h
 have HC3:=zk H
 clear H
 go_enter Try.func65,Try.ntmps65
 go_upto_region 1 with (first|((with_reducible refine gate_dst (N:=2) rfl ?_);(try (refine gate_guard (by rfl) ?_;dsimp only));refine zE (cs:=#[.int .i64 a0_0,.string a0_1,.slice A0_2 l0_2.length c0_2]) (t:=43) ?_;intro gb1 hg w4 hbox hb;have BK1:=zk hbox;have GW1:=zk (zs (w:=w) hg za5);have GE1:=GW1;replace HB:=yB HB hb;clear hb hbox hg))
 repeat (go_quiet (first|((with_reducible refine gate_dst (N:=2) rfl ?_);(try (refine gate_guard (by rfl) ?_;dsimp only));refine zE (cs:=#[.int .i64 a0_0,.string a0_1,.slice A0_2 l0_2.length c0_2]) (t:=43) ?_;intro gb1 hg w4 hbox hb;have BK1:=zk hbox;have GW1:=zk (zs (w:=w) hg za5);have GE1:=GW1;replace HB:=yB HB hb;clear hb hbox hg));go_upto_region 1 with (first|((with_reducible refine gate_dst (N:=2) rfl ?_);(try (refine gate_guard (by rfl) ?_;dsimp only));refine zE (cs:=#[.int .i64 a0_0,.string a0_1,.slice A0_2 l0_2.length c0_2]) (t:=43) ?_;intro gb1 hg w4 hbox hb;have BK1:=zk hbox;have GW1:=zk (zs (w:=w) hg za5);have GE1:=GW1;replace HB:=yB HB hb;clear hb hbox hg)))
 (try simp only [Act.put,zt,zu,zv])
 go_cut [18] (fun v18 wc=>∃ (kq:Nat) (x18_2:Bool),v18 = .bool x18_2∧Aside0 (impl_nodesOf.j0 kq a1 x18_2 a0_0 a0_1 l0_2=some r)∧Aside0 (kq≤k)∧Aside0 (wc.heap[gb1]? = some (.cells #[.int .i64 a0_0,.string a0_1,(.slice A0_2 l0_2.length c0_2)] 43 (0,0)))∧Aside0 (Below w.heap.size w wc))
 case first =>
  have H:=HC3.out
  clear HC3
  by_cases c5:a1=0
  · rw [if_pos c5] at H
    have c5b0:=zbt c5
    have c5b1:=zqn c5
    clear c5
    (first|rw [c5b0]|(simp only [i64_w,i32_w];rw [c5b0])|skip)
    have H':=zk H
    clear H
    go_wp2
    repeat (go_quiet (fail);try go_wp2)
    go_meet
    case rel=>exact ⟨_,(true),za9,H',⟨za13⟩,⟨za0 BK1.out⟩,⟨za5⟩⟩
  · rw [if_neg c5] at H
    have c5b0:=zbn c5
    have c5b1:=zqt c5
    (first|rw [c5b0]|(simp only [i64_w,i32_w];rw [c5b0])|skip)
    obtain ⟨t2,A6,H⟩:=zO H
    try dsimp only at H
    have H':=zk H
    clear H
    obtain ⟨hcz7_0,hcz7_1,hcz7_2,hfz7_0,hfz7_1,hfz7_2⟩:=blk3 BK1.out
    go_wp2_with (first|(go_at_call 72;(with_reducible refine (impl_argsOf.calls k a0_0 t2 _ A6.out).mono ?_);rintro e w' ⟨rfl,⟨nd,rfl⟩⟩;(try first|exact ⟨rfl,_,World.drewN_drewN _ _ _⟩|exact ⟨rfl,_,Eq.trans (World.drewN_drewN _ _ _) (congrArg (World.drewN _) (Nat.add_assoc _ _ _))⟩)))
    repeat (go_quiet (first|(go_at_call 72;(with_reducible refine (impl_argsOf.calls k a0_0 t2 _ A6.out).mono ?_);rintro e w' ⟨rfl,⟨nd,rfl⟩⟩;(try first|exact ⟨rfl,_,World.drewN_drewN _ _ _⟩|exact ⟨rfl,_,Eq.trans (World.drewN_drewN _ _ _) (congrArg (World.drewN _) (Nat.add_assoc _ _ _))⟩)));try go_wp2_with (first|(go_at_call 72;(with_reducible refine (impl_argsOf.calls k a0_0 t2 _ A6.out).mono ?_);rintro e w' ⟨rfl,⟨nd,rfl⟩⟩;(try first|exact ⟨rfl,_,World.drewN_drewN _ _ _⟩|exact ⟨rfl,_,Eq.trans (World.drewN_drewN _ _ _) (congrArg (World.drewN _) (Nat.add_assoc _ _ _))⟩))))
    go_meet
    case rel=>exact ⟨_,(((l0_2.length:Int) != t2)),za9,H',⟨za13⟩,⟨za0 BK1.out⟩,⟨za5⟩⟩
 case rest =>
  clear HC3
  obtain ⟨kq,x18_2,rfl,HA,HJ2,BK1,HB⟩:=hcut
  cases kq with
  | zero=>exact absurd HA.out (by simp [impl_nodesOf.j0])
  | succ kj2 =>
   have H:=HA.out
   clear HA
   simp only [impl_nodesOf.j0] at H
   by_cases c8:x18_2=true
   · subst c8
     rw [if_pos rfl] at H
     try dsimp only at H
     obtain rfl:=zi H
     go_wp2
     repeat (go_quiet (fail);try go_wp2)
     go_ret
     exact ⟨za8,za5⟩
   · replace c8:=Bool.eq_false_iff.mpr c8
     subst c8
     rw [if_neg zff] at H
     try dsimp only at H
     have HC9:=zk H
     clear H
     obtain ⟨hcz10_0,hcz10_1,hcz10_2,hfz10_0,hfz10_1,hfz10_2⟩:=blk3 BK1.out
     go_upto_if 21 with (fail)
     repeat (go_quiet (fail);go_upto_if 21 with (fail))
     go_cut [] (fun wc=>∃ (kq:Nat),Aside0 (impl_nodesOf.j1 kq a1 a0_0 a0_1 l0_2=some r)∧Aside0 (kq≤kj2)∧Aside0 (wc.heap[gb1]? = some (.cells #[.int .i64 a0_0,.string a0_1,(.slice A0_2 l0_2.length c0_2)] 43 (0,0)))∧Aside0 (Below w.heap.size w wc))
     case first =>
      have H:=HC9.out
      clear HC9
      by_cases c11:a0_0=3
      rw [if_pos c11] at H
      have c11b0:=zbt c11
      have c11b1:=zqn c11
      clear c11
      (first|rw [c11b0]|(simp only [i64_w,i32_w];rw [c11b0])|skip)
      by_cases c12:(a0_1.size:Int)=1
      rw [if_pos c12] at H
      have c12b0:=zbt c12
      have c12b1:=zqn c12
      clear c12
      obtain ⟨t3,A13,H⟩:=zO H
      try dsimp only at H
      by_cases c14:t3=true
      subst c14
      rw [if_pos rfl] at H
      try dsimp only at H
      have H':=zk H
      clear H
      have fin0_:=zk trivial
      rotate_left
      replace c14:=Bool.eq_false_iff.mpr c14
      subst c14
      rw [if_neg zff] at H
      try dsimp only at H
      obtain rfl:=zi H
      have fin1_:=zk trivial
      rotate_left
      rw [if_neg c12] at H
      have c12b0:=zbn c12
      have c12b1:=zqt c12
      obtain rfl:=zi H
      have fin1_:=zk trivial
      rotate_left
      rw [if_neg c11] at H
      have c11b0:=zbn c11
      have c11b1:=zqt c11
      (first|rw [c11b0]|(simp only [i64_w,i32_w];rw [c11b0])|skip)
      by_cases c18:a0_1.toList=([]:List UInt8)
      rw [if_pos c18] at H
      have c18b0:=zbt c18
      have c18b1:=zqn c18
      clear c18
      have H':=zk H
      clear H
      have fin0_:=zk trivial
      rotate_left
      rw [if_neg c18] at H
      have c18b0:=zbn c18
      have c18b1:=zqt c18
      obtain rfl:=zi H
      have fin1_:=zk trivial
      rotate_left
      all_goals
       obtain ⟨hcz15_0,hcz15_1,hcz15_2,hfz15_0,hfz15_1,hfz15_2⟩:=blk3 BK1.out
       go_wp2_with ((go_at_call 73;(with_reducible refine (impl_IsWord.calls kj2 a0_1 _ _ A13.out).mono ?_);rintro e w' ⟨rfl,⟨nd,rfl⟩⟩;(try first|exact ⟨rfl,_,World.drewN_drewN _ _ _⟩|exact ⟨rfl,_,Eq.trans (World.drewN_drewN _ _ _) (congrArg (World.drewN _) (Nat.add_assoc _ _ _))⟩)))
       repeat (go_quiet ((go_at_call 73;(with_reducible refine (impl_IsWord.calls kj2 a0_1 _ _ A13.out).mono ?_);rintro e w' ⟨rfl,⟨nd,rfl⟩⟩;(try first|exact ⟨rfl,_,World.drewN_drewN _ _ _⟩|exact ⟨rfl,_,Eq.trans (World.drewN_drewN _ _ _) (congrArg (World.drewN _) (Nat.add_assoc _ _ _))⟩)));try go_wp2_with ((go_at_call 73;(with_reducible refine (impl_IsWord.calls kj2 a0_1 _ _ A13.out).mono ?_);rintro e w' ⟨rfl,⟨nd,rfl⟩⟩;(try first|exact ⟨rfl,_,World.drewN_drewN _ _ _⟩|exact ⟨rfl,_,Eq.trans (World.drewN_drewN _ _ _) (congrArg (World.drewN _) (Nat.add_assoc _ _ _))⟩))))
       first
       | (
          clear fin0_
          go_meet
          case rel=>exact ⟨_,H',⟨by have:=HJ2.out;first|omega|exact Nat.le_refl _⟩,⟨za0 BK1.out⟩,⟨za5⟩⟩)
       | (
          clear fin1_
          go_ret
          exact ⟨za8,za5⟩)
     case rest =>
      clear HC9
      try clear c8
      try clear hcz10_0
      try clear hcz10_1
      try clear hcz10_2
      try clear hfz10_0
      try clear hfz10_1
      try clear hfz10_2
      obtain ⟨kq,HA,HJ8,BK1,HB⟩:=hcut
      cases kq with
      | zero=>exact absurd HA.out (by simp [impl_nodesOf.j1])
      | succ kj8 =>
       have H:=HA.out
       clear HA
       simp only [impl_nodesOf.j1] at H
       have H':=zk H
       clear H
       obtain ⟨hcz21_0,hcz21_1,hcz21_2,hfz21_0,hfz21_1,hfz21_2⟩:=blk3 BK1.out
       go_wp2
       repeat (go_quiet (fail);try go_wp2)
       try simp only [Act.put,zt,zv,zu]
       go_loopg [5,38] kj8 (fun kq v5 v38 w'=>∃ (x5_3:Int) (x38_3:Int),v5 = .int .i64 x5_3∧v38 = .int .i64 x38_3∧Aside0 (impl_nodesOf.l0 kq a1 x5_3 l0_2 (l0_2.length:Int) x38_3=some r)∧Aside0 (kq≤kj8)∧Aside0 (w'.heap[gb1]? = some (.cells #[.int .i64 a0_0,.string a0_1,(.slice A0_2 l0_2.length c0_2)] 43 (0,0)))∧Aside0 (Below w.heap.size w w'))
       case atStart=>exact ⟨(1),(0),za9,za9,H',⟨Nat.le_refl _⟩,⟨za0 BK1.out⟩,⟨za5⟩⟩
       case round =>
        clear H'
        try clear c8
        try clear hcz10_0
        try clear hcz10_1
        try clear hcz10_2
        try clear hcz21_0
        try clear hcz21_1
        try clear hcz21_2
        try clear hfz10_0
        try clear hfz10_1
        try clear hfz10_2
        try clear hfz21_0
        try clear hfz21_1
        try clear hfz21_2
        obtain ⟨x5_3,x38_3,rfl,rfl,HA,HK3,BK1,HB⟩:=hrel
        cases gk with
        | zero=>exact absurd HA.out (by simp [impl_nodesOf.l0])
        | succ k3 =>
         have H:=HA.out
         clear HA
         simp only [impl_nodesOf.l0] at H
         by_cases c22:x38_3 < (l0_2.length:Int)
         rw [if_pos c22] at H
         have c22b0:=zdl c22
         clear c22
         by_cases c23:0≤x38_3
         rw [if_pos c23] at H
         have c23b0:=zdle c23
         clear c23
         by_cases c24:x38_3 < (l0_2.length:Int)
         · rw [if_pos c24] at H
           have c24b0:=zdl c24
           clear c24
           obtain ⟨t6,A25,H⟩:=zO H
           try dsimp only at H
           have H':=zk H
           clear H
           have p65004:0≤(x38_3:Int):=of_decide_eq_true za7
           have q65004:x38_3 < (l0_2.length:Int):=of_decide_eq_true za7
           obtain ⟨ad65004,A65004_2,c65004_2,e65004,hx65004_0,hx65004_1,hx65004_2,hl65004_2,hi65004_2⟩:=at_T43 HR0_2.out x38_3 p65004 q65004
           cases e65004
           replace hx65004_0:=zx HB.out hx65004_0
           replace hx65004_1:=zx HB.out hx65004_1
           replace hx65004_2:=zx HB.out hx65004_2
           have HR65004_2:=zk hi65004_2
           have HC65004_2:=zk hl65004_2
           clear hi65004_2 hl65004_2
           replace p65004:=eq_true p65004
           replace q65004:=eq_true q65004
           go_wp2_with (first|((with_reducible refine gate_dst (N:=7) rfl ?_);(try (refine gate_guard (by rfl) ?_;dsimp only));refine zE (cs:=#[.int .i64 0,.string ⟨#[]⟩,.slice none 0 0]) (t:=43) ?_;intro gb5 hg w26 hbox hb;have BK5:=zk hbox;have GW5:=zk (zs (w:=w) hg za5);have GE5:=GW5;have NB1_5:=yn hg BK1;have NB5_1:=yp hg BK1;replace BK1:=yb BK1 hb;replace HB:=yB HB hb;clear hb hbox hg;have hnb27:=NB5_1.out;have hnc27:=NB1_5.out;obtain ⟨hcz28_0,hcz28_1,hcz28_2,hfz28_0,hfz28_1,hfz28_2⟩:=blk3 BK5.out)|(go_at_call 65;(with_reducible refine (ih k3 za22 ((rd_T43 l0_2 x38_3).f0) ((rd_T43 l0_2 x38_3).f1) _ _ ((rd_T43 l0_2 x38_3).f2) (wrap64 (a1 - 1)) t6 _ ?side1 ?side2 A25.out).mono ?_);(case side1=>exact Kd.C_below HR65004_2.out za5);(case side2=>exact HC65004_2.out);rintro e w29 ⟨rfl,hb⟩;replace BK1:=zk (blk_below (g:=gb1) (o:=.cells #[.int .i64 a0_0,.string a0_1,.slice (some ad65004) l0_2.length c0_2] 43 (0,0)) (zpw BK1.out) hb);replace BK5:=zk (blk_below (g:=gb5) (o:=.cells #[.int .i64 ((rd_T43 l0_2 x38_3).f0),.string ((rd_T43 l0_2 x38_3).f1),.slice A65004_2 ((rd_T43 l0_2 x38_3).f2).length c65004_2] 43 (0,0)) (zpu BK5.out) hb);replace HB:=yB HB hb;(try clear hb)))
           repeat (go_quiet (first|((with_reducible refine gate_dst (N:=7) rfl ?_);(try (refine gate_guard (by rfl) ?_;dsimp only));refine zE (cs:=#[.int .i64 0,.string ⟨#[]⟩,.slice none 0 0]) (t:=43) ?_;intro gb5 hg w26 hbox hb;have BK5:=zk hbox;have GW5:=zk (zs (w:=w) hg za5);have GE5:=GW5;have NB1_5:=yn hg BK1;have NB5_1:=yp hg BK1;replace BK1:=yb BK1 hb;replace HB:=yB HB hb;clear hb hbox hg;have hnb27:=NB5_1.out;have hnc27:=NB1_5.out;obtain ⟨hcz28_0,hcz28_1,hcz28_2,hfz28_0,hfz28_1,hfz28_2⟩:=blk3 BK5.out)|(go_at_call 65;(with_reducible refine (ih k3 za22 ((rd_T43 l0_2 x38_3).f0) ((rd_T43 l0_2 x38_3).f1) _ _ ((rd_T43 l0_2 x38_3).f2) (wrap64 (a1 - 1)) t6 _ ?side1 ?side2 A25.out).mono ?_);(case side1=>exact Kd.C_below HR65004_2.out za5);(case side2=>exact HC65004_2.out);rintro e w29 ⟨rfl,hb⟩;replace BK1:=zk (blk_below (g:=gb1) (o:=.cells #[.int .i64 a0_0,.string a0_1,.slice (some ad65004) l0_2.length c0_2] 43 (0,0)) (zpw BK1.out) hb);replace BK5:=zk (blk_below (g:=gb5) (o:=.cells #[.int .i64 ((rd_T43 l0_2 x38_3).f0),.string ((rd_T43 l0_2 x38_3).f1),.slice A65004_2 ((rd_T43 l0_2 x38_3).f2).length c65004_2] 43 (0,0)) (zpu BK5.out) hb);replace HB:=yB HB hb;(try clear hb)));try go_wp2_with (first|((with_reducible refine gate_dst (N:=7) rfl ?_);(try (refine gate_guard (by rfl) ?_;dsimp only));refine zE (cs:=#[.int .i64 0,.string ⟨#[]⟩,.slice none 0 0]) (t:=43) ?_;intro gb5 hg w26 hbox hb;have BK5:=zk hbox;have GW5:=zk (zs (w:=w) hg za5);have GE5:=GW5;have NB1_5:=yn hg BK1;have NB5_1:=yp hg BK1;replace BK1:=yb BK1 hb;replace HB:=yB HB hb;clear hb hbox hg;have hnb27:=NB5_1.out;have hnc27:=NB1_5.out;obtain ⟨hcz28_0,hcz28_1,hcz28_2,hfz28_0,hfz28_1,hfz28_2⟩:=blk3 BK5.out)|(go_at_call 65;(with_reducible refine (ih k3 za22 ((rd_T43 l0_2 x38_3).f0) ((rd_T43 l0_2 x38_3).f1) _ _ ((rd_T43 l0_2 x38_3).f2) (wrap64 (a1 - 1)) t6 _ ?side1 ?side2 A25.out).mono ?_);(case side1=>exact Kd.C_below HR65004_2.out za5);(case side2=>exact HC65004_2.out);rintro e w29 ⟨rfl,hb⟩;replace BK1:=zk (blk_below (g:=gb1) (o:=.cells #[.int .i64 a0_0,.string a0_1,.slice (some ad65004) l0_2.length c0_2] 43 (0,0)) (zpw BK1.out) hb);replace BK5:=zk (blk_below (g:=gb5) (o:=.cells #[.int .i64 ((rd_T43 l0_2 x38_3).f0),.string ((rd_T43 l0_2 x38_3).f1),.slice A65004_2 ((rd_T43 l0_2 x38_3).f2).length c65004_2] 43 (0,0)) (zpu BK5.out) hb);replace HB:=yB HB hb;(try clear hb))))
           go_roundg k3
           case measure=>have:=HJ2.out;have:=HJ8.out;have:=HK3.out;omega
           case rel=>exact ⟨(wrap64 (x5_3+t6)),(wrap64 (x38_3+1)),za9,za9,H',⟨za22⟩,⟨za0 BK1.out⟩,⟨za5⟩⟩
         · rw [if_neg c24] at H
           exact absurd H (by simp)
         · rw [if_neg c23] at H
           exact absurd H (by simp)
         · rw [if_neg c22] at H
           have c22b0:=zdnl c22
           clear c22
           obtain ⟨ji30,hji30⟩:∃ j_:Int,(mn x5_3 17)=j_:=⟨_,rfl⟩
           replace H:(some ji30)=some r:=by first|(rw [hji30] at H;exact H)|(simp only [hji30] at H ⊢;exact H)
           have hji30_:(if 17 < x5_3 then 17 else x5_3)=ji30:=hji30
           obtain rfl:=zi H
           go_wp2
           repeat (go_quiet (fail);try go_wp2)
           go_ret
           exact ⟨by first|rfl|(simp [errW_none,errW_some] <;> rfl)|(simp only [← hji30];first|rfl|(simp [errW_none,errW_some] <;> rfl))|(simp [*,errW_none,errW_some] <;> rfl),za5⟩
def impl_IsValidRegex.f (k:Nat) (a0_0:Int) (a0_1:ByteArray) (l0_2:List (S43)):Option (Bool):=(impl_nodesOf.f k a0_0 a0_1 l0_2 6).bind fun t49002=>(some (decide (t49002≤16)))
theorem impl_IsValidRegex.calls (k:Nat) (a0_0:Int) (a0_1:ByteArray) (A0_2:Option Addr) (c0_2:Nat) (l0_2:List (S43)) (r:Bool) (w:World) (hr0_2:Kd.C k43 w A0_2 l0_2.length l0_2) (hc0_2:l0_2.length≤c0_2) (h:impl_IsValidRegex.f k a0_0 a0_1 l0_2=some r) :
  Calls Try.prog 49 #[.agg #[.int .i64 a0_0,.string a0_1,.slice A0_2 l0_2.length c0_2]] w fun e w'=>e = .returned (.bool r)∧Below w.heap.size w w':=by
 have hu43:=Try.underlying43
 have HR0_2:=zk hr0_2
 have HC0_2:=zk hc0_2
 clear hr0_2 hc0_2
 have HB:=zk (Below.refl w.heap.size w)
 have H:=h
 unfold impl_IsValidRegex.f at H
 clear h
 obtain ⟨t2,A2,H⟩:=zO H
 try dsimp only at H
 obtain rfl:=zi H
 go_enter Try.func49,Try.ntmps49
 go_wp2_with (first|((with_reducible refine gate_dst (N:=1) rfl ?_);refine zE (cs:=#[.int .i64 a0_0,.string a0_1,.slice A0_2 l0_2.length c0_2]) (t:=43) ?_;intro gb1 hg w3 hbox hb;have BK1:=zk hbox;have GW1:=zk (zs (w:=w) hg za5);have GE1:=GW1;replace HB:=yB HB hb;clear hb hbox hg;obtain ⟨hcz4_0,hcz4_1,hcz4_2,hfz4_0,hfz4_1,hfz4_2⟩:=blk3 BK1.out)|((with_reducible refine gate_callee (f:=65) rfl ?_);refine zg (some 4) Try.func65 #[.agg #[.int .i64 a0_0,.string a0_1,.slice A0_2 l0_2.length c0_2],.int .i64 6] rfl za6 ?_;(with_reducible refine (impl_nodesOf.calls k a0_0 a0_1 _ _ l0_2 6 t2 _ ?side1 ?side2 A2.out).mono ?_);(case side1=>repeat (first|exact (Kd.C_below HR0_2.out HB.out)|(with_reducible refine Kd.C_alloc ?_ _)|(with_reducible refine Kd.C_drewN ?_ _)|(with_reducible refine Kd.C_drew ?_)));(case side2=>exact HC0_2.out);rintro e w5 ⟨rfl,hb⟩;refine ⟨_,rfl,?_⟩;replace BK1:=yb BK1 hb;replace HB:=yB HB hb;(try clear hb)))
 go_ret
 exact ⟨za8,za5⟩
mutual
def impl_cloneRegex.l0:Nat→List (S43)→Int→Int→Int→ByteArray→List (S43)→Option (Int × ByteArray × (List (S43)))
 | 0,_,_,_,_,_,_=>none
 | k+1,x12,x13,x14,x52004000,x52004001,x52004002=>if x14 < x13 then (if 0≤x14 then (if x14 < (x12.length:Int) then ((impl_cloneRegex.f k ((rd_T43 x12 x14).f0) ((rd_T43 x12 x14).f1) ((rd_T43 x12 x14).f2)).bind fun bt52006=>(if x52004002.length < 2932031007402 then (impl_cloneRegex.l0 k x12 x13 (wrap64 (x14+1)) x52004000 x52004001 (x52004002 ++ [(⟨bt52006.1,bt52006.2.1,bt52006.2.2⟩:S43)])) else (none))) else (none)) else (none)) else (some (x52004000,x52004001,x52004002))
def impl_cloneRegex.f:Nat→Int→ByteArray→List (S43)→Option (Int × ByteArray × (List (S43)))
 | 0,_,_,_=>none
 | k+1,a0_0,a0_1,l0_2=>impl_cloneRegex.l0 k l0_2 (l0_2.length:Int) 0 a0_0 a0_1 ([]:List (S43))
end
def impl_cloneRegex.T5:Bool × List (List Nat × List Nat):=(true,[([],[]),([0],[0]),([],[]),([2],[2]),([3],[3]),([1,4,3],[1,4]),([0,1,2,3,4,5],[]),([6,5,5,0,1,2,3,4,5],[5,6])])
def impl_cloneRegex.B5:List Nat:=[0,1,0,4,12,31,63,127]
theorem impl_cloneRegex.tab5:rtab .any (opsOf Try.f52 5)=impl_cloneRegex.T5:=by kernel_rfl
theorem impl_cloneRegex.bits5:waitsOk impl_cloneRegex.T5.2 impl_cloneRegex.B5=true:=by kernel_rfl
def impl_within.f (a0:Int) (a1:Int) (a2:Int):Option (Bool):=if a0 ≥ a1 then (some (decide (a0≤a2))) else (some false)
theorem impl_within.calls (a0:Int) (a1:Int) (a2:Int) (r:Bool) (w:World) (h:impl_within.f a0 a1 a2=some r) :
   Calls Try.prog 17 #[.int .i64 a0,.int .i64 a1,.int .i64 a2] w fun e w'=>e = .returned (.bool r)∧Drawn0 w w':=by
 have H:=h
 unfold impl_within.f at H
 clear h
 by_cases c4:a0 ≥ a1
 rw [if_pos c4] at H
 have c4b0:=zdle c4
 rotate_left
 rw [if_neg c4] at H
 have c4b0:=zdnle c4
 rotate_left
 all_goals
  clear c4
  obtain rfl:=zi H
  go_enter Try.func17,Try.ntmps17
  go_wp2
  go_ret
  exact ⟨za9,za10⟩
def impl_isVariable.f (a0:Int):Option (Bool):=(strings_IndexByte.f (⟨#[88,89,90]⟩:ByteArray) a0).bind fun t64001=>(some (decide (t64001 ≥ 0)))
theorem impl_isVariable.calls (a0:Int) (r:Bool) (w:World) (h:impl_isVariable.f a0=some r) :
  Calls Try.prog 64 #[.int .u8 a0] w fun e w'=>e = .returned (.bool r)∧Drawn0 w w':=by
 have H:=h
 unfold impl_isVariable.f at H
 clear h
 obtain ⟨t1,A2,H⟩:=zO H
 try dsimp only at H
 obtain rfl:=zi H
 go_enter Try.func64,Try.ntmps64
 go_wp2_with (first|((with_reducible refine gate_callee (f:=71) rfl ?_);refine zg (some 4) Try.func71 #[.string ⟨#[88,89,90]⟩,.int .u8 a0] rfl za6 ?_;(with_reducible refine (strings_IndexByte.calls (⟨#[88,89,90]⟩:ByteArray) a0 t1 _ A2.out).mono ?_);rintro e w' ⟨rfl,⟨nd,rfl⟩⟩;refine ⟨_,rfl,?_⟩))
 go_ret
 exact ⟨za9,za10⟩
def impl_IsTerm.l0:Nat→ByteArray→Int→Option (Bool)
 | 0,_,_=>none
 | k+1,x0,x3=>if x3 < (x0.size:Int) then (if 0≤x3 then ((impl_LetterIndex.f (bt x0 x3)).bind fun t47001=>(if t47001 < 0 then ((impl_isVariable.f (bt x0 x3)).bind fun t47002=>(if t47002=true then (impl_IsTerm.l0 k x0 (wrap64 (x3+1))) else (some false))) else (impl_IsTerm.l0 k x0 (wrap64 (x3+1))))) else (none)) else (some true)
def impl_IsTerm.f (k:Nat) (a0:ByteArray):Option (Bool):=if (a0.size:Int) > 12 then (some false) else (impl_IsTerm.l0 k a0 0)
theorem impl_IsTerm.calls (k:Nat) (a0:ByteArray) (r:Bool) (w:World) (h:impl_IsTerm.f k a0=some r) :
  Calls Try.prog 47 #[.string a0] w fun e w'=>e = .returned (.bool r)∧Drawn0 w w':=by
 have H:=h
 unfold impl_IsTerm.f at H
 clear h
 by_cases c2:(a0.size:Int) > 12
 ·rw [if_pos c2] at H
  have c2b0:=zdl c2
  have c2b1:decide (12 < a0.size)=true:=decide_eq_true (by omega)
  clear c2
  obtain rfl:=zi H
  go_enter Try.func47,Try.ntmps47
  go_wp2
  go_ret
  exact ⟨za9,za10⟩
 ·rw [if_neg c2] at H
  have c2b0:=zdnl c2
  have c2b1:decide (12 < a0.size)=false:=decide_eq_false (by omega)
  clear c2
  have H':=zk H
  clear H
  go_enter Try.func47,Try.ntmps47
  go_wp2
  try simp only [Act.put,zt,zv,zu]
  go_loopg [3] k (fun kq v3 w'=>∃ (x3_1:Int),v3 = .int .i64 x3_1∧Aside0 (impl_IsTerm.l0 kq a0 x3_1=some r)∧Aside0 (kq≤k)∧Drawn0 w w')
  case atStart=>exact ⟨(0),za9,H',⟨Nat.le_refl _⟩,za10⟩
  case round =>
   clear H'
   try clear c2
   try clear c2b0
   try clear c2b1
   obtain ⟨x3_1,rfl,HA,HK1,⟨m1,rfl⟩⟩:=hrel
   cases gk with
   | zero=>exact absurd HA.out (by simp [impl_IsTerm.l0])
   | succ k1 =>
    have H:=HA.out
    clear HA
    simp only [impl_IsTerm.l0] at H
    by_cases c3:x3_1 < (a0.size:Int)
    rw [if_pos c3] at H
    have c3b0:=zdl c3
    clear c3
    by_cases c4:0≤x3_1
    rw [if_pos c4] at H
    have c4b0:=zdle c4
    clear c4
    obtain ⟨t1,A6,H⟩:=zO H
    try dsimp only at H
    by_cases c7:t1 < 0
    rw [if_pos c7] at H
    have c7b0:=zdl c7
    clear c7
    obtain ⟨t2,A9,H⟩:=zO H
    try dsimp only at H
    by_cases c10:t2=true
    subst c10
    rw [if_pos rfl] at H
    try dsimp only at H
    have H':=zk H
    clear H
    have fin0_:=zk trivial
    rotate_left
    replace c10:=Bool.eq_false_iff.mpr c10
    subst c10
    rw [if_neg zff] at H
    try dsimp only at H
    obtain rfl:=zi H
    have fin1_:=zk trivial
    rotate_left
    · rw [if_neg c7] at H
      have c7b0:=zdnl c7
      clear c7
      have H':=zk H
      clear H
      have p5:0≤(x3_1:Int):=of_decide_eq_true za7
      have q5:x3_1 < (a0.size:Int):=of_decide_eq_true za7
      have hx5:=bt_at a0 x3_1
      replace p5:=eq_true p5
      replace q5:=eq_true q5
      go_wp2_with (first|((with_reducible refine gate_callee (f:=63) rfl ?_);refine zg (some 16) Try.func63 #[.int .u8 (bt a0 x3_1)] rfl za6 ?_;(with_reducible refine (impl_LetterIndex.calls (bt a0 x3_1) t1 _ A6.out).mono ?_);rintro e w' ⟨rfl,⟨nd,rfl⟩⟩;refine ⟨_,rfl,?_⟩))
      go_roundg k1
      case measure=>have:=HK1.out;omega
      case rel=>exact ⟨(wrap64 (x3_1+1)),za9,H',⟨za11⟩,za10⟩
    · rw [if_neg c4] at H
      exact absurd H (by simp)
    · rw [if_neg c3] at H
      have c3b0:=zdnl c3
      clear c3
      obtain rfl:=zi H
      go_wp2
      go_ret
      exact ⟨za9,za10⟩
    all_goals
     have p5:0≤(x3_1:Int):=of_decide_eq_true za7
     have q5:x3_1 < (a0.size:Int):=of_decide_eq_true za7
     have hx5:=bt_at a0 x3_1
     replace p5:=eq_true p5
     replace q5:=eq_true q5
     go_wp2_with (first|((with_reducible refine gate_callee (f:=63) rfl ?_);refine zg (some 16) Try.func63 #[.int .u8 (bt a0 x3_1)] rfl za6 ?_;(with_reducible refine (impl_LetterIndex.calls (bt a0 x3_1) t1 _ A6.out).mono ?_);rintro e w' ⟨rfl,⟨nd,rfl⟩⟩;refine ⟨_,rfl,?_⟩;have p8:0≤(x3_1:Int):=of_decide_eq_true za7;have q8:x3_1 < (a0.size:Int):=of_decide_eq_true za7;have hx8:=bt_at a0 x3_1;replace p8:=eq_true p8;replace q8:=eq_true q8)|(go_at_call 64;(with_reducible refine (impl_isVariable.calls (bt a0 x3_1) _ _ A9.out).mono ?_);rintro e w' ⟨rfl,⟨nd,rfl⟩⟩))
     first
     | (
       clear fin0_
       go_roundg k1
       case measure=>have:=HK1.out;omega
       case rel=>exact ⟨(wrap64 (x3_1+1)),za9,H',⟨za11⟩,za10⟩)
     | (
       clear fin1_
       go_ret
       exact ⟨za9,za10⟩)
def impl_IsValidConstraint_1.f (a0:Int):Option (Bool):=(impl_within.f a0 (-9) 9).bind fun t51001=>(some (!t51001))
theorem impl_IsValidConstraint_1.calls (a0:Int) (r:Bool) (w:World) (h:impl_IsValidConstraint_1.f a0=some r) :
  Calls Try.prog 51 #[.int .i64 a0] w fun e w'=>e = .returned (.bool r)∧Drawn0 w w':=by
 have H:=h
 unfold impl_IsValidConstraint_1.f at H
 clear h
 obtain ⟨t1,A2,H⟩:=zO H
 try dsimp only at H
 obtain rfl:=zi H
 go_enter Try.func51,Try.ntmps51
 go_wp2_with (first|((with_reducible refine gate_callee (f:=17) rfl ?_);refine zg (some 4) Try.func17 #[.int .i64 a0,.int .i64 (-9),.int .i64 9] rfl za6 ?_;(with_reducible refine (impl_within.calls a0 (-9) 9 t1 _ A2.out).mono ?_);rintro e w' ⟨rfl,⟨nd,rfl⟩⟩;refine ⟨_,rfl,?_⟩))
 go_ret
 exact ⟨za9,za10⟩
end Go.Proofs.Yteolnmoomeenbaa.A
namespace Go.Proofs.Yteolnmoomeenbaa.Ext
open Go.RowKit YteolnmoomeenbaaW.PrintWords YteolnmoomeenbaaW.PrintLast
theorem goesF_ {P : Program} {ops : Array Oper} {Q : Exit → Act → World → Prop} {rest : List Oper} {oi : Oper} {a : Act} {w : World} (N : Option Tmp) (hd : oi.dst = N) (hg : oi.guard = none) {f : FuncId} {fn : Func} {as_ : Array Operand} {ts : Array TypeId} {c : Operand} (hf : P.funcs[f]? = some fn) (hname : (fn.name == "runtime.NumGoroutine") = false) (hb : fn.body.isSome = true) (args : Array Value)
  (hop:oi.op = .call { callee:=.value c,args:=as_,argTypes:=ts }) (hc:a.eval c = .func (.func f) #[] #[]) (hargs:as_.map a.eval=args)
  (h:Calls P f args w fun e w'=>∃ v,e = .returned v∧wpList P ops Q rest (a.put N v) w'):wpList P ops Q (oi :: rest) a w:=by
 refine wpList_plain hg fun K hK=>?_
 have he:=enters_ hf hname hb args w
 have hrun:(execOp a.eval oi).run P w = .ok (.enter f args) w:=by
  unfold execOp
  rw [hop]
  simp [hc,resolve,Deferred.ofValue,invoke,hargs,he]
 unfold Oper.wp
 rw [hrun,Oper.upon_enter]
 refine h.mono fun e w'' hh=>?_
 obtain ⟨v,rfl,hk⟩:=hh
 subst hd
 exact hK _ _ hk
end Go.Proofs.Yteolnmoomeenbaa.Ext
namespace Go.Proofs.Yteolnmoomeenbaa.A
open Go.RowKit Yteolnmoomeenbaa.Ext YteolnmoomeenbaaW.PrintWords YteolnmoomeenbaaW.PrintLast YteolnmoomeenbaaW.PrintMore
attribute [local go_sem] max2_int min2_int max_two min_two max_three min_three max_four min_four
def slices_IndexFunc_int_int.l0:Nat→List Int→Int→Int→Option (Int)
 | 0,_,_,_=>none
 | k+1,x0,x7,x8=>if x8 < x7 then (if 0≤x8 then (if x8 < (x0.length:Int) then ((impl_IsValidConstraint_1.f (rd x0 x8)).bind fun t66002=>(if t66002=true then (some x8) else (slices_IndexFunc_int_int.l0 k x0 x7 (wrap64 (x8+1))))) else (none)) else (none)) else (some (-1))
def slices_IndexFunc_int_int.f (k:Nat) (l0:List Int):Option (Int):=slices_IndexFunc_int_int.l0 k l0 (l0.length:Int) 0
theorem slices_IndexFunc_int_int.calls (k:Nat) (A0:Option Addr) (c0:Nat) (l0:List Int) (r:Int) (w:World) (hr0:Kd.C (Kd.int .i64) w A0 l0.length l0) (hc0:l0.length≤c0) (h:slices_IndexFunc_int_int.f k l0=some r) :
   Calls Try.prog 66 #[.slice A0 l0.length c0,.func (.func 51) #[] #[]] w fun e w'=>e = .returned (.int .i64 r)∧Drawn0 w w':=by
 have HR0:=zk hr0
 have HC0:=zk hc0
 clear hr0 hc0
 have H:=h
 unfold slices_IndexFunc_int_int.f at H
 clear h
 have H':=zk H
 clear H
 go_enter Try.func66,Try.ntmps66
 go_wp2
 try simp only [Act.put,zt,zv,zu]
 go_loopg [8] k (fun kq v8 w'=>∃ (x8_1:Int),v8 = .int .i64 x8_1∧Aside0 (slices_IndexFunc_int_int.l0 kq l0 (l0.length:Int) x8_1=some r)∧Aside0 (kq≤k)∧Drawn0 w w')
 case atStart=>exact ⟨(0),za9,H',⟨Nat.le_refl _⟩,za10⟩
 case round =>
  clear H'
  obtain ⟨x8_1,rfl,HA,HK1,⟨m1,rfl⟩⟩:=hrel
  cases gk with
  | zero=>exact absurd HA.out (by simp [slices_IndexFunc_int_int.l0])
  | succ k1 =>
   have H:=HA.out
   clear HA
   simp only [slices_IndexFunc_int_int.l0] at H
   by_cases c2:x8_1 < (l0.length:Int)
   rw [if_pos c2] at H
   have c2b0:=zdl c2
   clear c2
   by_cases c3:0≤x8_1
   rw [if_pos c3] at H
   have c3b0:=zdle c3
   clear c3
   by_cases c4:x8_1 < (l0.length:Int)
   rw [if_pos c4] at H
   have c4b0:=zdl c4
   clear c4
   obtain ⟨t2,A5,H⟩:=zO H
   try dsimp only at H
   by_cases c6:t2=true
   subst c6
   rw [if_pos rfl] at H
   try dsimp only at H
   obtain rfl:=zi H
   have fin0_:=zk trivial
   rotate_left
   replace c6:=Bool.eq_false_iff.mpr c6
   subst c6
   rw [if_neg zff] at H
   try dsimp only at H
   have H':=zk H
   clear H
   have fin1_:=zk trivial
   rotate_left
   · rw [if_neg c4] at H
     exact absurd H (by simp)
   · rw [if_neg c3] at H
     exact absurd H (by simp)
   · rw [if_neg c2] at H
     have c2b0:=zdnl c2
     clear c2
     obtain rfl:=zi H
     go_wp2
     go_ret
     exact ⟨za9,za10⟩
   all_goals
    have p66001:0≤(x8_1:Int):=of_decide_eq_true za7
    have q66001:x8_1 < (l0.length:Int):=of_decide_eq_true za7
    obtain ⟨ad66001,e66001,hx66001_0⟩:=Kd.at_int HR0.out x8_1 p66001 q66001
    cases e66001
    replace p66001:=eq_true p66001
    replace q66001:=eq_true q66001
    go_wp2_with (((with_reducible refine gate_dst (N:=16) rfl ?_);refine goesF_ (some 16) rfl rfl Try.func51 (by kernel_rfl) rfl #[.int .i64 (rd l0 x8_1)] rfl (by first|rfl|(go_simp;done)) za6 ?_;(with_reducible refine (impl_IsValidConstraint_1.calls (rd l0 x8_1) _ _ A5.out).mono ?_);rintro e w' ⟨rfl,⟨nd,rfl⟩⟩;refine ⟨_,rfl,?_⟩))
    first
    | (
      clear fin0_
      go_ret
      exact ⟨za9,za10⟩)
    | (
      clear fin1_
      go_roundg k1
      case measure=>have:=HK1.out;omega
      case rel=>exact ⟨(wrap64 (x8_1+1)),za9,H',⟨za11⟩,za10⟩)
def slices_ContainsFunc_int_int.f (k:Nat) (l0:List Int):Option (Bool):=(slices_IndexFunc_int_int.f k l0).bind fun t50001=>(some (decide (t50001 ≥ 0)))
theorem slices_ContainsFunc_int_int.calls (k:Nat) (A0:Option Addr) (c0:Nat) (l0:List Int) (r:Bool) (w:World) (hr0:Kd.C (Kd.int .i64) w A0 l0.length l0) (hc0:l0.length≤c0) (h:slices_ContainsFunc_int_int.f k l0=some r) :
  Calls Try.prog 50 #[.slice A0 l0.length c0,.func (.func 51) #[] #[]] w fun e w'=>e = .returned (.bool r)∧Drawn0 w w':=by
 have HR0:=zk hr0
 have HC0:=zk hc0
 clear hr0 hc0
 have H:=h
 unfold slices_ContainsFunc_int_int.f at H
 clear h
 obtain ⟨t1,A2,H⟩:=zO H
 try dsimp only at H
 obtain rfl:=zi H
 go_enter Try.func50,Try.ntmps50
 go_wp2_with (first|((with_reducible refine gate_callee (f:=66) rfl ?_);refine zg (some 7) Try.func66 #[.slice A0 l0.length c0,.func (.func 51) #[] #[]] rfl za6 ?_;(with_reducible refine (slices_IndexFunc_int_int.calls k _ _ l0 t1 _ ?side1 ?side2 A2.out).mono ?_);(case side1=>repeat (first|exact HR0.out|(with_reducible refine Kd.C_alloc ?_ _)|(with_reducible refine Kd.C_drewN ?_ _)|(with_reducible refine Kd.C_drew ?_)));(case side2=>exact HC0.out);rintro e w' ⟨rfl,⟨nd,rfl⟩⟩;refine ⟨_,rfl,?_⟩))
 go_ret
 exact ⟨za9,za10⟩
mutual
def impl_IsValidConstraint.j0:Nat→Bool→Int→ByteArray→ByteArray→Int→ByteArray→List (S43)→List Int→Int→Option (Bool)
 | 0,_,_,_,_,_,_,_,_,_=>none
 | k+1,x16,x29002000,x29002001,x29002002,x29002003,x29002004,x29002005,x29002006,x29002007=>if x16=true then (some false) else (if x29002000=1 then (impl_IsValidConstraint.j1 k x29002000 (x29002000 == 1) x29002000 x29002001 x29002002 x29002003 x29002004 x29002005 x29002006 x29002007) else (impl_IsValidConstraint.j1 k x29002000 (x29002000 == 2) x29002000 x29002001 x29002002 x29002003 x29002004 x29002005 x29002006 x29002007))
def impl_IsValidConstraint.j1:Nat→Int→Bool→Int→ByteArray→ByteArray→Int→ByteArray→List (S43)→List Int→Int→Option (Bool)
 | 0,_,_,_,_,_,_,_,_,_,_=>none
 | k+1,x18,x19,x29002000,x29002001,x29002002,x29002003,x29002004,x29002005,x29002006,x29002007=>if x19=true then ((impl_IsTerm.f k x29002001).bind fun t29002=>(if t29002=true then ((impl_IsTerm.f k x29002002).bind fun t29003=>(if t29003=true then ((impl_isZeroRegex.f x29002003 x29002004 x29002005).bind fun t29004=>(some t29004)) else (some false))) else (some false))) else (if x18=3 then (impl_IsValidConstraint.j2 k x18 (x18 == 3) x29002000 x29002001 x29002002 x29002003 x29002004 x29002005 x29002006 x29002007) else (impl_IsValidConstraint.j2 k x18 (x18 == 4) x29002000 x29002001 x29002002 x29002003 x29002004 x29002005 x29002006 x29002007))
def impl_IsValidConstraint.j2:Nat→Int→Bool→Int→ByteArray→ByteArray→Int→ByteArray→List (S43)→List Int→Int→Option (Bool)
 | 0,_,_,_,_,_,_,_,_,_,_=>none
 | k+1,x18,x35,x29002000,x29002001,x29002002,x29002003,x29002004,x29002005,x29002006,x29002007=>if x35=true then ((impl_IsTerm.f k x29002001).bind fun t29005=>(if t29005=true then (if x29002002.toList=([]:List UInt8) then ((impl_IsValidRegex.f k x29002003 x29002004 x29002005).bind fun t29006=>(some t29006)) else (some false)) else (some false))) else (if x18=5 then (if x29002001.toList=([]:List UInt8) then (if x29002002.toList=([]:List UInt8) then ((impl_isZeroRegex.f x29002003 x29002004 x29002005).bind fun t29007=>(if t29007=true then (if (x29002006.length:Int)=3 then ((impl_within.f x29002007 (-99) 99).bind fun t29008=>(if t29008=true then ((slices_ContainsFunc_int_int.f k x29002006).bind fun t29009=>(some (!t29009))) else (some false))) else (some false)) else (some false))) else (some false)) else (some false)) else (some false))
end
def impl_IsValidConstraint.f (k:Nat) (a0_0:Int) (a0_1:ByteArray) (a0_2:ByteArray) (a0_3:Int) (a0_4:ByteArray) (l0_5:List (S43)) (l0_6:List Int) (a0_7:Int):Option (Bool):=if a0_0=5 then (impl_IsValidConstraint.j0 k false a0_0 a0_1 a0_2 a0_3 a0_4 l0_5 l0_6 a0_7) else (if (l0_6.length:Int)=0 then (impl_IsValidConstraint.j0 k (a0_7 != 0) a0_0 a0_1 a0_2 a0_3 a0_4 l0_5 l0_6 a0_7) else (impl_IsValidConstraint.j0 k true a0_0 a0_1 a0_2 a0_3 a0_4 l0_5 l0_6 a0_7))
theorem impl_IsValidConstraint.calls (k:Nat) (a0_0:Int) (a0_1:ByteArray) (a0_2:ByteArray) (a0_3:Int) (a0_4:ByteArray) (A0_5:Option Addr) (c0_5:Nat) (l0_5:List (S43)) (A0_6:Option Addr) (c0_6:Nat) (l0_6:List Int) (a0_7:Int) (r:Bool) (w:World) (hr0_5:Kd.C k43 w A0_5 l0_5.length l0_5) (hc0_5:l0_5.length≤c0_5) (hr0_6:Kd.C (Kd.int .i64) w A0_6 l0_6.length l0_6) (hc0_6:l0_6.length≤c0_6) (h:impl_IsValidConstraint.f k a0_0 a0_1 a0_2 a0_3 a0_4 l0_5 l0_6 a0_7=some r) :
   Calls Try.prog 29 #[.agg #[.int .i64 a0_0,.string a0_1,.string a0_2,.int .i64 a0_3,.string a0_4,.slice A0_5 l0_5.length c0_5,.slice A0_6 l0_6.length c0_6,.int .i64 a0_7]] w fun e w'=>e = .returned (.bool r)∧Below w.heap.size w w':=by
 have hu46:=Try.underlying46
 have hu43:=Try.underlying43
 have HR0_5:=zk hr0_5
 have HC0_5:=zk hc0_5
 clear hr0_5 hc0_5
 have HR0_6:=zk hr0_6
 have HC0_6:=zk hc0_6
 clear hr0_6 hc0_6
 have HB:=zk (Below.refl w.heap.size w)
 have H:=h
 unfold impl_IsValidConstraint.f at H
 clear h
 have HC2:=zk H
 clear H
 go_enter Try.func29,Try.ntmps29
 go_upto_region 1 with (first|((with_reducible refine gate_dst (N:=1) rfl ?_);(try (refine gate_guard (by rfl) ?_;dsimp only));refine zE (cs:=#[.int .i64 a0_0,.string a0_1,.string a0_2,.int .i64 a0_3,.string a0_4,.slice A0_5 l0_5.length c0_5,.slice A0_6 l0_6.length c0_6,.int .i64 a0_7]) (t:=46) ?_;intro gb1 hg w3 hbox hb;have BK1:=zk hbox;have GW1:=zk (zs (w:=w) hg za5);have GE1:=GW1;replace HB:=yB HB hb;clear hb hbox hg))
 (try simp only [Act.put,zt,zu,zv])
 go_cut [16] (fun v16 wc=>∃ (kq:Nat) (x16_1:Bool),v16 = .bool x16_1∧Aside0 (impl_IsValidConstraint.j0 kq x16_1 a0_0 a0_1 a0_2 a0_3 a0_4 l0_5 l0_6 a0_7=some r)∧Aside0 (kq≤k)∧Aside0 (wc.heap[gb1]? = some (.cells #[.int .i64 a0_0,.string a0_1,.string a0_2,.int .i64 a0_3,.string a0_4,(.slice A0_5 l0_5.length c0_5),(.slice A0_6 l0_6.length c0_6),.int .i64 a0_7] 46 (0,0)))∧Aside0 (Below w.heap.size w wc))
 case first =>
  have H:=HC2.out
  clear HC2
  by_cases c4:a0_0=5
  · rw [if_pos c4] at H
    have c4b0:=zbt c4
    have c4b1:=zqn c4
    clear c4
    (first|rw [c4b0]|(simp only [i64_w,i32_w];rw [c4b0])|skip)
    have H':=zk H
    clear H
    obtain ⟨hcz5_0,hcz5_1,hcz5_2,hcz5_3,hcz5_4,hcz5_5,hcz5_6,hcz5_7,hfz5_0,hfz5_1,hfz5_2,hfz5_3,hfz5_4,hfz5_5,hfz5_6,hfz5_7⟩:=blk8 BK1.out
    go_wp2
    go_meet
    case rel=>exact ⟨_,(false),za9,H',⟨za13⟩,⟨za0 BK1.out⟩,⟨za5⟩⟩
  rw [if_neg c4] at H
  have c4b0:=zbn c4
  have c4b1:=zqt c4
  (first|rw [c4b0]|(simp only [i64_w,i32_w];rw [c4b0])|skip)
  by_cases c6:(l0_6.length:Int)=0
  · rw [if_pos c6] at H
    have c6b0:=zbt c6
    have c6b1:=zqn c6
    clear c6
    have H':=zk H
    clear H
    obtain ⟨hcz7_0,hcz7_1,hcz7_2,hcz7_3,hcz7_4,hcz7_5,hcz7_6,hcz7_7,hfz7_0,hfz7_1,hfz7_2,hfz7_3,hfz7_4,hfz7_5,hfz7_6,hfz7_7⟩:=blk8 BK1.out
    go_wp2
    go_meet
    case rel=>exact ⟨_,((a0_7 != 0)),za9,H',⟨za13⟩,⟨za0 BK1.out⟩,⟨za5⟩⟩
  · rw [if_neg c6] at H
    have c6b0:=zbn c6
    have c6b1:=zqt c6
    have c6b2:¬ (l0_6 = []):=fun h_=>c6 (by rw [h_];rfl)
    have H':=zk H
    clear H
    obtain ⟨hcz8_0,hcz8_1,hcz8_2,hcz8_3,hcz8_4,hcz8_5,hcz8_6,hcz8_7,hfz8_0,hfz8_1,hfz8_2,hfz8_3,hfz8_4,hfz8_5,hfz8_6,hfz8_7⟩:=blk8 BK1.out
    go_wp2
    go_meet
    case rel=>exact ⟨_,(true),za9,H',⟨za13⟩,⟨za0 BK1.out⟩,⟨za5⟩⟩
 case rest =>
  clear HC2
  obtain ⟨kq,x16_1,rfl,HA,HJ1,BK1,HB⟩:=hcut
  cases kq with
  | zero=>exact absurd HA.out (by simp [impl_IsValidConstraint.j0])
  | succ kj1 =>
   have H:=HA.out
   clear HA
   simp only [impl_IsValidConstraint.j0] at H
   by_cases c9:x16_1=true
   · subst c9
     rw [if_pos rfl] at H
     try dsimp only at H
     obtain rfl:=zi H
     go_wp2
     go_ret
     exact ⟨za8,za5⟩
   · replace c9:=Bool.eq_false_iff.mpr c9
     subst c9
     rw [if_neg zff] at H
     try dsimp only at H
     have HC10:=zk H
     clear H
     obtain ⟨hcz11_0,hcz11_1,hcz11_2,hcz11_3,hcz11_4,hcz11_5,hcz11_6,hcz11_7,hfz11_0,hfz11_1,hfz11_2,hfz11_3,hfz11_4,hfz11_5,hfz11_6,hfz11_7⟩:=blk8 BK1.out
     go_upto_if 19 with (fail)
     go_cut [19] (fun v19 wc=>∃ (kq:Nat) (x19_9:Bool),v19 = .bool x19_9∧Aside0 (impl_IsValidConstraint.j1 kq a0_0 x19_9 a0_0 a0_1 a0_2 a0_3 a0_4 l0_5 l0_6 a0_7=some r)∧Aside0 (kq≤kj1)∧Aside0 (wc.heap[gb1]? = some (.cells #[.int .i64 a0_0,.string a0_1,.string a0_2,.int .i64 a0_3,.string a0_4,(.slice A0_5 l0_5.length c0_5),(.slice A0_6 l0_6.length c0_6),.int .i64 a0_7] 46 (0,0)))∧Aside0 (Below w.heap.size w wc))
     case first =>
      have H:=HC10.out
      clear HC10
      by_cases c12:a0_0=1
      · rw [if_pos c12] at H
        have c12b0:=zbt c12
        have c12b1:=zqn c12
        clear c12
        (first|rw [c12b0]|(simp only [i64_w,i32_w];rw [c12b0])|skip)
        have H':=zk H
        clear H
        go_wp2
        go_meet
        case rel=>exact ⟨_,((a0_0 == 1)),za9,H',⟨za19⟩,⟨za0 BK1.out⟩,⟨za5⟩⟩
      · rw [if_neg c12] at H
        have c12b0:=zbn c12
        have c12b1:=zqt c12
        (first|rw [c12b0]|(simp only [i64_w,i32_w];rw [c12b0])|skip)
        have H':=zk H
        clear H
        go_wp2
        go_meet
        case rel=>exact ⟨_,((a0_0 == 2)),za9,H',⟨za19⟩,⟨za0 BK1.out⟩,⟨za5⟩⟩
     case rest =>
      clear HC10
      try clear c9
      try clear hcz11_0
      try clear hcz11_1
      try clear hcz11_2
      try clear hcz11_3
      try clear hcz11_4
      try clear hcz11_5
      try clear hcz11_6
      try clear hcz11_7
      try clear hfz11_0
      try clear hfz11_1
      try clear hfz11_2
      try clear hfz11_3
      try clear hfz11_4
      try clear hfz11_5
      try clear hfz11_6
      try clear hfz11_7
      obtain ⟨kq,x19_9,rfl,HA,HJ9,BK1,HB⟩:=hcut
      cases kq with
      | zero=>exact absurd HA.out (by simp [impl_IsValidConstraint.j1])
      | succ kj9 =>
       have H:=HA.out
       clear HA
       simp only [impl_IsValidConstraint.j1] at H
       by_cases c13:x19_9=true
       subst c13
       rw [if_pos rfl] at H
       try dsimp only at H
       obtain ⟨t2,A14,H⟩:=zO H
       try dsimp only at H
       by_cases c15:t2=true
       subst c15
       rw [if_pos rfl] at H
       try dsimp only at H
       obtain ⟨t3,A16,H⟩:=zO H
       try dsimp only at H
       by_cases c17:t3=true
       subst c17
       rw [if_pos rfl] at H
       try dsimp only at H
       obtain ⟨t4,A18,H⟩:=zO H
       try dsimp only at H
       rotate_left
       replace c17:=Bool.eq_false_iff.mpr c17
       subst c17
       rw [if_neg zff] at H
       try dsimp only at H
       rotate_left
       replace c15:=Bool.eq_false_iff.mpr c15
       subst c15
       rw [if_neg zff] at H
       try dsimp only at H
       rotate_left
       · replace c13:=Bool.eq_false_iff.mpr c13
         subst c13
         rw [if_neg zff] at H
         try dsimp only at H
         have HC23:=zk H
         clear H
         go_upto_if 35 with (fail)
         go_cut [35] (fun v35 wc=>∃ (kq:Nat) (x35_22:Bool),v35 = .bool x35_22∧Aside0 (impl_IsValidConstraint.j2 kq a0_0 x35_22 a0_0 a0_1 a0_2 a0_3 a0_4 l0_5 l0_6 a0_7=some r)∧Aside0 (kq≤kj9)∧Aside0 (wc.heap[gb1]? = some (.cells #[.int .i64 a0_0,.string a0_1,.string a0_2,.int .i64 a0_3,.string a0_4,(.slice A0_5 l0_5.length c0_5),(.slice A0_6 l0_6.length c0_6),.int .i64 a0_7] 46 (0,0)))∧Aside0 (Below w.heap.size w wc))
         case first =>
          have H:=HC23.out
          clear HC23
          by_cases c24:a0_0=3
          · rw [if_pos c24] at H
            have c24b0:=zbt c24
            have c24b1:=zqn c24
            clear c24
            (first|rw [c24b0]|(simp only [i64_w,i32_w];rw [c24b0])|skip)
            have H':=zk H
            clear H
            go_wp2
            go_meet
            case rel=>exact ⟨_,((a0_0 == 3)),za9,H',⟨by have:=HJ1.out;have:=HJ9.out;first|omega|exact Nat.le_refl _⟩,⟨za0 BK1.out⟩,⟨za5⟩⟩
          · rw [if_neg c24] at H
            have c24b0:=zbn c24
            have c24b1:=zqt c24
            (first|rw [c24b0]|(simp only [i64_w,i32_w];rw [c24b0])|skip)
            have H':=zk H
            clear H
            go_wp2
            go_meet
            case rel=>exact ⟨_,((a0_0 == 4)),za9,H',⟨by have:=HJ1.out;have:=HJ9.out;first|omega|exact Nat.le_refl _⟩,⟨za0 BK1.out⟩,⟨za5⟩⟩
         case rest =>
          clear HC23
          try clear c9
          try clear c13
          try clear hcz11_0
          try clear hcz11_1
          try clear hcz11_2
          try clear hcz11_3
          try clear hcz11_4
          try clear hcz11_5
          try clear hcz11_6
          try clear hcz11_7
          try clear hfz11_0
          try clear hfz11_1
          try clear hfz11_2
          try clear hfz11_3
          try clear hfz11_4
          try clear hfz11_5
          try clear hfz11_6
          try clear hfz11_7
          obtain ⟨kq,x35_22,rfl,HA,HJ22,BK1,HB⟩:=hcut
          cases kq with
          | zero=>exact absurd HA.out (by simp [impl_IsValidConstraint.j2])
          | succ kj22 =>
           have H:=HA.out
           clear HA
           simp only [impl_IsValidConstraint.j2] at H
           by_cases c25:x35_22=true
           subst c25
           rw [if_pos rfl] at H
           try dsimp only at H
           obtain ⟨t5,A26,H⟩:=zO H
           try dsimp only at H
           by_cases c27:t5=true
           subst c27
           rw [if_pos rfl] at H
           try dsimp only at H
           by_cases c28:a0_2.toList=([]:List UInt8)
           rw [if_pos c28] at H
           have c28b0:=zbt c28
           have c28b1:=zqn c28
           clear c28
           obtain ⟨t6,A29,H⟩:=zO H
           try dsimp only at H
           rotate_left
           rw [if_neg c28] at H
           have c28b0:=zbn c28
           have c28b1:=zqt c28
           rotate_left
           replace c27:=Bool.eq_false_iff.mpr c27
           subst c27
           rw [if_neg zff] at H
           try dsimp only at H
           rotate_left
           replace c25:=Bool.eq_false_iff.mpr c25
           subst c25
           rw [if_neg zff] at H
           try dsimp only at H
           by_cases c34:a0_0=5
           rw [if_pos c34] at H
           have c34b0:=zbt c34
           have c34b1:=zqn c34
           clear c34
           by_cases c35:a0_1.toList=([]:List UInt8)
           rw [if_pos c35] at H
           have c35b0:=zbt c35
           have c35b1:=zqn c35
           clear c35
           by_cases c36:a0_2.toList=([]:List UInt8)
           rw [if_pos c36] at H
           have c36b0:=zbt c36
           have c36b1:=zqn c36
           clear c36
           obtain ⟨t7,A37,H⟩:=zO H
           try dsimp only at H
           by_cases c38:t7=true
           subst c38
           rw [if_pos rfl] at H
           try dsimp only at H
           by_cases c39:(l0_6.length:Int)=3
           rw [if_pos c39] at H
           have c39b0:=zbt c39
           have c39b1:=zqn c39
           clear c39
           obtain ⟨t8,A40,H⟩:=zO H
           try dsimp only at H
           by_cases c41:t8=true
           subst c41
           rw [if_pos rfl] at H
           try dsimp only at H
           obtain ⟨t9,A42,H⟩:=zO H
           try dsimp only at H
           rotate_left
           replace c41:=Bool.eq_false_iff.mpr c41
           subst c41
           rw [if_neg zff] at H
           try dsimp only at H
           rotate_left
           rw [if_neg c39] at H
           have c39b0:=zbn c39
           have c39b1:=zqt c39
           rotate_left
           replace c38:=Bool.eq_false_iff.mpr c38
           subst c38
           rw [if_neg zff] at H
           try dsimp only at H
           rotate_left
           rw [if_neg c36] at H
           have c36b0:=zbn c36
           have c36b1:=zqt c36
           rotate_left
           rw [if_neg c35] at H
           have c35b0:=zbn c35
           have c35b1:=zqt c35
           rotate_left
           · rw [if_neg c34] at H
             have c34b0:=zbn c34
             have c34b1:=zqt c34
             obtain rfl:=zi H
             go_wp2
             go_ret
             exact ⟨za8,za5⟩
           all_goals
            obtain rfl:=zi H
            obtain ⟨hcz43_0,hcz43_1,hcz43_2,hcz43_3,hcz43_4,hcz43_5,hcz43_6,hcz43_7,hfz43_0,hfz43_1,hfz43_2,hfz43_3,hfz43_4,hfz43_5,hfz43_6,hfz43_7⟩:=blk8 BK1.out
            go_wp2_with (first|(go_at_call 48;(with_reducible refine (impl_isZeroRegex.calls a0_3 a0_4 _ _ l0_5 _ _ ?side1 ?side2 A37.out).mono ?_);(case side1=>repeat (first|exact (Kd.C_below HR0_5.out HB.out)|(with_reducible refine Kd.C_alloc ?_ _)|(with_reducible refine Kd.C_drewN ?_ _)|(with_reducible refine Kd.C_drew ?_)));(case side2=>exact HC0_5.out);rintro e w44 ⟨rfl,hb⟩;replace BK1:=yb BK1 hb;replace HB:=yB HB hb;(try clear hb);obtain ⟨hcz45_0,hcz45_1,hcz45_2,hcz45_3,hcz45_4,hcz45_5,hcz45_6,hcz45_7,hfz45_0,hfz45_1,hfz45_2,hfz45_3,hfz45_4,hfz45_5,hfz45_6,hfz45_7⟩:=blk8 BK1.out)|(go_at_call 17;(with_reducible refine (impl_within.calls a0_7 (-99) 99 _ _ A40.out).mono ?_);rintro e w' ⟨rfl,⟨nd,rfl⟩⟩)|((with_reducible refine gate_callee (f:=50) rfl ?_);refine zg (some 81) Try.func50 #[.slice A0_6 l0_6.length c0_6,.func (.func 51) #[] #[]] rfl za6 ?_;(with_reducible refine (slices_ContainsFunc_int_int.calls kj22 _ _ l0_6 t9 _ ?side1 ?side2 A42.out).mono ?_);(case side1=>repeat (first|exact (Kd.C_below HR0_6.out za5)|(with_reducible refine Kd.C_alloc ?_ _)|(with_reducible refine Kd.C_drewN ?_ _)|(with_reducible refine Kd.C_drew ?_)));(case side2=>exact HC0_6.out);rintro e w' ⟨rfl,⟨nd,rfl⟩⟩;refine ⟨_,rfl,?_⟩)|((with_reducible refine gate_callee (f:=47) rfl ?_);refine zg (some 40) Try.func47 #[.string a0_1] rfl za6 ?_;(with_reducible refine (impl_IsTerm.calls kj22 a0_1 _ _ A26.out).mono ?_);rintro e w' ⟨rfl,⟨nd,rfl⟩⟩;refine ⟨_,rfl,?_⟩)|(go_at_call 49;(with_reducible refine (impl_IsValidRegex.calls kj22 a0_3 a0_4 _ _ l0_5 t6 _ ?side1 ?side2 A29.out).mono ?_);(case side1=>repeat (first|exact (Kd.C_below HR0_5.out za5)|(with_reducible refine Kd.C_alloc ?_ _)|(with_reducible refine Kd.C_drewN ?_ _)|(with_reducible refine Kd.C_drew ?_)));(case side2=>exact HC0_5.out);rintro e w31 ⟨rfl,hb⟩;replace BK1:=yb BK1 hb;replace HB:=yB HB hb;(try clear hb)))
            go_ret
            exact ⟨za8,za5⟩
       all_goals
        obtain rfl:=zi H
        obtain ⟨hcz19_0,hcz19_1,hcz19_2,hcz19_3,hcz19_4,hcz19_5,hcz19_6,hcz19_7,hfz19_0,hfz19_1,hfz19_2,hfz19_3,hfz19_4,hfz19_5,hfz19_6,hfz19_7⟩:=blk8 BK1.out
        go_wp2_with (first|((with_reducible refine gate_callee (f:=47) rfl ?_);refine zg (some 24) Try.func47 #[.string a0_1] rfl za6 ?_;(with_reducible refine (impl_IsTerm.calls kj9 a0_1 _ _ A14.out).mono ?_);rintro e w' ⟨rfl,⟨nd,rfl⟩⟩;refine ⟨_,rfl,?_⟩)|(go_at_call 47;(with_reducible refine (impl_IsTerm.calls kj9 a0_2 _ _ A16.out).mono ?_);rintro e w' ⟨rfl,⟨nd,rfl⟩⟩)|(go_at_call 48;(with_reducible refine (impl_isZeroRegex.calls a0_3 a0_4 _ _ l0_5 t4 _ ?side1 ?side2 A18.out).mono ?_);(case side1=>repeat (first|exact (Kd.C_below HR0_5.out za5)|(with_reducible refine Kd.C_alloc ?_ _)|(with_reducible refine Kd.C_drewN ?_ _)|(with_reducible refine Kd.C_drew ?_)));(case side2=>exact HC0_5.out);rintro e w20 ⟨rfl,hb⟩;replace BK1:=yb BK1 hb;replace HB:=yB HB hb;(try clear hb)))
        go_ret
        exact ⟨za8,za5⟩
def impl_cloneConstraint.f (k:Nat) (a0_0:Int) (a0_1:ByteArray) (a0_2:ByteArray) (a0_3:Int) (a0_4:ByteArray) (l0_5:List (S43)) (l0_6:List Int) (a0_7:Int):Option (Int × ByteArray × ByteArray × Int × ByteArray × (List (S43)) × List Int × Int):=(impl_cloneRegex.f k a0_3 a0_4 l0_5).bind fun bt30003=>((slices_Clone_int_int.f l0_6).bind fun t30008=>(some (a0_0,a0_1,a0_2,bt30003.1,bt30003.2.1,bt30003.2.2,t30008,a0_7)))
def impl_IsValidProblem_1.f (k:Nat) (a0_0:Int) (a0_1:ByteArray) (a0_2:ByteArray) (a0_3:Int) (a0_4:ByteArray) (l0_5:List (S43)) (l0_6:List Int) (a0_7:Int):Option (Bool):=(impl_IsValidConstraint.f k a0_0 a0_1 a0_2 a0_3 a0_4 l0_5 l0_6 a0_7).bind fun t28002=>(some (!t28002))
theorem impl_IsValidProblem_1.calls (k:Nat) (a0_0:Int) (a0_1:ByteArray) (a0_2:ByteArray) (a0_3:Int) (a0_4:ByteArray) (A0_5:Option Addr) (c0_5:Nat) (l0_5:List (S43)) (A0_6:Option Addr) (c0_6:Nat) (l0_6:List Int) (a0_7:Int) (r:Bool) (w:World) (hr0_5:Kd.C k43 w A0_5 l0_5.length l0_5) (hc0_5:l0_5.length≤c0_5) (hr0_6:Kd.C (Kd.int .i64) w A0_6 l0_6.length l0_6) (hc0_6:l0_6.length≤c0_6) (h:impl_IsValidProblem_1.f k a0_0 a0_1 a0_2 a0_3 a0_4 l0_5 l0_6 a0_7=some r) :
  Calls Try.prog 28 #[.agg #[.int .i64 a0_0,.string a0_1,.string a0_2,.int .i64 a0_3,.string a0_4,.slice A0_5 l0_5.length c0_5,.slice A0_6 l0_6.length c0_6,.int .i64 a0_7]] w fun e w'=>e = .returned (.bool r)∧Below w.heap.size w w':=by
 have hu46:=Try.underlying46
 have HR0_5:=zk hr0_5
 have HC0_5:=zk hc0_5
 clear hr0_5 hc0_5
 have HR0_6:=zk hr0_6
 have HC0_6:=zk hc0_6
 clear hr0_6 hc0_6
 have HB:=zk (Below.refl w.heap.size w)
 have H:=h
 unfold impl_IsValidProblem_1.f at H
 clear h
 obtain ⟨t2,A2,H⟩:=zO H
 try dsimp only at H
 obtain rfl:=zi H
 go_enter Try.func28,Try.ntmps28
 go_wp2_with (first|((with_reducible refine gate_dst (N:=1) rfl ?_);refine zE (cs:=#[.int .i64 a0_0,.string a0_1,.string a0_2,.int .i64 a0_3,.string a0_4,.slice A0_5 l0_5.length c0_5,.slice A0_6 l0_6.length c0_6,.int .i64 a0_7]) (t:=46) ?_;intro gb1 hg w3 hbox hb;have BK1:=zk hbox;have GW1:=zk (zs (w:=w) hg za5);have GE1:=GW1;replace HB:=yB HB hb;clear hb hbox hg;obtain ⟨hcz4_0,hcz4_1,hcz4_2,hcz4_3,hcz4_4,hcz4_5,hcz4_6,hcz4_7,hfz4_0,hfz4_1,hfz4_2,hfz4_3,hfz4_4,hfz4_5,hfz4_6,hfz4_7⟩:=blk8 BK1.out)|((with_reducible refine gate_callee (f:=29) rfl ?_);refine zg (some 4) Try.func29 #[.agg #[.int .i64 a0_0,.string a0_1,.string a0_2,.int .i64 a0_3,.string a0_4,.slice A0_5 l0_5.length c0_5,.slice A0_6 l0_6.length c0_6,.int .i64 a0_7]] rfl za6 ?_;(with_reducible refine (impl_IsValidConstraint.calls k a0_0 a0_1 a0_2 a0_3 a0_4 _ _ l0_5 _ _ l0_6 a0_7 t2 _ ?side1 ?side2 ?side3 ?side4 A2.out).mono ?_);(case side1=>repeat (first|exact (Kd.C_below HR0_5.out HB.out)|(with_reducible refine Kd.C_alloc ?_ _)|(with_reducible refine Kd.C_drewN ?_ _)|(with_reducible refine Kd.C_drew ?_)));(case side2=>exact HC0_5.out);(case side3=>repeat (first|exact (Kd.C_below HR0_6.out HB.out)|(with_reducible refine Kd.C_alloc ?_ _)|(with_reducible refine Kd.C_drewN ?_ _)|(with_reducible refine Kd.C_drew ?_)));(case side4=>exact HC0_6.out);rintro e w5 ⟨rfl,hb⟩;refine ⟨_,rfl,?_⟩;replace BK1:=yb BK1 hb;replace HB:=yB HB hb;(try clear hb)))
 go_ret
 exact ⟨za8,za5⟩
def impl_Constraint_46.l0:Nat→List (S46)→Int→Int→Option (Int)
 | 0,_,_,_=>none
 | k+1,x0,x7,x8=>if x8 < x7 then (if 0≤x8 then (if x8 < (x0.length:Int) then ((impl_IsValidProblem_1.f k ((rd_T46 x0 x8).f0) ((rd_T46 x0 x8).f1) ((rd_T46 x0 x8).f2) ((rd_T46 x0 x8).f3.f0) ((rd_T46 x0 x8).f3.f1) ((rd_T46 x0 x8).f3.f2) ((rd_T46 x0 x8).f4) ((rd_T46 x0 x8).f5)).bind fun t46002=>(if t46002=true then (some x8) else (impl_Constraint_46.l0 k x0 x7 (wrap64 (x8+1))))) else (none)) else (none)) else (some (-1))
def impl_Constraint_46.f (k:Nat) (l0:List (S46)):Option (Int):=impl_Constraint_46.l0 k l0 (l0.length:Int) 0
theorem impl_Constraint_46.calls (k:Nat) (A0:Option Addr) (c0:Nat) (l0:List (S46)) (r:Int) (w:World) (hr0:Kd.C k46 w A0 l0.length l0) (hc0:l0.length≤c0) (h:impl_Constraint_46.f k l0=some r) :
   Calls Try.prog 46 #[.slice A0 l0.length c0,.func (.func 28) #[] #[]] w fun e w'=>e = .returned (.int .i64 r)∧Below w.heap.size w w':=by
 have hu46:=Try.underlying46
 have HR0:=zk hr0
 have HC0:=zk hc0
 clear hr0 hc0
 have HB:=zk (Below.refl w.heap.size w)
 have H:=h
 unfold impl_Constraint_46.f at H
 clear h
 have H':=zk H
 clear H
 go_enter Try.func46,Try.ntmps46
 go_wp2
 try simp only [Act.put,zt,zv,zu]
 go_loopg [8] k (fun kq v8 w'=>∃ (x8_1:Int),v8 = .int .i64 x8_1∧Aside0 (impl_Constraint_46.l0 kq l0 (l0.length:Int) x8_1=some r)∧Aside0 (kq≤k)∧Aside0 (Below w.heap.size w w'))
 case atStart=>exact ⟨(0),za9,H',⟨Nat.le_refl _⟩,⟨za5⟩⟩
 case round =>
  clear H'
  obtain ⟨x8_1,rfl,HA,HK1,HB⟩:=hrel
  cases gk with
  | zero=>exact absurd HA.out (by simp [impl_Constraint_46.l0])
  | succ k1 =>
   have H:=HA.out
   clear HA
   simp only [impl_Constraint_46.l0] at H
   by_cases c2:x8_1 < (l0.length:Int)
   rw [if_pos c2] at H
   have c2b0:=zdl c2
   clear c2
   by_cases c3:0≤x8_1
   rw [if_pos c3] at H
   have c3b0:=zdle c3
   clear c3
   by_cases c4:x8_1 < (l0.length:Int)
   rw [if_pos c4] at H
   have c4b0:=zdl c4
   clear c4
   obtain ⟨t2,A5,H⟩:=zO H
   try dsimp only at H
   by_cases c6:t2=true
   subst c6
   rw [if_pos rfl] at H
   try dsimp only at H
   obtain rfl:=zi H
   have fin0_:=zk trivial
   rotate_left
   replace c6:=Bool.eq_false_iff.mpr c6
   subst c6
   rw [if_neg zff] at H
   try dsimp only at H
   have H':=zk H
   clear H
   have fin1_:=zk trivial
   rotate_left
   · rw [if_neg c4] at H
     exact absurd H (by simp)
   · rw [if_neg c3] at H
     exact absurd H (by simp)
   · rw [if_neg c2] at H
     have c2b0:=zdnl c2
     clear c2
     obtain rfl:=zi H
     go_wp2
     go_ret
     exact ⟨za8,za5⟩
   all_goals
    have p46001:0≤(x8_1:Int):=of_decide_eq_true za7
    have q46001:x8_1 < (l0.length:Int):=of_decide_eq_true za7
    obtain ⟨ad46001,A46001_5,c46001_5,A46001_6,c46001_6,e46001,hx46001_0,hx46001_1,hx46001_2,hx46001_3,hx46001_4,hx46001_5,hx46001_6,hx46001_7,hl46001_5,hi46001_5,hl46001_6,hi46001_6⟩:=at_T46 HR0.out x8_1 p46001 q46001
    cases e46001
    replace hx46001_0:=zx HB.out hx46001_0
    replace hx46001_1:=zx HB.out hx46001_1
    replace hx46001_2:=zx HB.out hx46001_2
    replace hx46001_3:=zx HB.out hx46001_3
    replace hx46001_4:=zx HB.out hx46001_4
    replace hx46001_5:=zx HB.out hx46001_5
    replace hx46001_6:=zx HB.out hx46001_6
    replace hx46001_7:=zx HB.out hx46001_7
    have HR46001_5:=zk hi46001_5
    have HC46001_5:=zk hl46001_5
    clear hi46001_5 hl46001_5
    have HR46001_6:=zk hi46001_6
    have HC46001_6:=zk hl46001_6
    clear hi46001_6 hl46001_6
    replace p46001:=eq_true p46001
    replace q46001:=eq_true q46001
    go_wp2_with (((with_reducible refine gate_dst (N:=16) rfl ?_);refine goesF_ (some 16) rfl rfl Try.func28 (by kernel_rfl) rfl #[.agg #[.int .i64 ((rd_T46 l0 x8_1).f0),.string ((rd_T46 l0 x8_1).f1),.string ((rd_T46 l0 x8_1).f2),.int .i64 ((rd_T46 l0 x8_1).f3.f0),.string ((rd_T46 l0 x8_1).f3.f1),.slice A46001_5 ((rd_T46 l0 x8_1).f3.f2).length c46001_5,.slice A46001_6 ((rd_T46 l0 x8_1).f4).length c46001_6,.int .i64 ((rd_T46 l0 x8_1).f5)]] rfl (by first|rfl|(go_simp;done)) za6 ?_;(with_reducible refine (impl_IsValidProblem_1.calls k1 ((rd_T46 l0 x8_1).f0) ((rd_T46 l0 x8_1).f1) ((rd_T46 l0 x8_1).f2) ((rd_T46 l0 x8_1).f3.f0) ((rd_T46 l0 x8_1).f3.f1) _ _ ((rd_T46 l0 x8_1).f3.f2) _ _ ((rd_T46 l0 x8_1).f4) ((rd_T46 l0 x8_1).f5) _ _ ?side1 ?side2 ?side3 ?side4 A5.out).mono ?_);(case side1=>repeat (first|exact (Kd.C_below HR46001_5.out HB.out)|(with_reducible refine Kd.C_alloc ?_ _)|(with_reducible refine Kd.C_drewN ?_ _)|(with_reducible refine Kd.C_drew ?_)));(case side2=>exact HC46001_5.out);(case side3=>repeat (first|exact (Kd.C_below HR46001_6.out HB.out)|(with_reducible refine Kd.C_alloc ?_ _)|(with_reducible refine Kd.C_drewN ?_ _)|(with_reducible refine Kd.C_drew ?_)));(case side4=>exact HC46001_6.out);rintro e w7 ⟨rfl,hb⟩;refine ⟨_,rfl,?_⟩;replace HB:=yB HB hb;(try clear hb)))
    first
    | (
      clear fin0_
      go_ret
      exact ⟨za8,za5⟩)
    | (
      clear fin1_
      go_roundg k1
      case measure=>have:=HK1.out;omega
      case rel=>exact ⟨(wrap64 (x8_1+1)),za9,H',⟨za11⟩,⟨za5⟩⟩)
def impl_Constraint_27.f (k:Nat) (l0:List (S46)):Option (Bool):=(impl_Constraint_46.f k l0).bind fun t27001=>(some (decide (t27001 ≥ 0)))
theorem impl_Constraint_27.calls (k:Nat) (A0:Option Addr) (c0:Nat) (l0:List (S46)) (r:Bool) (w:World) (hr0:Kd.C k46 w A0 l0.length l0) (hc0:l0.length≤c0) (h:impl_Constraint_27.f k l0=some r) :
  Calls Try.prog 27 #[.slice A0 l0.length c0,.func (.func 28) #[] #[]] w fun e w'=>e = .returned (.bool r)∧Below w.heap.size w w':=by
 have HR0:=zk hr0
 have HC0:=zk hc0
 clear hr0 hc0
 have HB:=zk (Below.refl w.heap.size w)
 have H:=h
 unfold impl_Constraint_27.f at H
 clear h
 obtain ⟨t1,A2,H⟩:=zO H
 try dsimp only at H
 obtain rfl:=zi H
 go_enter Try.func27,Try.ntmps27
 go_wp2_with (first|((with_reducible refine gate_callee (f:=46) rfl ?_);refine zg (some 7) Try.func46 #[.slice A0 l0.length c0,.func (.func 28) #[] #[]] rfl za6 ?_;(with_reducible refine (impl_Constraint_46.calls k _ _ l0 t1 _ ?side1 ?side2 A2.out).mono ?_);(case side1=>repeat (first|exact HR0.out|(with_reducible refine Kd.C_alloc ?_ _)|(with_reducible refine Kd.C_drewN ?_ _)|(with_reducible refine Kd.C_drew ?_)));(case side2=>exact HC0.out);rintro e w3 ⟨rfl,hb⟩;refine ⟨_,rfl,?_⟩;replace HB:=yB HB hb;(try clear hb)))
 go_ret
 exact ⟨za8,za5⟩
def impl_IsValidProblem.f (k:Nat) (l0_0:List (S46)):Option (Bool):=if (l0_0.length:Int)≤6 then ((impl_Constraint_27.f k l0_0).bind fun t16002=>(some (!t16002))) else (some false)
theorem impl_IsValidProblem.calls (k:Nat) (A0_0:Option Addr) (c0_0:Nat) (l0_0:List (S46)) (r:Bool) (w:World) (hr0_0:Kd.C k46 w A0_0 l0_0.length l0_0) (hc0_0:l0_0.length≤c0_0) (h:impl_IsValidProblem.f k l0_0=some r) :
   Calls Try.prog 16 #[.agg #[.slice A0_0 l0_0.length c0_0]] w fun e w'=>e = .returned (.bool r)∧Below w.heap.size w w':=by
 have hu28:=Try.underlying28
 have HR0_0:=zk hr0_0
 have HC0_0:=zk hc0_0
 clear hr0_0 hc0_0
 have HB:=zk (Below.refl w.heap.size w)
 have H:=h
 unfold impl_IsValidProblem.f at H
 clear h
 by_cases c2:(l0_0.length:Int)≤6
 rw [if_pos c2] at H
 have c2b0:=zdle c2
 have c2b1:decide (l0_0.length≤6)=true:=decide_eq_true (by omega)
 clear c2
 obtain ⟨t2,A3,H⟩:=zO H
 try dsimp only at H
 rotate_left
 rw [if_neg c2] at H
 have c2b0:=zdnle c2
 have c2b1:decide (l0_0.length≤6)=false:=decide_eq_false (by omega)
 clear c2
 rotate_left
 all_goals
  obtain rfl:=zi H
  go_enter Try.func16,Try.ntmps16
  go_wp2_with (first|((with_reducible refine gate_dst (N:=1) rfl ?_);refine zE (cs:=#[.slice A0_0 l0_0.length c0_0]) (t:=28) ?_;intro gb1 hg w4 hbox hb;have BK1:=zk hbox;have GW1:=zk (zs (w:=w) hg za5);have GE1:=GW1;replace HB:=yB HB hb;clear hb hbox hg;obtain ⟨hcz5_0,hfz5_0⟩:=blk1 BK1.out)|(go_at_call 27;(with_reducible refine (impl_Constraint_27.calls k _ _ l0_0 t2 _ ?side1 ?side2 A3.out).mono ?_);(case side1=>repeat (first|exact (Kd.C_below HR0_0.out HB.out)|(with_reducible refine Kd.C_alloc ?_ _)|(with_reducible refine Kd.C_drewN ?_ _)|(with_reducible refine Kd.C_drew ?_)));(case side2=>exact HC0_0.out);rintro e w6 ⟨rfl,hb⟩;replace BK1:=yb BK1 hb;replace HB:=yB HB hb;(try clear hb)))
  go_ret
  exact ⟨za8,za5⟩
def impl_cloneProblem.l0:Nat→List (S46)→Int→Int→List (S46)→Option ((List (S46)))
 | 0,_,_,_,_=>none
 | k+1,x8,x9,x10,x18004000=>if x10 < x9 then (if 0≤x10 then (if x10 < (x8.length:Int) then ((impl_cloneConstraint.f k ((rd_T46 x8 x10).f0) ((rd_T46 x8 x10).f1) ((rd_T46 x8 x10).f2) ((rd_T46 x8 x10).f3.f0) ((rd_T46 x8 x10).f3.f1) ((rd_T46 x8 x10).f3.f2) ((rd_T46 x8 x10).f4) ((rd_T46 x8 x10).f5)).bind fun bt18006=>(if x18004000.length < 1172812402961 then (impl_cloneProblem.l0 k x8 x9 (wrap64 (x10+1)) (x18004000 ++ [(⟨bt18006.1,bt18006.2.1,bt18006.2.2.1,(⟨bt18006.2.2.2.1,bt18006.2.2.2.2.1,bt18006.2.2.2.2.2.1⟩:S43),bt18006.2.2.2.2.2.2.1,bt18006.2.2.2.2.2.2.2⟩:S46)])) else (none))) else (none)) else (none)) else (some x18004000)
def impl_cloneProblem.f (k:Nat) (l0_0:List (S46)):Option ((List (S46))):=impl_cloneProblem.l0 k l0_0 (l0_0.length:Int) 0 ([]:List (S46))
def impl_cloneProblem.T5:Bool × List (List Nat × List Nat):=(true,[([],[]),([0],[0]),([],[]),([2],[2]),([3],[3]),([1,4,3],[1,4]),([0,1,2,3,4,5],[]),([6,5,5,0,1,2,3,4,5],[5,6])])
def impl_cloneProblem.B5:List Nat:=[0,1,0,4,12,31,63,127]
theorem impl_cloneProblem.tab5:rtab .any (opsOf Try.f18 5)=impl_cloneProblem.T5:=by kernel_rfl
theorem impl_cloneProblem.bits5:waitsOk impl_cloneProblem.T5.2 impl_cloneProblem.B5=true:=by kernel_rfl
end Go.Proofs.Yteolnmoomeenbaa.A
