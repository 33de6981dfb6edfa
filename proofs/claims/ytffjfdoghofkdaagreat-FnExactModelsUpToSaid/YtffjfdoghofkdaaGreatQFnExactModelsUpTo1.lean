/- FnExactModelsUpTo: what its proof needs, put together by this session's program wip/merge.py out of the texts that wip/xp.py printed and of this session's own. -/
import Derived.Test.YtffjfdoghofkdaaGreatQFnExactModelsUpTo0
import Derived.Test.YtffjfdoghofkdaaGreatProg
import Derived.Lib.Bytealg
import Derived.Lib.Walk
import Derived.Below
import Derived.Deep.Draws
import Derived.Deep.AppendLies
import Derived.Maps.AppendAt
import Derived.OwnWalk
import Derived.Laws.BytesArg
import Derived.Laws.MakeOwn
import Derived.Laws.OwnMore
import Derived.Deep.OwnRows
import Derived.Tactics
import Derived.Lib.ConvBytes
import Derived.Laws.Slices
import Derived.WalkKit
import Derived.KernelRfl
import Derived.RowKit3
import Derived.Deep.LoopGhost
import Derived.Deep.QuietTactic
import Derived.BigQuiet
import Derived.WideLaws
import Derived.Deep.DeepCutAuto
import Derived.Deep.CutBlock
import Derived.Deep.RegionHeld3
import Derived.Laws.Rows
import Derived.Lib.AppendStr
import Derived.ArgAppend
import Derived.Laws.IdiomCopy
import Derived.OrdersHeld
import Derived.Laws.BitsLemmas
import Derived.RowKit
import Derived.Shelf.Abstract
import Derived.Outline
set_option linter.unusedVariables false
set_option linter.unusedSimpArgs false
set_option linter.unusedSectionVars false
set_option maxHeartbeats 8000000
set_option maxRecDepth 100000
namespace Go.Proofs.YtffjfdoghofkdaaGreat
open Go Go.RowKit Go.Proofs.YtffjfdoghofkdaaGreatW.PrintWords
theorem zk {P : Prop} (h : P) : Aside0 P := ⟨h⟩
theorem zE {P : Program} {ops : Array Oper} {rest : List Oper} {o : Oper} {a : Act} {Q : Exit → Act → World → Prop} {W : World} {N : Tmp} {cs : Array Value} {t : TypeId} (h : ∀ g, g = W.heap.size → ∀ w1, w1.heap[g]? = some (.cells cs t (0, 0)) → Below W.heap.size W w1 → wpList P ops Q rest (a.put o.dst (.pointer (some ⟨g, 0, none⟩))) w1) (hgd : o.guard = none := by rfl) (hd : o.dst = some N := by rfl) (hr : (execOp a.eval o).run P W = .ok (.value (.pointer (some ⟨W.heap.size, 0, none⟩))) (W.alloc (.cells cs t (0, 0))) := by first | (go_simp; done) | (go_simp; rfl)) : wpList P ops Q (o :: rest) a W := box_event hgd hd hr h
theorem zb {W0 W1 W2 : World} {g : Nat} {o : Obj} (h : W0.heap[g]? = some o) (hb : Below W1.heap.size W1 W2) (f : W0.heap[g]? = some o → W1.heap[g]? = some o := by intro h_; (with_reducible repeat (first | refine blk_drewN ?_ _ | refine blk_drew ?_ | refine blk_alloc ?_ _)); exact h_) : W2.heap[g]? = some o := blk_below (f h) hb
theorem zl {W0 W1 : World} {g : Nat} {o : Obj} (h : W0.heap[g]? = some o) (f : W0.heap[g]? = some o → W1.heap[g]? = some o := by intro h_; (with_reducible repeat (first | refine blk_drewN ?_ _ | refine blk_drew ?_ | refine blk_alloc ?_ _)); exact h_) : g < W1.heap.size := blk_lt (f h)
theorem zo {α β : Type} {o : Option α} {f : α → Option β} {b : β} (h : o.bind f = some b) : ∃ a, o = some a ∧ f a = some b := Option.bind_eq_some_iff.mp h
theorem zi {α : Type} {a b : α} (h : some a = some b) : a = b := Option.some.inj h
theorem zt {α : Type} (l : List α) (i : Nat) (a : α) : l.toArray.setIfInBounds i a = (l.set i a).toArray := List.setIfInBounds_toArray l i a
theorem zu {α : Type} {x : α} {l : List α} {a : α} : (x :: l).set 0 a = a :: l := List.set_cons_zero
theorem zv {α : Type} {x : α} {l : List α} {n : Nat} {a : α} : (x :: l).set (n + 1) a = x :: l.set n a := List.set_cons_succ
theorem zs {w W : World} {g : Nat} (hg : g = W.heap.size) (hb : Below w.heap.size w W) : w.heap.size ≤ g := by
 rw [hg]
 exact below_size hb
theorem zx {w W : World} {a : Addr} {v : Value} (hB : Below w.heap.size w W) (h : w.cell? a = some v) : W.cell? a = some v := (hB.cell (World.block_lt_of_cell? w _ h)).trans h
theorem za0 {P Q : Prop} (h : Q) (f : Q → P := by intro h_; (with_reducible repeat (first | apply Kd.R_alloc | apply Kd.R_drewN | apply Kd.R_drew)); exact h_) : P := f h
theorem za1 {P Q : Prop} (h : Q) (f : Q → P := by intro h_; (with_reducible repeat (first | refine blk_drewN ?_ _ | refine blk_drew ?_ | refine blk_alloc ?_ _)); exact h_) : P := f h
theorem za2 {P Q : Prop} (h : Q) (f : Q → P := by intro h_; (with_reducible repeat (first | refine blk_drewN ?_ _ | refine blk_drew ?_ | refine blk_alloc ?_ _)); refine blk_put (cs := #[.string a0_0, .string a0_1, .string (⟨#[]⟩ : ByteArray)]) ?_ 2 _ rfl; (with_reducible repeat (first | refine blk_drewN ?_ _ | refine blk_drew ?_ | refine blk_alloc ?_ _)); refine blk_put (cs := #[.string a0_0, .string (⟨#[]⟩ : ByteArray), .string (⟨#[]⟩ : ByteArray)]) ?_ 1 _ rfl; (with_reducible repeat (first | refine blk_drewN ?_ _ | refine blk_drew ?_ | refine blk_alloc ?_ _)); refine blk_put (cs := #[.string (⟨#[]⟩ : ByteArray), .string (⟨#[]⟩ : ByteArray), .string (⟨#[]⟩ : ByteArray)]) ?_ 0 _ rfl; (with_reducible repeat (first | refine blk_drewN ?_ _ | refine blk_drew ?_ | refine blk_alloc ?_ _)); exact h_) : P := f h
theorem za3 {P : Prop} (h : P := by repeat (first | (with_reducible first | exact HB.out | apply below_alloc | apply pw_below_drewN | apply below_drew1 | refine below_set ?_ (Aside0.out (by assumption))) | exact HB.out)) : P := h
theorem za4 {P : Prop} (h : P := by (try simp only [List.map_toArray, List.map_cons, List.map_nil]); first | done | rfl | (simp only [List.length_drop, List.length_take]; rfl)) : P := h
theorem za5 {P : Prop} (h : P := by (try simp only [decide_eq_true_eq, decide_eq_false_iff_not, eq_iff_iff, iff_true, iff_false] at *); (try simp only [ByteArray.size_extract, ByteArray.size_append, show (⟨#[97, 98, 99]⟩ : ByteArray).size = 3 from rfl, show (⟨#[88, 89, 90]⟩ : ByteArray).size = 3 from rfl, show (⟨#[61]⟩ : ByteArray).size = 1 from rfl] at *); omega) : P := h
theorem za6 {P : Prop} (h : P := by first | rfl | (simp [errW_none, errW_some] <;> rfl) | (simp [*, errW_none, errW_some] <;> rfl)) : P := h
theorem za7 {P : Prop} (h : P := by first | rfl | (simp; done) | (simp [*]; done)) : P := h
theorem za8 {P : Prop} (h : P := by first | (with_reducible assumption) | assumption) : P := h
theorem za9 {P : Prop} (h : P := by repeat (first | (with_reducible first | exact HB.out | apply below_alloc | apply pw_below_drewN | apply below_drew1 | refine below_set ?_ GE10001.out) | exact HB.out)) : P := h
theorem za10 {P : Prop} (h : P := by repeat (first | exact Drawn0.refl _ | apply Drawn0.step)) : P := h
theorem za11 {P : Prop} (h : P := by repeat (first | (with_reducible first | exact HK.out | apply Kept.alloc | apply Kept.drewN | apply Kept.drew | refine Kept.setCell ?_ (.inr GW38001.out) _ | refine Kept.setCell ?_ (.inr GW38002.out) _) | exact HK.out)) : P := h
theorem za12 {P : Prop} (h : P := by first | exact HBc.out | exact below_drew HBc.out | exact pw_below_drewN HBc.out _) : P := h
theorem za13 {P : Prop} (h : P := by (with_reducible repeat (first | refine blk_drewN ?_ _ | refine blk_drew ?_ | refine blk_alloc ?_ _)); refine blk_put (cs := #[.int .i64 ((rd_T65 l0_2 x38_3).f0), .string ((rd_T65 l0_2 x38_3).f1), .slice none 0 0]) ?_ 2 _ rfl; (with_reducible repeat (first | refine blk_drewN ?_ _ | refine blk_drew ?_ | refine blk_alloc ?_ _)); refine blk_put (cs := #[.int .i64 ((rd_T65 l0_2 x38_3).f0), .string (⟨#[]⟩ : ByteArray), .slice none 0 0]) ?_ 1 _ rfl; (with_reducible repeat (first | refine blk_drewN ?_ _ | refine blk_drew ?_ | refine blk_alloc ?_ _)); refine blk_put (cs := #[.int .i64 0, .string (⟨#[]⟩ : ByteArray), .slice none 0 0]) ?_ 0 _ rfl; (with_reducible repeat (first | refine blk_drewN ?_ _ | refine blk_drew ?_ | refine blk_alloc ?_ _)); exact BK125005.out) : P := h
theorem za14 {P : Prop} (h : P := by repeat (first | (with_reducible first | exact HK.out | apply Kept.alloc | apply Kept.drewN | apply Kept.drew) | exact HK.out)) : P := h
theorem za15 {P : Prop} (h : P := by have := HK1.out; omega) : P := h
theorem za16 {P : Prop} (h : P := by (with_reducible repeat (first | refine blk_drewN ?_ _ | refine blk_drew ?_ | refine blk_alloc ?_ _)); refine blk_far ?_ NB125001_125005.out _; (with_reducible repeat (first | refine blk_drewN ?_ _ | refine blk_drew ?_ | refine blk_alloc ?_ _)); refine blk_far ?_ NB125001_125005.out _; (with_reducible repeat (first | refine blk_drewN ?_ _ | refine blk_drew ?_ | refine blk_alloc ?_ _)); refine blk_far ?_ NB125001_125005.out _; (with_reducible repeat (first | refine blk_drewN ?_ _ | refine blk_drew ?_ | refine blk_alloc ?_ _)); exact BK125001.out) : P := h
theorem za17 {P : Prop} (h : P := by have := HN.out; omega) : P := h
theorem za18 {P : Prop} (h : P := by (with_reducible repeat (first | refine blk_drewN ?_ _ | refine blk_drew ?_ | refine blk_alloc ?_ _)); refine blk_far ?_ NB86002_86003.out _; (with_reducible repeat (first | refine blk_drewN ?_ _ | refine blk_drew ?_ | refine blk_alloc ?_ _)); refine blk_far ?_ NB86002_86003.out _; (with_reducible repeat (first | refine blk_drewN ?_ _ | refine blk_drew ?_ | refine blk_alloc ?_ _)); refine blk_far ?_ NB86002_86003.out _; (with_reducible repeat (first | refine blk_drewN ?_ _ | refine blk_drew ?_ | refine blk_alloc ?_ _)); exact BK86002.out) : P := h
theorem za19 {P : Prop} (h : P := by (with_reducible repeat (first | refine blk_drewN ?_ _ | refine blk_drew ?_ | refine blk_alloc ?_ _)); refine blk_far ?_ NB86001_86003.out _; (with_reducible repeat (first | refine blk_drewN ?_ _ | refine blk_drew ?_ | refine blk_alloc ?_ _)); refine blk_far ?_ NB86001_86003.out _; (with_reducible repeat (first | refine blk_drewN ?_ _ | refine blk_drew ?_ | refine blk_alloc ?_ _)); refine blk_far ?_ NB86001_86003.out _; (with_reducible repeat (first | refine blk_drewN ?_ _ | refine blk_drew ?_ | refine blk_alloc ?_ _)); exact BK86001.out) : P := h
theorem za20 {P : Prop} (h : P := by (with_reducible repeat (first | refine blk_drewN ?_ _ | refine blk_drew ?_ | refine blk_alloc ?_ _)); refine blk_put (cs := #[.int .i64 a0_0, .string (⟨#[]⟩ : ByteArray), .slice none 0 0]) ?_ 1 _ rfl; (with_reducible repeat (first | refine blk_drewN ?_ _ | refine blk_drew ?_ | refine blk_alloc ?_ _)); refine blk_put (cs := #[.int .i64 0, .string (⟨#[]⟩ : ByteArray), .slice none 0 0]) ?_ 0 _ rfl; (with_reducible repeat (first | refine blk_drewN ?_ _ | refine blk_drew ?_ | refine blk_alloc ?_ _)); exact BK120003.out) : P := h
theorem za21 {P : Prop} (h : P := by (with_reducible repeat (first | apply Kd.R_alloc | apply Kd.R_drewN | apply Kd.R_drew)); exact Kd.R_mono HO_3.out (fun _ hk => hk.2)) : P := h
theorem za22 {P : Prop} (h : P := by repeat (first | (with_reducible first | exact HK.out | apply Kept.alloc | apply Kept.drewN | apply Kept.drew | refine Kept.setCell ?_ (.inr GW38001.out) _) | exact HK.out)) : P := h
theorem za23 {P : Prop} (h : P := by first | omega | exact Nat.le_refl _) : P := h
theorem za24 {P : Prop} (h : P := by have := HW.out; have := N3.out; omega) : P := h
theorem za25 {P : Prop} (h : P := by (with_reducible repeat (first | refine blk_drewN ?_ _ | refine blk_drew ?_ | refine blk_alloc ?_ _)); refine blk_far ?_ NB120002_120003.out _; (with_reducible repeat (first | refine blk_drewN ?_ _ | refine blk_drew ?_ | refine blk_alloc ?_ _)); refine blk_far ?_ NB120002_120003.out _; (with_reducible repeat (first | refine blk_drewN ?_ _ | refine blk_drew ?_ | refine blk_alloc ?_ _)); exact BK120002.out) : P := h
theorem za26 {P : Prop} (h : P := by repeat (first | (with_reducible first | exact HB.out | apply below_alloc | apply pw_below_drewN | apply below_drew1) | exact HB.out)) : P := h
theorem za27 {P : Prop} (h : P := by have := HJ1.out; first | omega | exact Nat.le_refl _) : P := h
theorem za28 {P : Prop} (h : P := by first | rfl | (rw [e1]; done) | (rw [e2]; done) | (simp; done)) : P := h
theorem za29 {P : Prop} (h : P := by rw [← add_field _ _ 2 (by omega)]; exact hc 2 _ rfl) : P := h
theorem za30 {P : Prop} (h : P := by rw [← add_field _ _ 1 (by omega)]; exact hc 1 _ rfl) : P := h
theorem za31 {P : Prop} (h : P := by rw [e id (Nat.le_refl _) (by omega)]; exact h.1 i j) : P := h
theorem za32 {P : Prop} (h : P := by rw [bytesOf_length]; omega) : P := h
theorem za33 {P : Prop} (h : P := by repeat (first | exact HK.out | apply Kept.alloc | apply Kept.drewN | apply Kept.drew)) : P := h
theorem za34 {P : Prop} (h : P := by have := HK1.out; have := HK2.out; have := HK3.out; omega) : P := h
theorem za35 {P : Prop} (h : P := by have := HJ2.out; have := HJ8.out; have := HK3.out; omega) : P := h
theorem za36 {P : Prop} (h : P := by have := HQ.out; omega) : P := h
theorem za37 {P : Prop} (h : P := by have := UP1.out; have := H1.out; have := LE.out; omega) : P := h
theorem za38 {P : Prop} (h : P := by repeat (first | exact B3.out | apply pw_below_drewN)) : P := h
theorem za39 {P : Prop} (h : P := by have := HK2.out; omega) : P := h
theorem za40 {P : Prop} (h : P := by have := G3.out; have := N3.out; omega) : P := h
theorem za41 {P : Prop} (h : P := by first | exact Kd.R_nil _ _ _ _ _ | exact Kd.N_nil _ _ _ _ _ | exact Kd.V_nil _ _ _ _ _ | exact Kd.Q_nil _ _ _ _ _ | exact Kd.S_nil _ _ _ _ _) : P := h
theorem za42 {P : Prop} (h : P := by first | rfl | (simp; done)) : P := h
theorem zr0 {P : Prop} (h : P := by first | with_reducible rfl | (rw [if_neg (by omega)]; done) | (rw [if_neg za5]; done)) : P := h
theorem zr1 {P : Prop} (h : P := by first | with_reducible rfl | (rw [if_neg (by omega)]; done)) : P := h
end Go.Proofs.YtffjfdoghofkdaaGreat
namespace Go.Proofs.YtffjfdoghofkdaaGreat.Ext
open Go.RowKit YtffjfdoghofkdaaGreatW.PrintWords
theorem blk1 {w:World} {g:Nat} {t:TypeId} {a0:Value} (h:w.heap[g]? = some (.cells #[a0] t (0,0))):w.cell? ⟨g,0,none⟩=some a0∧w.frozen? ⟨g,0,none⟩=false:=⟨(blk_cell h 0).trans rfl,blk_frozen h 0⟩
theorem blk3 {w:World} {g:Nat} {t:TypeId} {a0 a1 a2:Value} (h:w.heap[g]? = some (.cells #[a0,a1,a2] t (0,0))):w.cell? ⟨g,0,none⟩=some a0∧w.cell? ⟨g,1,none⟩=some a1∧w.cell? ⟨g,2,none⟩=some a2∧w.frozen? ⟨g,0,none⟩=false∧w.frozen? ⟨g,1,none⟩=false∧w.frozen? ⟨g,2,none⟩=false:=⟨(blk_cell h 0).trans rfl,(blk_cell h 1).trans rfl,(blk_cell h 2).trans rfl,blk_frozen h 0,blk_frozen h 1,blk_frozen h 2⟩
theorem blk4 {w:World} {g:Nat} {t:TypeId} {a0 a1 a2 a3:Value} (h:w.heap[g]? = some (.cells #[a0,a1,a2,a3] t (0,0))):w.cell? ⟨g,0,none⟩=some a0∧w.cell? ⟨g,1,none⟩=some a1∧w.cell? ⟨g,2,none⟩=some a2∧w.cell? ⟨g,3,none⟩=some a3∧w.frozen? ⟨g,0,none⟩=false∧w.frozen? ⟨g,1,none⟩=false∧w.frozen? ⟨g,2,none⟩=false∧w.frozen? ⟨g,3,none⟩=false:=⟨(blk_cell h 0).trans rfl,(blk_cell h 1).trans rfl,(blk_cell h 2).trans rfl,(blk_cell h 3).trans rfl,blk_frozen h 0,blk_frozen h 1,blk_frozen h 2,blk_frozen h 3⟩
theorem blk8 {w:World} {g:Nat} {t:TypeId} {a0 a1 a2 a3 a4 a5 a6 a7:Value} (h:w.heap[g]? = some (.cells #[a0,a1,a2,a3,a4,a5,a6,a7] t (0,0))):w.cell? ⟨g,0,none⟩=some a0∧w.cell? ⟨g,1,none⟩=some a1∧w.cell? ⟨g,2,none⟩=some a2∧w.cell? ⟨g,3,none⟩=some a3∧w.cell? ⟨g,4,none⟩=some a4∧w.cell? ⟨g,5,none⟩=some a5∧w.cell? ⟨g,6,none⟩=some a6∧w.cell? ⟨g,7,none⟩=some a7∧w.frozen? ⟨g,0,none⟩=false∧w.frozen? ⟨g,1,none⟩=false∧w.frozen? ⟨g,2,none⟩=false∧w.frozen? ⟨g,3,none⟩=false∧w.frozen? ⟨g,4,none⟩=false∧w.frozen? ⟨g,5,none⟩=false∧w.frozen? ⟨g,6,none⟩=false∧w.frozen? ⟨g,7,none⟩=false:=⟨(blk_cell h 0).trans rfl,(blk_cell h 1).trans rfl,(blk_cell h 2).trans rfl,(blk_cell h 3).trans rfl,(blk_cell h 4).trans rfl,(blk_cell h 5).trans rfl,(blk_cell h 6).trans rfl,(blk_cell h 7).trans rfl,blk_frozen h 0,blk_frozen h 1,blk_frozen h 2,blk_frozen h 3,blk_frozen h 4,blk_frozen h 5,blk_frozen h 6,blk_frozen h 7⟩
-- EXT strings.IndexByte
def strings_IndexByte.f (s:ByteArray) (c:Int):Option Int:=some (Lib.indexByte s.data.toList c.toNat.toUInt8)
theorem stringslite_run (s:ByteArray) (c:Int) (w:World) :
  Calls Tryz.prog 103 #[.string s,.int .u8 c] w fun e w'=>e = .returned (.int .i64 (Lib.indexByte s.data.toList c.toNat.toUInt8))∧w'=w:=by
 go_enter Tryz.func103,Tryz.ntmps103
 go_wp2
 rw [run_callFunc_extern Tryz.func131 (by kernel_rfl) (by kernel_rfl) (by kernel_rfl) (e:=Extern.BytealgIndexByte.indexByte) (by kernel_rfl),Lib.run_indexByteString]
 simp only [Result.andThen]
 rw [Oper.upon_value]
 go_wp2
 go_ret
 exact ⟨rfl,rfl⟩
theorem strings_IndexByte.calls (s:ByteArray) (c:Int) (r:Int) (w:World) (h:strings_IndexByte.f s c=some r) :
  Calls Tryz.prog 75 #[.string s,.int .u8 c] w fun e w'=>e = .returned (.int .i64 r)∧Drawn0 w w':=by
 obtain rfl:=zi h
 go_enter Tryz.func75,Tryz.ntmps75
 go_wp2_with (go_at_call 103;refine (stringslite_run _ _ _).mono ?_;rintro e w' ⟨rfl,rfl⟩)
 go_ret
 exact ⟨rfl,Drawn0.refl _⟩
end Go.Proofs.YtffjfdoghofkdaaGreat.Ext
namespace Go.Proofs.YtffjfdoghofkdaaGreat.A
open Go.RowKit YtffjfdoghofkdaaGreat.Ext YtffjfdoghofkdaaGreatW.PrintWords YtffjfdoghofkdaaGreatW.PrintLast YtffjfdoghofkdaaGreatW.PrintMore
attribute [local go_sem] max2_int min2_int max_two min_two max_three min_three max_four min_four
def errW:Option Int→Value
 | none => .nilIface
 | some c => .iface 0 (.int .i64 c)
theorem errW_none:errW none = .nilIface:=rfl
theorem errW_some (c:Int):errW (some c) = .iface 0 (.int .i64 c):=rfl
theorem info3:(Tryz.prog.info? 3).map (fun i=>(i.zero,i.size,i.bytes))=some (some (.int .i64 0),1,8):=by kernel_rfl
theorem info5:(Tryz.prog.info? 5).map (fun i=>(i.zero,i.size,i.bytes))=some (some (.int .u8 0),1,1):=by kernel_rfl
theorem info9:(Tryz.prog.info? 9).map (fun i=>(i.zero,i.size,i.bytes))=some (some (.string ⟨#[]⟩),1,16):=by kernel_rfl
theorem info32:(Tryz.prog.info? 32).map (fun i=>(i.zero,i.size,i.bytes))=some (some (.agg #[(.string ⟨#[]⟩),(.string ⟨#[]⟩),(.string ⟨#[]⟩)]),3,48):=by kernel_rfl
theorem info65:(Tryz.prog.info? 65).map (fun i=>(i.zero,i.size,i.bytes))=some (some (.agg #[(.int .i64 0),(.string ⟨#[]⟩),(.slice none 0 0)]),3,48):=by kernel_rfl
theorem info67:(Tryz.prog.info? 67).map (fun i=>(i.zero,i.size,i.bytes))=some (some (.agg #[(.int .i64 0),(.string ⟨#[]⟩),(.string ⟨#[]⟩),(.int .i64 0),(.string ⟨#[]⟩),(.slice none 0 0),(.slice none 0 0),(.int .i64 0)]),8,120):=by kernel_rfl
-- the values' own types
/-! #### struct type 65, nested in itself -/
structure S65 where
 f0:Int
 f1:ByteArray
 f2:(List S65)
def z65:S65:=⟨(0:Int),(⟨#[]⟩:ByteArray),([]:List S65)⟩
def F65 (d:Kd S65):Kd S65:=Kd.iso (Kd.pair (Kd.int .i64) (Kd.pair Kd.string (Kd.slice 65 d))) (fun x:S65=>(x.f0,x.f1,x.f2))
theorem mono65:Kd.Mono F65:=Kd.mono_iso _ (Kd.mono_pair (Kd.mono_const _) (Kd.mono_pair (Kd.mono_const _) (Kd.mono_slice 65 Kd.mono_id)))
theorem sub65:Kd.Sub F65 [65]:=Kd.sub_iso _ (Kd.sub_pair (Kd.sub_const _ (by decide)) (Kd.sub_pair (Kd.sub_const _ (by decide)) (Kd.sub_slice 65 (by decide) Kd.sub_id)))
theorem sz65:∀ n,(Kd.upto F65 3 [65] n).sz=3:=Kd.upto_sz (fun _=>rfl)
def k65:Kd S65:=Kd.fix F65 3 [65] sz65 (Kd.upto_E sub65)
theorem k65_heap:Kd.Heap k65:=Kd.heap_fix (fun _ h_=>Kd.heap_iso _ (Kd.heap_pair (Kd.heap_int .i64) (Kd.heap_pair Kd.heap_string (Kd.heap_slice 65 h_))))
theorem k65_open {w:World} {x:S65} {cs:List Value} (h:k65.K w x cs):∃ A2 c2,cs = [.int .i64 x.f0,.string x.f1,.slice A2 x.f2.length c2]∧x.f2.length≤c2∧k65.C w A2 x.f2.length x.f2:=by
 obtain ⟨n,h⟩:=h
 cases n with
 | zero=>exact h.elim
 | succ n =>
  obtain ⟨_,_,rfl,rfl,⟨_,_,rfl,rfl,⟨A2,c2,rfl,l2,g2⟩⟩⟩:=h
  exact ⟨A2,c2,rfl,l2,Kd.fix_C g2⟩
theorem k65_openM {w:World} {base:Nat} {ok:Nat→Prop} {x:S65} {cs:List Value} (h:k65.M w base ok x cs):∃ v2,cs = [.int .i64 x.f0,.string x.f1,v2]∧k65.R 65 w base ok v2 x.f2:=by
 obtain ⟨n,h⟩:=h
 cases n with
 | zero=>exact h.elim
 | succ n =>
  obtain ⟨_,_,rfl,rfl,⟨_,_,rfl,rfl,⟨v2,rfl,g2⟩⟩⟩:=h
  exact ⟨v2,rfl,Kd.fix_R g2⟩
theorem k65_mk (w:World) (x:S65) {A2:Option Addr} {c2:Nat} (l2:x.f2.length≤c2) (g2:k65.C w A2 x.f2.length x.f2):k65.K w x [.int .i64 x.f0,.string x.f1,.slice A2 x.f2.length c2]:=by
 obtain ⟨n2,q2⟩:=Kd.fix_C_back mono65 g2
 have r2:=Kd.upto_C_le mono65 sz65 (show n2≤n2 by omega) q2
 exact ⟨n2+1,⟨[.int .i64 x.f0],[.string x.f1,.slice A2 x.f2.length c2],rfl,rfl,⟨[.string x.f1],[.slice A2 x.f2.length c2],rfl,rfl,⟨A2,c2,rfl,l2,r2⟩⟩⟩⟩
theorem k65_mkM (w:World) (base:Nat) (ok:Nat→Prop) (x:S65) {v2:Value} (g2:k65.R 65 w base ok v2 x.f2):k65.M w base ok x [.int .i64 x.f0,.string x.f1,v2]:=by
 obtain ⟨n2,q2⟩:=Kd.fix_R_back mono65 g2
 have r2:=Kd.upto_R_le mono65 sz65 (show n2≤n2 by omega) q2
 exact ⟨n2+1,⟨[.int .i64 x.f0],[.string x.f1,v2],rfl,rfl,⟨[.string x.f1],[v2],rfl,rfl,⟨v2,rfl,r2⟩⟩⟩⟩
theorem k65_openF {W:World} {ok:Nat→Prop} {x:S65} {cs:List Value} (h:Kd.FK k65 W ok x cs):∃ A2 c2,cs = [.int .i64 x.f0,.string x.f1,.slice A2 x.f2.length c2]∧x.f2.length≤c2∧Kd.F k65 W ok A2 x.f2.length x.f2:=by
 obtain ⟨A2,c2,rfl,l2,_⟩:=k65_open (Kd.FK_now h)
 exact ⟨A2,c2,rfl,l2,(fun W' hW=>by obtain ⟨A2_,c2_,he,l2_,g2_⟩:=k65_open (h W' hW);injection (zi (show some (Value.slice A2 x.f2.length c2)=some (Value.slice A2_ x.f2.length c2_) from congrArg (fun l=>l[2]?) he)) with ha_ _ _;rw [ha_];exact g2_)⟩
theorem k65_mkF (W:World) (ok:Nat→Prop) (x:S65) {A2:Option Addr} {c2:Nat} (l2:x.f2.length≤c2) (g2:Kd.F k65 W ok A2 x.f2.length x.f2):Kd.FK k65 W ok x [.int .i64 x.f0,.string x.f1,.slice A2 x.f2.length c2]:=fun W2 hW=>k65_mk W2 x l2 (g2 W2 hW)
def rd_T65 (xs:List S65) (i:Int):S65:=xs.getD i.toNat z65
theorem at_T65 {w:World} {A:Option Addr} {n:Nat} {xs:List S65} (h:Kd.C k65 w A n xs) (i:Int) (h0:0≤i) (h1:i < n):∃ ad A2 c2,A=some ad∧w.cell? (ad.add (i.toNat * 3))=some (.int .i64 (rd_T65 xs i).f0)∧w.cell? ⟨(ad.add (i.toNat * 3)).block,(ad.add (i.toNat * 3)).off+1,none⟩=some (.string (rd_T65 xs i).f1)∧w.cell? ⟨(ad.add (i.toNat * 3)).block,(ad.add (i.toNat * 3)).off+2,none⟩=some (.slice A2 (rd_T65 xs i).f2.length c2)∧(rd_T65 xs i).f2.length≤c2∧k65.C w A2 (rd_T65 xs i).f2.length (rd_T65 xs i).f2:=by
 obtain ⟨ad,c,e,_,hK,hc0⟩:=Kd.C_get h z65 i h0 h1
 have hc:∀ j u,c[j]? = some u→w.cell? (ad.add (i.toNat * 3+j))=some u:=hc0
 obtain ⟨A2,c2,rfl,l2,g2⟩:=k65_open hK
 exact ⟨ad,A2,c2,e,hc 0 _ rfl,za30,za29,l2,g2⟩
def rd_L3 (xs:List (List Int)) (i:Int):(List Int):=xs.getD i.toNat ([]:List Int)
theorem at_L3 {w:World} {A:Option Addr} {n:Nat} {xs:List (List Int)} (h:Kd.C (Kd.slice 3 (Kd.int .i64)) w A n xs) (i:Int) (h0:0≤i) (h1:i < n):∃ ad A0 c0,A=some ad∧w.cell? (ad.add i.toNat)=some (.slice A0 (rd_L3 xs i).length c0)∧(rd_L3 xs i).length≤c0∧(Kd.int .i64).C w A0 (rd_L3 xs i).length (rd_L3 xs i):=by
 obtain ⟨ad,c,e,_,hK,hc0⟩:=Kd.C_get h ([]:List Int) i h0 h1
 have hc:∀ j u,c[j]? = some u→w.cell? (ad.add (i.toNat * 1+j))=some u:=hc0
 obtain ⟨A0,c0,rfl,l0,g0⟩:=hK
 exact ⟨ad,A0,c0,e,by have hq:=hc 0 _ rfl;rwa [Nat.mul_one,Nat.add_zero] at hq,l0,g0⟩
/-! #### struct type 67 -/
structure S67 where
 f0:Int
 f1:ByteArray
 f2:ByteArray
 f3:S65
 f4:(List Int)
 f5:Int
def z67:S67:=⟨(0:Int),(⟨#[]⟩:ByteArray),(⟨#[]⟩:ByteArray),z65,([]:List Int),(0:Int)⟩
def k67:Kd S67:=Kd.iso (Kd.pair (Kd.int .i64) (Kd.pair Kd.string (Kd.pair Kd.string (Kd.pair k65 (Kd.pair (Kd.slice 3 (Kd.int .i64)) (Kd.int .i64)))))) (fun x:S67=>(x.f0,x.f1,x.f2,x.f3,x.f4,x.f5))
theorem k67_heap:Kd.Heap k67:=Kd.heap_iso _ (Kd.heap_pair (Kd.heap_int .i64) (Kd.heap_pair Kd.heap_string (Kd.heap_pair Kd.heap_string (Kd.heap_pair k65_heap (Kd.heap_pair (Kd.heap_slice 3 (Kd.heap_int .i64)) (Kd.heap_int .i64))))))
theorem k67_open {w:World} {x:S67} {cs:List Value} (h:k67.K w x cs):∃ A5 c5 A6 c6,cs = [.int .i64 x.f0,.string x.f1,.string x.f2,.int .i64 x.f3.f0,.string x.f3.f1,.slice A5 x.f3.f2.length c5,.slice A6 x.f4.length c6,.int .i64 x.f5]∧x.f3.f2.length≤c5∧k65.C w A5 x.f3.f2.length x.f3.f2∧x.f4.length≤c6∧(Kd.int .i64).C w A6 x.f4.length x.f4:=by
 obtain ⟨_,_,rfl,rfl,⟨_,_,rfl,rfl,⟨_,_,rfl,rfl,⟨_,_,rfl,s3,⟨_,_,rfl,⟨A6,c6,rfl,l6,g6⟩,rfl⟩⟩⟩⟩⟩:=h
 obtain ⟨A5,c5,rfl,l5,g5⟩:=k65_open s3
 exact ⟨A5,c5,A6,c6,rfl,l5,g5,l6,g6⟩
theorem k67_openM {w:World} {base:Nat} {ok:Nat→Prop} {x:S67} {cs:List Value} (h:k67.M w base ok x cs):∃ v5 v6,cs = [.int .i64 x.f0,.string x.f1,.string x.f2,.int .i64 x.f3.f0,.string x.f3.f1,v5,v6,.int .i64 x.f5]∧k65.R 65 w base ok v5 x.f3.f2∧(Kd.int .i64).R 3 w base ok v6 x.f4:=by
 obtain ⟨_,_,rfl,rfl,⟨_,_,rfl,rfl,⟨_,_,rfl,rfl,⟨_,_,rfl,s3,⟨_,_,rfl,⟨v6,rfl,g6⟩,rfl⟩⟩⟩⟩⟩:=h
 obtain ⟨v5,rfl,g5⟩:=k65_openM s3
 exact ⟨v5,v6,rfl,g5,g6⟩
theorem k67_mk (w:World) (x:S67) {A5:Option Addr} {c5:Nat} (l5:x.f3.f2.length≤c5) (g5:k65.C w A5 x.f3.f2.length x.f3.f2) {A6:Option Addr} {c6:Nat} (l6:x.f4.length≤c6) (g6:(Kd.int .i64).C w A6 x.f4.length x.f4):k67.K w x [.int .i64 x.f0,.string x.f1,.string x.f2,.int .i64 x.f3.f0,.string x.f3.f1,.slice A5 x.f3.f2.length c5,.slice A6 x.f4.length c6,.int .i64 x.f5]:=⟨[.int .i64 x.f0],[.string x.f1,.string x.f2,.int .i64 x.f3.f0,.string x.f3.f1,.slice A5 x.f3.f2.length c5,.slice A6 x.f4.length c6,.int .i64 x.f5],rfl,rfl,⟨[.string x.f1],[.string x.f2,.int .i64 x.f3.f0,.string x.f3.f1,.slice A5 x.f3.f2.length c5,.slice A6 x.f4.length c6,.int .i64 x.f5],rfl,rfl,⟨[.string x.f2],[.int .i64 x.f3.f0,.string x.f3.f1,.slice A5 x.f3.f2.length c5,.slice A6 x.f4.length c6,.int .i64 x.f5],rfl,rfl,⟨[.int .i64 x.f3.f0,.string x.f3.f1,.slice A5 x.f3.f2.length c5],[.slice A6 x.f4.length c6,.int .i64 x.f5],rfl,(k65_mk w x.f3 l5 g5),⟨[.slice A6 x.f4.length c6],[.int .i64 x.f5],rfl,⟨A6,c6,rfl,l6,g6⟩,rfl⟩⟩⟩⟩⟩
theorem k67_mkM (w:World) (base:Nat) (ok:Nat→Prop) (x:S67) {v5:Value} (g5:k65.R 65 w base ok v5 x.f3.f2) {v6:Value} (g6:(Kd.int .i64).R 3 w base ok v6 x.f4):k67.M w base ok x [.int .i64 x.f0,.string x.f1,.string x.f2,.int .i64 x.f3.f0,.string x.f3.f1,v5,v6,.int .i64 x.f5]:=⟨[.int .i64 x.f0],[.string x.f1,.string x.f2,.int .i64 x.f3.f0,.string x.f3.f1,v5,v6,.int .i64 x.f5],rfl,rfl,⟨[.string x.f1],[.string x.f2,.int .i64 x.f3.f0,.string x.f3.f1,v5,v6,.int .i64 x.f5],rfl,rfl,⟨[.string x.f2],[.int .i64 x.f3.f0,.string x.f3.f1,v5,v6,.int .i64 x.f5],rfl,rfl,⟨[.int .i64 x.f3.f0,.string x.f3.f1,v5],[v6,.int .i64 x.f5],rfl,(k65_mkM w base ok x.f3 g5),⟨[v6],[.int .i64 x.f5],rfl,⟨v6,rfl,g6⟩,rfl⟩⟩⟩⟩⟩
theorem k67_openF {W:World} {ok:Nat→Prop} {x:S67} {cs:List Value} (h:Kd.FK k67 W ok x cs):∃ A5 c5 A6 c6,cs = [.int .i64 x.f0,.string x.f1,.string x.f2,.int .i64 x.f3.f0,.string x.f3.f1,.slice A5 x.f3.f2.length c5,.slice A6 x.f4.length c6,.int .i64 x.f5]∧x.f3.f2.length≤c5∧Kd.F k65 W ok A5 x.f3.f2.length x.f3.f2∧x.f4.length≤c6∧Kd.F (Kd.int .i64) W ok A6 x.f4.length x.f4:=by
 obtain ⟨A5,c5,A6,c6,rfl,l5,_,l6,_⟩:=k67_open (Kd.FK_now h)
 exact ⟨A5,c5,A6,c6,rfl,l5,(fun W' hW=>by obtain ⟨A5_,c5_,A6_,c6_,he,l5_,g5_,l6_,g6_⟩:=k67_open (h W' hW);injection (zi (show some (Value.slice A5 x.f3.f2.length c5)=some (Value.slice A5_ x.f3.f2.length c5_) from congrArg (fun l=>l[5]?) he)) with ha_ _ _;rw [ha_];exact g5_),l6,(fun W' hW=>by obtain ⟨A5_,c5_,A6_,c6_,he,l5_,g5_,l6_,g6_⟩:=k67_open (h W' hW);injection (zi (show some (Value.slice A6 x.f4.length c6)=some (Value.slice A6_ x.f4.length c6_) from congrArg (fun l=>l[6]?) he)) with ha_ _ _;rw [ha_];exact g6_)⟩
theorem k67_mkF (W:World) (ok:Nat→Prop) (x:S67) {A5:Option Addr} {c5:Nat} (l5:x.f3.f2.length≤c5) (g5:Kd.F k65 W ok A5 x.f3.f2.length x.f3.f2) {A6:Option Addr} {c6:Nat} (l6:x.f4.length≤c6) (g6:Kd.F (Kd.int .i64) W ok A6 x.f4.length x.f4):Kd.FK k67 W ok x [.int .i64 x.f0,.string x.f1,.string x.f2,.int .i64 x.f3.f0,.string x.f3.f1,.slice A5 x.f3.f2.length c5,.slice A6 x.f4.length c6,.int .i64 x.f5]:=fun W2 hW=>k67_mk W2 x l5 (g5 W2 hW) l6 (g6 W2 hW)
def rd_T67 (xs:List S67) (i:Int):S67:=xs.getD i.toNat z67
theorem at_T67 {w:World} {A:Option Addr} {n:Nat} {xs:List S67} (h:Kd.C k67 w A n xs) (i:Int) (h0:0≤i) (h1:i < n):∃ ad A5 c5 A6 c6,A=some ad∧w.cell? (ad.add (i.toNat * 8))=some (.int .i64 (rd_T67 xs i).f0)∧w.cell? ⟨(ad.add (i.toNat * 8)).block,(ad.add (i.toNat * 8)).off+1,none⟩=some (.string (rd_T67 xs i).f1)∧w.cell? ⟨(ad.add (i.toNat * 8)).block,(ad.add (i.toNat * 8)).off+2,none⟩=some (.string (rd_T67 xs i).f2)∧w.cell? ⟨(ad.add (i.toNat * 8)).block,(ad.add (i.toNat * 8)).off+3,none⟩=some (.int .i64 (rd_T67 xs i).f3.f0)∧w.cell? ⟨(ad.add (i.toNat * 8)).block,(ad.add (i.toNat * 8)).off+4,none⟩=some (.string (rd_T67 xs i).f3.f1)∧w.cell? ⟨(ad.add (i.toNat * 8)).block,(ad.add (i.toNat * 8)).off+5,none⟩=some (.slice A5 (rd_T67 xs i).f3.f2.length c5)∧w.cell? ⟨(ad.add (i.toNat * 8)).block,(ad.add (i.toNat * 8)).off+6,none⟩=some (.slice A6 (rd_T67 xs i).f4.length c6)∧w.cell? ⟨(ad.add (i.toNat * 8)).block,(ad.add (i.toNat * 8)).off+7,none⟩=some (.int .i64 (rd_T67 xs i).f5)∧(rd_T67 xs i).f3.f2.length≤c5∧k65.C w A5 (rd_T67 xs i).f3.f2.length (rd_T67 xs i).f3.f2∧(rd_T67 xs i).f4.length≤c6∧(Kd.int .i64).C w A6 (rd_T67 xs i).f4.length (rd_T67 xs i).f4:=by
 obtain ⟨ad,c,e,_,hK,hc0⟩:=Kd.C_get h z67 i h0 h1
 have hc:∀ j u,c[j]? = some u→w.cell? (ad.add (i.toNat * 8+j))=some u:=hc0
 obtain ⟨A5,c5,A6,c6,rfl,l5,g5,l6,g6⟩:=k67_open hK
 exact ⟨ad,A5,c5,A6,c6,e,hc 0 _ rfl,za30,za29,by rw [← add_field _ _ 3 (by omega)];exact hc 3 _ rfl,by rw [← add_field _ _ 4 (by omega)];exact hc 4 _ rfl,by rw [← add_field _ _ 5 (by omega)];exact hc 5 _ rfl,by rw [← add_field _ _ 6 (by omega)];exact hc 6 _ rfl,by rw [← add_field _ _ 7 (by omega)];exact hc 7 _ rfl,l5,g5,l6,g6⟩
def rd_L5 (xs:List (List (List Int))) (i:Int):(List (List Int)):=xs.getD i.toNat ([]:List (List Int))
theorem at_L5 {w:World} {A:Option Addr} {n:Nat} {xs:List (List (List Int))} (h:Kd.C (Kd.slice 59 (Kd.slice 3 (Kd.int .i64))) w A n xs) (i:Int) (h0:0≤i) (h1:i < n):∃ ad A0 c0,A=some ad∧w.cell? (ad.add i.toNat)=some (.slice A0 (rd_L5 xs i).length c0)∧(rd_L5 xs i).length≤c0∧(Kd.slice 3 (Kd.int .i64)).C w A0 (rd_L5 xs i).length (rd_L5 xs i):=by
 obtain ⟨ad,c,e,_,hK,hc0⟩:=Kd.C_get h ([]:List (List Int)) i h0 h1
 have hc:∀ j u,c[j]? = some u→w.cell? (ad.add (i.toNat * 1+j))=some u:=hc0
 obtain ⟨A0,c0,rfl,l0,g0⟩:=hK
 exact ⟨ad,A0,c0,e,by have hq:=hc 0 _ rfl;rwa [Nat.mul_one,Nat.add_zero] at hq,l0,g0⟩
/-! #### struct type 32 -/
structure S32 where
 f0:ByteArray
 f1:ByteArray
 f2:ByteArray
def z32:S32:=⟨(⟨#[]⟩:ByteArray),(⟨#[]⟩:ByteArray),(⟨#[]⟩:ByteArray)⟩
def k32:Kd S32:=Kd.iso (Kd.pair Kd.string (Kd.pair Kd.string Kd.string)) (fun x:S32=>(x.f0,x.f1,x.f2))
theorem k32_heap:Kd.Heap k32:=Kd.heap_iso _ (Kd.heap_pair Kd.heap_string (Kd.heap_pair Kd.heap_string Kd.heap_string))
theorem k32_open {w:World} {x:S32} {cs:List Value} (h:k32.K w x cs):cs = [.string x.f0,.string x.f1,.string x.f2]:=by
 obtain ⟨_,_,rfl,rfl,⟨_,_,rfl,rfl,rfl⟩⟩:=h
 exact rfl
theorem k32_openM {w:World} {base:Nat} {ok:Nat→Prop} {x:S32} {cs:List Value} (h:k32.M w base ok x cs):cs = [.string x.f0,.string x.f1,.string x.f2]:=by
 obtain ⟨_,_,rfl,rfl,⟨_,_,rfl,rfl,rfl⟩⟩:=h
 exact rfl
theorem k32_mk (w:World) (x:S32)  : k32.K w x [.string x.f0,.string x.f1,.string x.f2]:=⟨[.string x.f0],[.string x.f1,.string x.f2],rfl,rfl,⟨[.string x.f1],[.string x.f2],rfl,rfl,rfl⟩⟩
theorem k32_mkM (w:World) (base:Nat) (ok:Nat→Prop) (x:S32)  : k32.M w base ok x [.string x.f0,.string x.f1,.string x.f2]:=⟨[.string x.f0],[.string x.f1,.string x.f2],rfl,rfl,⟨[.string x.f1],[.string x.f2],rfl,rfl,rfl⟩⟩
theorem k32_mkF (W:World) (ok:Nat→Prop) (x:S32):Kd.FK k32 W ok x [.string x.f0,.string x.f1,.string x.f2]:=fun W2 _=>k32_mk W2 x
def rd_T32 (xs:List S32) (i:Int):S32:=xs.getD i.toNat z32
theorem at_T32 {w:World} {A:Option Addr} {n:Nat} {xs:List S32} (h:Kd.C k32 w A n xs) (i:Int) (h0:0≤i) (h1:i < n):∃ ad ,A=some ad∧w.cell? (ad.add (i.toNat * 3))=some (.string (rd_T32 xs i).f0)∧w.cell? ⟨(ad.add (i.toNat * 3)).block,(ad.add (i.toNat * 3)).off+1,none⟩=some (.string (rd_T32 xs i).f1)∧w.cell? ⟨(ad.add (i.toNat * 3)).block,(ad.add (i.toNat * 3)).off+2,none⟩=some (.string (rd_T32 xs i).f2):=by
 obtain ⟨ad,c,e,_,hK,hc0⟩:=Kd.C_get h z32 i h0 h1
 have hc:∀ j u,c[j]? = some u→w.cell? (ad.add (i.toNat * 3+j))=some u:=hc0
 obtain rfl:=k32_open hK
 exact ⟨ad,e,hc 0 _ rfl,za30,za29⟩
/-! #### struct type 101, nested in itself -/
structure S101 where
 f0:Int
 f1:ByteArray
 f2:(List S101)
def z101:S101:=⟨(0:Int),(⟨#[]⟩:ByteArray),([]:List S101)⟩
def F101 (d:Kd S101):Kd S101:=Kd.iso (Kd.pair (Kd.int .i64) (Kd.pair Kd.string (Kd.slice 101 d))) (fun x:S101=>(x.f0,x.f1,x.f2))
theorem mono101:Kd.Mono F101:=Kd.mono_iso _ (Kd.mono_pair (Kd.mono_const _) (Kd.mono_pair (Kd.mono_const _) (Kd.mono_slice 101 Kd.mono_id)))
theorem sub101:Kd.Sub F101 [101]:=Kd.sub_iso _ (Kd.sub_pair (Kd.sub_const _ (by decide)) (Kd.sub_pair (Kd.sub_const _ (by decide)) (Kd.sub_slice 101 (by decide) Kd.sub_id)))
theorem sz101:∀ n,(Kd.upto F101 3 [101] n).sz=3:=Kd.upto_sz (fun _=>rfl)
def k101:Kd S101:=Kd.fix F101 3 [101] sz101 (Kd.upto_E sub101)
theorem k101_heap:Kd.Heap k101:=Kd.heap_fix (fun _ h_=>Kd.heap_iso _ (Kd.heap_pair (Kd.heap_int .i64) (Kd.heap_pair Kd.heap_string (Kd.heap_slice 101 h_))))
theorem k101_open {w:World} {x:S101} {cs:List Value} (h:k101.K w x cs):∃ A2 c2,cs = [.int .i64 x.f0,.string x.f1,.slice A2 x.f2.length c2]∧x.f2.length≤c2∧k101.C w A2 x.f2.length x.f2:=by
 obtain ⟨n,h⟩:=h
 cases n with
 | zero=>exact h.elim
 | succ n =>
  obtain ⟨_,_,rfl,rfl,⟨_,_,rfl,rfl,⟨A2,c2,rfl,l2,g2⟩⟩⟩:=h
  exact ⟨A2,c2,rfl,l2,Kd.fix_C g2⟩
theorem k101_openM {w:World} {base:Nat} {ok:Nat→Prop} {x:S101} {cs:List Value} (h:k101.M w base ok x cs):∃ v2,cs = [.int .i64 x.f0,.string x.f1,v2]∧k101.R 101 w base ok v2 x.f2:=by
 obtain ⟨n,h⟩:=h
 cases n with
 | zero=>exact h.elim
 | succ n =>
  obtain ⟨_,_,rfl,rfl,⟨_,_,rfl,rfl,⟨v2,rfl,g2⟩⟩⟩:=h
  exact ⟨v2,rfl,Kd.fix_R g2⟩
theorem k101_mk (w:World) (x:S101) {A2:Option Addr} {c2:Nat} (l2:x.f2.length≤c2) (g2:k101.C w A2 x.f2.length x.f2):k101.K w x [.int .i64 x.f0,.string x.f1,.slice A2 x.f2.length c2]:=by
 obtain ⟨n2,q2⟩:=Kd.fix_C_back mono101 g2
 have r2:=Kd.upto_C_le mono101 sz101 (show n2≤n2 by omega) q2
 exact ⟨n2+1,⟨[.int .i64 x.f0],[.string x.f1,.slice A2 x.f2.length c2],rfl,rfl,⟨[.string x.f1],[.slice A2 x.f2.length c2],rfl,rfl,⟨A2,c2,rfl,l2,r2⟩⟩⟩⟩
theorem k101_mkM (w:World) (base:Nat) (ok:Nat→Prop) (x:S101) {v2:Value} (g2:k101.R 101 w base ok v2 x.f2):k101.M w base ok x [.int .i64 x.f0,.string x.f1,v2]:=by
 obtain ⟨n2,q2⟩:=Kd.fix_R_back mono101 g2
 have r2:=Kd.upto_R_le mono101 sz101 (show n2≤n2 by omega) q2
 exact ⟨n2+1,⟨[.int .i64 x.f0],[.string x.f1,v2],rfl,rfl,⟨[.string x.f1],[v2],rfl,rfl,⟨v2,rfl,r2⟩⟩⟩⟩
theorem k101_openF {W:World} {ok:Nat→Prop} {x:S101} {cs:List Value} (h:Kd.FK k101 W ok x cs):∃ A2 c2,cs = [.int .i64 x.f0,.string x.f1,.slice A2 x.f2.length c2]∧x.f2.length≤c2∧Kd.F k101 W ok A2 x.f2.length x.f2:=by
 obtain ⟨A2,c2,rfl,l2,_⟩:=k101_open (Kd.FK_now h)
 exact ⟨A2,c2,rfl,l2,(fun W' hW=>by obtain ⟨A2_,c2_,he,l2_,g2_⟩:=k101_open (h W' hW);injection (zi (show some (Value.slice A2 x.f2.length c2)=some (Value.slice A2_ x.f2.length c2_) from congrArg (fun l=>l[2]?) he)) with ha_ _ _;rw [ha_];exact g2_)⟩
theorem k101_mkF (W:World) (ok:Nat→Prop) (x:S101) {A2:Option Addr} {c2:Nat} (l2:x.f2.length≤c2) (g2:Kd.F k101 W ok A2 x.f2.length x.f2):Kd.FK k101 W ok x [.int .i64 x.f0,.string x.f1,.slice A2 x.f2.length c2]:=fun W2 hW=>k101_mk W2 x l2 (g2 W2 hW)
def rd_T101 (xs:List S101) (i:Int):S101:=xs.getD i.toNat z101
theorem at_T101 {w:World} {A:Option Addr} {n:Nat} {xs:List S101} (h:Kd.C k101 w A n xs) (i:Int) (h0:0≤i) (h1:i < n):∃ ad A2 c2,A=some ad∧w.cell? (ad.add (i.toNat * 3))=some (.int .i64 (rd_T101 xs i).f0)∧w.cell? ⟨(ad.add (i.toNat * 3)).block,(ad.add (i.toNat * 3)).off+1,none⟩=some (.string (rd_T101 xs i).f1)∧w.cell? ⟨(ad.add (i.toNat * 3)).block,(ad.add (i.toNat * 3)).off+2,none⟩=some (.slice A2 (rd_T101 xs i).f2.length c2)∧(rd_T101 xs i).f2.length≤c2∧k101.C w A2 (rd_T101 xs i).f2.length (rd_T101 xs i).f2:=by
 obtain ⟨ad,c,e,_,hK,hc0⟩:=Kd.C_get h z101 i h0 h1
 have hc:∀ j u,c[j]? = some u→w.cell? (ad.add (i.toNat * 3+j))=some u:=hc0
 obtain ⟨A2,c2,rfl,l2,g2⟩:=k101_open hK
 exact ⟨ad,A2,c2,e,hc 0 _ rfl,za30,za29,l2,g2⟩
/-! #### struct type 103 -/
structure S103 where
 f0:Int
 f1:ByteArray
 f2:ByteArray
 f3:S101
 f4:(List Int)
 f5:Int
def z103:S103:=⟨(0:Int),(⟨#[]⟩:ByteArray),(⟨#[]⟩:ByteArray),z101,([]:List Int),(0:Int)⟩
def k103:Kd S103:=Kd.iso (Kd.pair (Kd.int .i64) (Kd.pair Kd.string (Kd.pair Kd.string (Kd.pair k101 (Kd.pair (Kd.slice 3 (Kd.int .i64)) (Kd.int .i64)))))) (fun x:S103=>(x.f0,x.f1,x.f2,x.f3,x.f4,x.f5))
theorem k103_heap:Kd.Heap k103:=Kd.heap_iso _ (Kd.heap_pair (Kd.heap_int .i64) (Kd.heap_pair Kd.heap_string (Kd.heap_pair Kd.heap_string (Kd.heap_pair k101_heap (Kd.heap_pair (Kd.heap_slice 3 (Kd.heap_int .i64)) (Kd.heap_int .i64))))))
theorem k103_open {w:World} {x:S103} {cs:List Value} (h:k103.K w x cs):∃ A5 c5 A6 c6,cs = [.int .i64 x.f0,.string x.f1,.string x.f2,.int .i64 x.f3.f0,.string x.f3.f1,.slice A5 x.f3.f2.length c5,.slice A6 x.f4.length c6,.int .i64 x.f5]∧x.f3.f2.length≤c5∧k101.C w A5 x.f3.f2.length x.f3.f2∧x.f4.length≤c6∧(Kd.int .i64).C w A6 x.f4.length x.f4:=by
 obtain ⟨_,_,rfl,rfl,⟨_,_,rfl,rfl,⟨_,_,rfl,rfl,⟨_,_,rfl,s3,⟨_,_,rfl,⟨A6,c6,rfl,l6,g6⟩,rfl⟩⟩⟩⟩⟩:=h
 obtain ⟨A5,c5,rfl,l5,g5⟩:=k101_open s3
 exact ⟨A5,c5,A6,c6,rfl,l5,g5,l6,g6⟩
theorem k103_openM {w:World} {base:Nat} {ok:Nat→Prop} {x:S103} {cs:List Value} (h:k103.M w base ok x cs):∃ v5 v6,cs = [.int .i64 x.f0,.string x.f1,.string x.f2,.int .i64 x.f3.f0,.string x.f3.f1,v5,v6,.int .i64 x.f5]∧k101.R 101 w base ok v5 x.f3.f2∧(Kd.int .i64).R 3 w base ok v6 x.f4:=by
 obtain ⟨_,_,rfl,rfl,⟨_,_,rfl,rfl,⟨_,_,rfl,rfl,⟨_,_,rfl,s3,⟨_,_,rfl,⟨v6,rfl,g6⟩,rfl⟩⟩⟩⟩⟩:=h
 obtain ⟨v5,rfl,g5⟩:=k101_openM s3
 exact ⟨v5,v6,rfl,g5,g6⟩
theorem k103_mk (w:World) (x:S103) {A5:Option Addr} {c5:Nat} (l5:x.f3.f2.length≤c5) (g5:k101.C w A5 x.f3.f2.length x.f3.f2) {A6:Option Addr} {c6:Nat} (l6:x.f4.length≤c6) (g6:(Kd.int .i64).C w A6 x.f4.length x.f4):k103.K w x [.int .i64 x.f0,.string x.f1,.string x.f2,.int .i64 x.f3.f0,.string x.f3.f1,.slice A5 x.f3.f2.length c5,.slice A6 x.f4.length c6,.int .i64 x.f5]:=⟨[.int .i64 x.f0],[.string x.f1,.string x.f2,.int .i64 x.f3.f0,.string x.f3.f1,.slice A5 x.f3.f2.length c5,.slice A6 x.f4.length c6,.int .i64 x.f5],rfl,rfl,⟨[.string x.f1],[.string x.f2,.int .i64 x.f3.f0,.string x.f3.f1,.slice A5 x.f3.f2.length c5,.slice A6 x.f4.length c6,.int .i64 x.f5],rfl,rfl,⟨[.string x.f2],[.int .i64 x.f3.f0,.string x.f3.f1,.slice A5 x.f3.f2.length c5,.slice A6 x.f4.length c6,.int .i64 x.f5],rfl,rfl,⟨[.int .i64 x.f3.f0,.string x.f3.f1,.slice A5 x.f3.f2.length c5],[.slice A6 x.f4.length c6,.int .i64 x.f5],rfl,(k101_mk w x.f3 l5 g5),⟨[.slice A6 x.f4.length c6],[.int .i64 x.f5],rfl,⟨A6,c6,rfl,l6,g6⟩,rfl⟩⟩⟩⟩⟩
theorem k103_mkM (w:World) (base:Nat) (ok:Nat→Prop) (x:S103) {v5:Value} (g5:k101.R 101 w base ok v5 x.f3.f2) {v6:Value} (g6:(Kd.int .i64).R 3 w base ok v6 x.f4):k103.M w base ok x [.int .i64 x.f0,.string x.f1,.string x.f2,.int .i64 x.f3.f0,.string x.f3.f1,v5,v6,.int .i64 x.f5]:=⟨[.int .i64 x.f0],[.string x.f1,.string x.f2,.int .i64 x.f3.f0,.string x.f3.f1,v5,v6,.int .i64 x.f5],rfl,rfl,⟨[.string x.f1],[.string x.f2,.int .i64 x.f3.f0,.string x.f3.f1,v5,v6,.int .i64 x.f5],rfl,rfl,⟨[.string x.f2],[.int .i64 x.f3.f0,.string x.f3.f1,v5,v6,.int .i64 x.f5],rfl,rfl,⟨[.int .i64 x.f3.f0,.string x.f3.f1,v5],[v6,.int .i64 x.f5],rfl,(k101_mkM w base ok x.f3 g5),⟨[v6],[.int .i64 x.f5],rfl,⟨v6,rfl,g6⟩,rfl⟩⟩⟩⟩⟩
theorem k103_openF {W:World} {ok:Nat→Prop} {x:S103} {cs:List Value} (h:Kd.FK k103 W ok x cs):∃ A5 c5 A6 c6,cs = [.int .i64 x.f0,.string x.f1,.string x.f2,.int .i64 x.f3.f0,.string x.f3.f1,.slice A5 x.f3.f2.length c5,.slice A6 x.f4.length c6,.int .i64 x.f5]∧x.f3.f2.length≤c5∧Kd.F k101 W ok A5 x.f3.f2.length x.f3.f2∧x.f4.length≤c6∧Kd.F (Kd.int .i64) W ok A6 x.f4.length x.f4:=by
 obtain ⟨A5,c5,A6,c6,rfl,l5,_,l6,_⟩:=k103_open (Kd.FK_now h)
 exact ⟨A5,c5,A6,c6,rfl,l5,(fun W' hW=>by obtain ⟨A5_,c5_,A6_,c6_,he,l5_,g5_,l6_,g6_⟩:=k103_open (h W' hW);injection (zi (show some (Value.slice A5 x.f3.f2.length c5)=some (Value.slice A5_ x.f3.f2.length c5_) from congrArg (fun l=>l[5]?) he)) with ha_ _ _;rw [ha_];exact g5_),l6,(fun W' hW=>by obtain ⟨A5_,c5_,A6_,c6_,he,l5_,g5_,l6_,g6_⟩:=k103_open (h W' hW);injection (zi (show some (Value.slice A6 x.f4.length c6)=some (Value.slice A6_ x.f4.length c6_) from congrArg (fun l=>l[6]?) he)) with ha_ _ _;rw [ha_];exact g6_)⟩
theorem k103_mkF (W:World) (ok:Nat→Prop) (x:S103) {A5:Option Addr} {c5:Nat} (l5:x.f3.f2.length≤c5) (g5:Kd.F k101 W ok A5 x.f3.f2.length x.f3.f2) {A6:Option Addr} {c6:Nat} (l6:x.f4.length≤c6) (g6:Kd.F (Kd.int .i64) W ok A6 x.f4.length x.f4):Kd.FK k103 W ok x [.int .i64 x.f0,.string x.f1,.string x.f2,.int .i64 x.f3.f0,.string x.f3.f1,.slice A5 x.f3.f2.length c5,.slice A6 x.f4.length c6,.int .i64 x.f5]:=fun W2 hW=>k103_mk W2 x l5 (g5 W2 hW) l6 (g6 W2 hW)
def rd_T103 (xs:List S103) (i:Int):S103:=xs.getD i.toNat z103
theorem at_T103 {w:World} {A:Option Addr} {n:Nat} {xs:List S103} (h:Kd.C k103 w A n xs) (i:Int) (h0:0≤i) (h1:i < n):∃ ad A5 c5 A6 c6,A=some ad∧w.cell? (ad.add (i.toNat * 8))=some (.int .i64 (rd_T103 xs i).f0)∧w.cell? ⟨(ad.add (i.toNat * 8)).block,(ad.add (i.toNat * 8)).off+1,none⟩=some (.string (rd_T103 xs i).f1)∧w.cell? ⟨(ad.add (i.toNat * 8)).block,(ad.add (i.toNat * 8)).off+2,none⟩=some (.string (rd_T103 xs i).f2)∧w.cell? ⟨(ad.add (i.toNat * 8)).block,(ad.add (i.toNat * 8)).off+3,none⟩=some (.int .i64 (rd_T103 xs i).f3.f0)∧w.cell? ⟨(ad.add (i.toNat * 8)).block,(ad.add (i.toNat * 8)).off+4,none⟩=some (.string (rd_T103 xs i).f3.f1)∧w.cell? ⟨(ad.add (i.toNat * 8)).block,(ad.add (i.toNat * 8)).off+5,none⟩=some (.slice A5 (rd_T103 xs i).f3.f2.length c5)∧w.cell? ⟨(ad.add (i.toNat * 8)).block,(ad.add (i.toNat * 8)).off+6,none⟩=some (.slice A6 (rd_T103 xs i).f4.length c6)∧w.cell? ⟨(ad.add (i.toNat * 8)).block,(ad.add (i.toNat * 8)).off+7,none⟩=some (.int .i64 (rd_T103 xs i).f5)∧(rd_T103 xs i).f3.f2.length≤c5∧k101.C w A5 (rd_T103 xs i).f3.f2.length (rd_T103 xs i).f3.f2∧(rd_T103 xs i).f4.length≤c6∧(Kd.int .i64).C w A6 (rd_T103 xs i).f4.length (rd_T103 xs i).f4:=by
 obtain ⟨ad,c,e,_,hK,hc0⟩:=Kd.C_get h z103 i h0 h1
 have hc:∀ j u,c[j]? = some u→w.cell? (ad.add (i.toNat * 8+j))=some u:=hc0
 obtain ⟨A5,c5,A6,c6,rfl,l5,g5,l6,g6⟩:=k103_open hK
 exact ⟨ad,A5,c5,A6,c6,e,hc 0 _ rfl,za30,za29,by rw [← add_field _ _ 3 (by omega)];exact hc 3 _ rfl,by rw [← add_field _ _ 4 (by omega)];exact hc 4 _ rfl,by rw [← add_field _ _ 5 (by omega)];exact hc 5 _ rfl,by rw [← add_field _ _ 6 (by omega)];exact hc 6 _ rfl,by rw [← add_field _ _ 7 (by omega)];exact hc 7 _ rfl,l5,g5,l6,g6⟩
end Go.Proofs.YtffjfdoghofkdaaGreat.A
namespace Go.Proofs.YtffjfdoghofkdaaGreat.Ext
open Go.RowKit YtffjfdoghofkdaaGreatW.PrintWords YtffjfdoghofkdaaGreatW.PrintLast YtffjfdoghofkdaaGreat.A
def idxN (p:Nat→Bool) (n:Nat):Int:=match (List.range n).find? p with|some i=>(i:Int)|none => -1
def anyN (p:Nat→Bool) (n:Nat):Bool:=(List.range n).any p
theorem idxN_miss (p:Nat→Bool) (n:Nat) (h:∀ j,j < n→p j=false):idxN p n = -1:=by
 unfold idxN
 rw [List.find?_eq_none.2 (fun x hx=>by rw [h x (List.mem_range.1 hx)];simp)]
theorem idxN_hit (p:Nat→Bool) (n i:Nat) (hi:i < n) (h:∀ j,j < i→p j=false) (hp:p i=true):idxN p n=i:=by
 unfold idxN
 have e:(List.range n).find? p=some i:=by
  rw [List.find?_range_eq_some]
  exact ⟨hp,List.mem_range.2 hi,fun j hj=>by simp [h j hj]⟩
 rw [e]
theorem anyN_idx (p:Nat→Bool) (n:Nat):decide (0≤idxN p n)=anyN p n:=by
 unfold idxN anyN
 cases h:(List.range n).find? p with
 | none =>
  have:(List.range n).any p=false:=by
   rw [List.any_eq_false]
   exact List.find?_eq_none.1 h
  simp [this]
 | some i =>
  have:(List.range n).any p=true:=List.any_eq_true.2 ⟨i,List.mem_of_find?_eq_some h,List.find?_some h⟩
  simp [this]
end Go.Proofs.YtffjfdoghofkdaaGreat.Ext
namespace Go.Proofs.YtffjfdoghofkdaaGreat.A
open Go.RowKit YtffjfdoghofkdaaGreat.Ext YtffjfdoghofkdaaGreatW.PrintWords YtffjfdoghofkdaaGreatW.PrintLast YtffjfdoghofkdaaGreatW.PrintMore
attribute [local go_sem] max2_int min2_int max_two min_two max_three min_three max_four min_four
def impl_within.f (a0:Int) (a1:Int) (a2:Int):Option (Bool):=if a0 ≥ a1 then (some (decide (a0≤a2))) else (some false)
theorem impl_within.calls (a0:Int) (a1:Int) (a2:Int) (r:Bool) (w:World) (h:impl_within.f a0 a1 a2=some r) :
   Calls Tryz.prog 94 #[.int .i64 a0,.int .i64 a1,.int .i64 a2] w fun e w'=>e = .returned (.bool r)∧Drawn0 w w':=by
 have H:(if a0 ≥ a1 then (some (decide (a0≤a2))) else (some false))=some r:=h
 clear h
 by_cases c4:a0 ≥ a1
 rw [if_pos c4] at H
 have c4b0:decide (a1≤a0)=true:=decide_eq_true c4
 rotate_left
 rw [if_neg c4] at H
 have c4b0:decide (a1≤a0)=false:=decide_eq_false c4
 rotate_left
 all_goals
  clear c4
  obtain rfl:=zi H
  go_enter Tryz.func94,Tryz.ntmps94
  go_wp2
  go_ret
  exact ⟨za7,za10⟩
def impl_LetterIndex.f (a0:Int):Option (Int):=(strings_IndexByte.f (⟨#[97,98,99]⟩:ByteArray) a0).bind fun t124001=>(some t124001)
theorem impl_LetterIndex.calls (a0:Int) (r:Int) (w:World) (h:impl_LetterIndex.f a0=some r) :
  Calls Tryz.prog 124 #[.int .u8 a0] w fun e w'=>e = .returned (.int .i64 r)∧Drawn0 w w':=by
 have H:((strings_IndexByte.f (⟨#[97,98,99]⟩:ByteArray) a0).bind fun t124001=>(some t124001))=some r:=h
 clear h
 replace H:=zo H
 obtain ⟨t124001,A20,H⟩:=H
 replace H:(some t124001)=some r:=H
 have A2:=zk A20
 clear A20
 obtain rfl:=zi H
 go_enter Tryz.func124,Tryz.ntmps124
 go_wp2_with (first|((with_reducible refine gate_callee (f:=75) rfl ?_);refine goesL_ (some 4) rfl rfl Tryz.func75 (by kernel_rfl) rfl #[.string (⟨#[97,98,99]⟩:ByteArray),.int .u8 a0] rfl za4 ?_;(with_reducible refine (strings_IndexByte.calls (⟨#[97,98,99]⟩:ByteArray) a0 t124001 _ A2.out).mono ?_);rintro e w' ⟨rfl,⟨nd,rfl⟩⟩;refine ⟨_,rfl,?_⟩))
 go_ret
 exact ⟨za7,za10⟩
def impl_isLetters.l0:Nat→ByteArray→Int→Option (Bool)
 | 0,_,_=>none
 | k+1,x0,x3=>if x3 < (x0.size:Int) then (if 0≤x3 then ((impl_LetterIndex.f (bt x0 x3)).bind fun t102001=>(if t102001 < 0 then (some false) else (impl_isLetters.l0 k x0 (wrap64 (x3+1))))) else (none)) else (some true)
def impl_isLetters.f (k:Nat) (a0:ByteArray):Option (Bool):=impl_isLetters.l0 k a0 0
theorem impl_isLetters.mono_l:∀ k,(∀ y0 y1,LeO (impl_isLetters.l0 k y0 y1) (impl_isLetters.l0 (k+1) y0 y1))
 | 0=>fun _ _ r h=>by simp [impl_isLetters.l0] at h
 | k+1=>by
  have ih0:=impl_isLetters.mono_l k
  ·intro y0 y1
   unfold impl_isLetters.l0
   repeat' first
   | with_reducible first|exact ih0 _ _|exact LeO.refl _|exact LeO.none _|refine LeO.ite ?_ ?_|refine LeO.bind ?_ (fun _=>?_)
theorem impl_isLetters.mono:∀ a0 k,LeO (impl_isLetters.f k a0) (impl_isLetters.f (k+1) a0):=by
 intro a0 k
 have ih0:=impl_isLetters.mono_l k
 unfold impl_isLetters.f
 repeat' first
  | with_reducible first|exact ih0 _ _|exact LeO.refl _|exact LeO.none _|refine LeO.ite ?_ ?_|refine LeO.bind ?_ (fun _=>?_)
theorem impl_isLetters.calls (k:Nat) (a0:ByteArray) (r:Bool) (w:World) (h:impl_isLetters.f k a0=some r) :
   Calls Tryz.prog 102 #[.string a0] w fun e w'=>e = .returned (.bool r)∧Drawn0 w w':=by
 have H:(impl_isLetters.l0 k a0 0)=some r:=h
 clear h
 have H':=zk H
 clear H
 go_enter Tryz.func102,Tryz.ntmps102
 go_wp2
 first|go_loopg [3] k (fun kq v3 w'=>∃ (x3_1:Int),v3 = .int .i64 x3_1∧Aside0 (impl_isLetters.l0 kq a0 x3_1=some r)∧Aside0 (kq≤k)∧Drawn0 w w')|(simp only [Act.put,zt,zv,zu];go_loopg [3] k (fun kq v3 w'=>∃ (x3_1:Int),v3 = .int .i64 x3_1∧Aside0 (impl_isLetters.l0 kq a0 x3_1=some r)∧Aside0 (kq≤k)∧Drawn0 w w'))
 case atStart=>exact ⟨(0),za7,H',⟨Nat.le_refl _⟩,za10⟩
 case round =>
  clear H'
  obtain ⟨x3_1,rfl,HA,HK1,⟨m1,rfl⟩⟩:=hrel
  cases gk with
  | zero=>exact absurd HA.out (by simp [impl_isLetters.l0])
  | succ k1 =>
   have H:=HA.out
   clear HA
   simp only [impl_isLetters.l0] at H
   by_cases c2:x3_1 < (a0.size:Int)
   rw [if_pos c2] at H
   have c2b0:decide (x3_1 < (a0.size:Int))=true:=decide_eq_true c2
   clear c2
   by_cases c3:0≤x3_1
   rw [if_pos c3] at H
   have c3b0:decide (0≤x3_1)=true:=decide_eq_true c3
   clear c3
   replace H:=zo H
   obtain ⟨t102001,A50,H⟩:=H
   replace H:(if t102001 < 0 then (some false) else (impl_isLetters.l0 k1 a0 (wrap64 (x3_1+1))))=some r:=H
   have A5:=zk A50
   clear A50
   by_cases c6:t102001 < 0
   rw [if_pos c6] at H
   have c6b0:decide (t102001 < 0)=true:=decide_eq_true c6
   clear c6
   obtain rfl:=zi H
   have fin0_:=zk trivial
   rotate_left
   rw [if_neg c6] at H
   have c6b0:decide (t102001 < 0)=false:=decide_eq_false c6
   clear c6
   have H':=zk H
   clear H
   have fin1_:=zk trivial
   rotate_left
   · rw [if_neg c3] at H
     exact absurd H (by simp)
   · rw [if_neg c2] at H
     have c2b0:decide (x3_1 < (a0.size:Int))=false:=decide_eq_false c2
     clear c2
     obtain rfl:=zi H
     go_wp2
     go_ret
     exact ⟨za7,za10⟩
   all_goals
    have p4:0≤(x3_1:Int):=of_decide_eq_true za8
    have q4:x3_1 < (a0.size:Int):=of_decide_eq_true za8
    have hx4:=bt_at a0 x3_1
    replace p4:=eq_true p4
    replace q4:=eq_true q4
    go_wp2_with (((with_reducible refine gate_callee (f:=124) rfl ?_);refine goesL_ (some 13) rfl rfl Tryz.func124 (by kernel_rfl) rfl #[.int .u8 (bt a0 x3_1)] rfl za4 ?_;(with_reducible refine (impl_LetterIndex.calls (bt a0 x3_1) t102001 _ A5.out).mono ?_);rintro e w' ⟨rfl,⟨nd,rfl⟩⟩;refine ⟨_,rfl,?_⟩))
    first
    | (
      clear fin0_
      go_ret
      exact ⟨za7,za10⟩)
    | (
      clear fin1_
      go_roundg k1
      case measure=>have:=HK1.out;omega
      case rel=>exact ⟨(wrap64 (x3_1+1)),za7,H',⟨za15⟩,za10⟩)
def impl_IsWord.f (k:Nat) (a0:ByteArray):Option (Bool):=if (a0.size:Int)≤30 then ((impl_isLetters.f k a0).bind fun t74001=>(some t74001)) else (some false)
theorem impl_IsWord.mono:∀ a0 k,LeO (impl_IsWord.f k a0) (impl_IsWord.f (k+1) a0):=by
 intro a0 k
 unfold impl_IsWord.f
 repeat' first
  | with_reducible first|exact impl_isLetters.mono _ _|exact LeO.refl _|exact LeO.none _|refine LeO.ite ?_ ?_|refine LeO.bind ?_ (fun _=>?_)
theorem impl_IsWord.calls (k:Nat) (a0:ByteArray) (r:Bool) (w:World) (h:impl_IsWord.f k a0=some r) :
   Calls Tryz.prog 74 #[.string a0] w fun e w'=>e = .returned (.bool r)∧Drawn0 w w':=by
 have H:(if (a0.size:Int)≤30 then ((impl_isLetters.f k a0).bind fun t74001=>(some t74001)) else (some false))=some r:=h
 clear h
 by_cases c2:(a0.size:Int)≤30
 rw [if_pos c2] at H
 have c2b0:decide ((a0.size:Int)≤30)=true:=decide_eq_true c2
 have c2b1:decide (a0.size≤30)=true:=decide_eq_true (by omega)
 clear c2
 replace H:=zo H
 obtain ⟨t74001,A30,H⟩:=H
 replace H:(some t74001)=some r:=H
 have A3:=zk A30
 clear A30
 rotate_left
 rw [if_neg c2] at H
 have c2b0:decide ((a0.size:Int)≤30)=false:=decide_eq_false c2
 have c2b1:decide (a0.size≤30)=false:=decide_eq_false (by omega)
 clear c2
 rotate_left
 all_goals
  obtain rfl:=zi H
  go_enter Tryz.func74,Tryz.ntmps74
  go_wp2_with ((go_at_call 102;(with_reducible refine (impl_isLetters.calls k a0 t74001 _ A3.out).mono ?_);rintro e w' ⟨rfl,⟨nd,rfl⟩⟩))
  go_ret
  exact ⟨za7,za10⟩
mutual
def impl_WordsOfLength.l0:Nat→List ByteArray→Int→Int→Option (List ByteArray)
 | 0,_,_,_=>none
 | k+1,x3,x12,x13=>if x13 < x12 then (impl_WordsOfLength.l1 k (([]:List ByteArray)) x12 x13 x3 (x3.length:Int) 0) else (some x3)
def impl_WordsOfLength.l1:Nat→List ByteArray→Int→Int→List ByteArray→Int→Int→Option (List ByteArray)
 | 0,_,_,_,_,_,_=>none
 | k+1,x4,x12,x13,x16,x17,x18=>if x18 < x17 then (if 0≤x18 then (if x18 < (x16.length:Int) then (impl_WordsOfLength.l2 k x4 (rdOf ByteArray.empty x16 x18) x12 x13 x16 x17 x18 0) else (none)) else (none)) else (impl_WordsOfLength.l0 k x4 x12 (wrap64 (x13+1)))
def impl_WordsOfLength.l2:Nat→List ByteArray→ByteArray→Int→Int→List ByteArray→Int→Int→Int→Option (List ByteArray)
 | 0,_,_,_,_,_,_,_,_=>none
 | k+1,x4,x6,x12,x13,x16,x17,x18,x22=>if x22 < 3 then (if 0≤x22 then (if x22≤(wrap64 (x22+1)) then (if (wrap64 (x22+1))≤3 then (if x6.size+((⟨#[97,98,99]⟩:ByteArray).extract (x22:Int).toNat ((wrap64 (x22+1)):Int).toNat).size≤9223372036854775807 then (if x4.length < 8796093022208 then (impl_WordsOfLength.l2 k (x4 ++ [x6 ++ ((⟨#[97,98,99]⟩:ByteArray).extract (x22:Int).toNat ((wrap64 (x22+1)):Int).toNat)]) x6 x12 x13 x16 x17 x18 (wrap64 (x22+1))) else (none)) else (none)) else (none)) else (none)) else (none)) else (impl_WordsOfLength.l1 k x4 x12 x13 x16 x17 (wrap64 (x18+1)))
end
def impl_WordsOfLength.f (k:Nat) (a0:Int):Option (List ByteArray):=(impl_within.f a0 0 5).bind fun t68001=>(if t68001=true then (impl_WordsOfLength.l0 k (([(⟨#[]⟩:ByteArray)]:List ByteArray)) a0 0) else (some ([]:List ByteArray)))
theorem impl_WordsOfLength.mono_l:∀ k,(∀ y0 y1 y2,LeO (impl_WordsOfLength.l0 k y0 y1 y2) (impl_WordsOfLength.l0 (k+1) y0 y1 y2))∧(∀ y0 y1 y2 y3 y4 y5,LeO (impl_WordsOfLength.l1 k y0 y1 y2 y3 y4 y5) (impl_WordsOfLength.l1 (k+1) y0 y1 y2 y3 y4 y5))∧(∀ y0 y1 y2 y3 y4 y5 y6 y7,LeO (impl_WordsOfLength.l2 k y0 y1 y2 y3 y4 y5 y6 y7) (impl_WordsOfLength.l2 (k+1) y0 y1 y2 y3 y4 y5 y6 y7))
 | 0=>⟨fun _ _ _ r h=>by simp [impl_WordsOfLength.l0] at h,fun _ _ _ _ _ _ r h=>by simp [impl_WordsOfLength.l1] at h,fun _ _ _ _ _ _ _ _ r h=>by simp [impl_WordsOfLength.l2] at h⟩
 | k+1=>by
  obtain ⟨ih0,ih1,ih2⟩:=impl_WordsOfLength.mono_l k
  refine ⟨?_,?_,?_⟩
  ·intro y0 y1 y2
   unfold impl_WordsOfLength.l0
   repeat' first
   | with_reducible first|exact ih0 _ _ _|exact ih1 _ _ _ _ _ _|exact ih2 _ _ _ _ _ _ _ _|exact LeO.refl _|exact LeO.none _|refine LeO.ite ?_ ?_|refine LeO.bind ?_ (fun _=>?_)
  ·intro y0 y1 y2 y3 y4 y5
   unfold impl_WordsOfLength.l1
   repeat' first
   | with_reducible first|exact ih0 _ _ _|exact ih1 _ _ _ _ _ _|exact ih2 _ _ _ _ _ _ _ _|exact LeO.refl _|exact LeO.none _|refine LeO.ite ?_ ?_|refine LeO.bind ?_ (fun _=>?_)
  ·intro y0 y1 y2 y3 y4 y5 y6 y7
   unfold impl_WordsOfLength.l2
   repeat' first
   | with_reducible first|exact ih0 _ _ _|exact ih1 _ _ _ _ _ _|exact ih2 _ _ _ _ _ _ _ _|exact LeO.refl _|exact LeO.none _|refine LeO.ite ?_ ?_|refine LeO.bind ?_ (fun _=>?_)
theorem impl_WordsOfLength.mono:∀ a0 k,LeO (impl_WordsOfLength.f k a0) (impl_WordsOfLength.f (k+1) a0):=by
 intro a0 k
 obtain ⟨ih0,ih1,ih2⟩:=impl_WordsOfLength.mono_l k
 unfold impl_WordsOfLength.f
 repeat' first
  | with_reducible first|exact ih0 _ _ _|exact ih1 _ _ _ _ _ _|exact ih2 _ _ _ _ _ _ _ _|exact LeO.refl _|exact LeO.none _|refine LeO.ite ?_ ?_|refine LeO.bind ?_ (fun _=>?_)
theorem impl_WordsOfLength.calls (k:Nat) (a0:Int) (r:List ByteArray) (w:World) (h:impl_WordsOfLength.f k a0=some r) :
  Calls Tryz.prog 68 #[.int .i64 a0] w fun e w'=>∃ v0_:Value,e = .returned (v0_)∧Kd.R Kd.string 9 w' w.heap.size (fun _=>True) v0_ r∧Below w.heap.size w w':=by
 have HB:=zk (Below.refl w.heap.size w)
 have H:((impl_within.f a0 0 5).bind fun t68001=>(if t68001=true then (impl_WordsOfLength.l0 k (([(⟨#[]⟩:ByteArray)]:List ByteArray)) a0 0) else (some ([]:List ByteArray))))=some r:=h
 clear h
 replace H:=zo H
 obtain ⟨t68001,A20,H⟩:=H
 replace H:(if t68001=true then (impl_WordsOfLength.l0 k (([(⟨#[]⟩:ByteArray)]:List ByteArray)) a0 0) else (some ([]:List ByteArray)))=some r:=H
 have A2:=zk A20
 clear A20
 by_cases c3:t68001=true
 ·subst c3
  have H1:(impl_WordsOfLength.l0 k (([(⟨#[]⟩:ByteArray)]:List ByteArray)) a0 0)=some r:=by rw [if_pos rfl] at H;exact H
  clear H
  have H:=H1
  clear H1
  obtain ⟨y68002,hy68002⟩:∃ y_:List ByteArray,y_=(([(⟨#[]⟩:ByteArray)]:List ByteArray)):=⟨_,rfl⟩
  replace H:(impl_WordsOfLength.l0 k y68002 a0 0)=some r:=by first|(rw [hy68002];with_reducible exact H)|(have H2_:=(Option.bind_some _ _).symm.trans H;rw [hy68002];with_reducible exact H2_)|(have H2_:=(Option.bind_some _ _).symm.trans H;with_reducible exact H2_)|with_reducible exact H|(rw [hy68002];exact H)|exact H
  have Ny68002:=zk hy68002
  clear hy68002
  have H':=zk H
  clear H
  go_enter Tryz.func68,Tryz.ntmps68
  go_wp2_with (first|((with_reducible refine gate_callee (f:=94) rfl ?_);refine goesL_ (some 9) rfl rfl Tryz.func94 (by kernel_rfl) rfl #[.int .i64 a0,.int .i64 0,.int .i64 5] rfl za4 ?_;(with_reducible refine (impl_within.calls a0 0 5 _ _ A2.out).mono ?_);rintro e w' ⟨rfl,⟨nd,rfl⟩⟩;refine ⟨_,rfl,?_⟩)|((with_reducible refine gate_dst (N:=11) rfl ?_);refine Kd.R_lit Kd.string _ 9 ?hg (N:=11) ?hd (xs:=([(⟨#[]⟩:ByteArray)]:List ByteArray)) (inner:=[.string (⟨#[]⟩:ByteArray)]) (ok:=fun _=>True) (okp:=fun _=>True) ?hr ?hp (fun _ hk=>hk) trivial (Below.refl _ _) (Nat.le_refl _) (by simp) ?_;(case hd=>rfl);(case hg=>rfl);(case hr=>first|(go_simp;done)|(go_simp;rfl));(case hp=>exact (Reps.one (show Kd.M Kd.string _ _ _ (⟨#[]⟩:ByteArray) [.string (⟨#[]⟩:ByteArray)] from rfl) (Reps.none _ _)));intro v68003 w4 ho5 hb hg_ hnew_;clear hg_ hnew_;(first|rw [← Ny68002.out] at ho5|(simp only [Int.reduceToNat] at ho5;rw [← Ny68002.out] at ho5));have n0_:=zk (Kd.R_lower ho5 (below_size za3));have n1_:=zk (below_step za3 hb);clear HB;have HO68004:=n0_;have HB:=n1_;clear n0_ n1_;clear hb ho5))
  first|go_loopg [3,13] k (fun kq v3 v13 w'=>∃ (x3_1:List ByteArray) (x13_1:Int),v13 = .int .i64 x13_1∧Aside0 (impl_WordsOfLength.l0 kq x3_1 a0 x13_1=some r)∧Aside0 (kq≤k)∧Aside0 (Kd.R Kd.string 9 w' w.heap.size (fun _=>True) v3 x3_1)∧Aside0 (Below w.heap.size w w'))|(simp only [Act.put,zt,zv,zu];go_loopg [3,13] k (fun kq v3 v13 w'=>∃ (x3_1:List ByteArray) (x13_1:Int),v13 = .int .i64 x13_1∧Aside0 (impl_WordsOfLength.l0 kq x3_1 a0 x13_1=some r)∧Aside0 (kq≤k)∧Aside0 (Kd.R Kd.string 9 w' w.heap.size (fun _=>True) v3 x3_1)∧Aside0 (Below w.heap.size w w')))
  case atStart=>exact ⟨(y68002),(0),za7,H',⟨Nat.le_refl _⟩,⟨za0 HO68004.out⟩,⟨za3⟩⟩
  case round =>
   clear H'
   try clear c3
   obtain ⟨x3_1,x13_1,rfl,HA,HK1,HO_3,HB⟩:=hrel
   cases gk with
   | zero=>exact absurd HA.out (by simp [impl_WordsOfLength.l0])
   | succ k1 =>
    have H:=HA.out
    clear HA
    simp only [impl_WordsOfLength.l0] at H
    by_cases c6:x13_1 < a0
    ·rw [if_pos c6] at H
     have c6b0:decide (x13_1 < a0)=true:=decide_eq_true c6
     clear c6
     obtain ⟨y68005,hy68005⟩:∃ y_:List ByteArray,y_=(([]:List ByteArray)):=⟨_,rfl⟩
     replace H:(impl_WordsOfLength.l1 k1 y68005 a0 x13_1 x3_1 (x3_1.length:Int) 0)=some r:=by first|(rw [hy68005];with_reducible exact H)|(have H2_:=(Option.bind_some _ _).symm.trans H;rw [hy68005];with_reducible exact H2_)|(have H2_:=(Option.bind_some _ _).symm.trans H;with_reducible exact H2_)|with_reducible exact H|(rw [hy68005];exact H)|exact H
     have Ny68005:=zk hy68005
     clear hy68005
     have H':=zk H
     clear H
     go_wp2_with (first|((with_reducible refine gate_dst (N:=15) rfl ?_);refine Kd.R_lit Kd.string _ 9 ?hg (N:=15) ?hd (xs:=([]:List ByteArray)) (inner:=[]) (ok:=fun _=>True) (okp:=fun _=>True) ?hr ?hp (fun _ hk=>hk) trivial (Below.refl _ _) (Nat.le_refl _) (by simp) ?_;(case hd=>rfl);(case hg=>rfl);(case hr=>first|(go_simp;done)|(go_simp;rfl));(case hp=>exact (Reps.none _ _));intro v68006 w7 ho8 hb hg_ hnew_;clear hg_ hnew_;(first|rw [← Ny68005.out] at ho8|(simp only [Int.reduceToNat] at ho8;rw [← Ny68005.out] at ho8));have n0_:=zk (Kd.R_elder' (za0 HO_3.out) (Kd.R_base ho8) hb);have n1_:=zk (Kd.R_lower (Kd.R_new' ho8 (Kd.R_lt (za0 HO_3.out))) (below_size za3));have n2_:=zk (below_step za3 hb);clear HO_3;clear HB;have HO_3:=n0_;have HO68007:=n1_;have HB:=n2_;clear n0_ n1_ n2_;clear hb ho8;obtain ⟨Ao9,co9,eo9⟩:=Kd.R_slice HO_3.out;subst eo9))
     first|go_loopg [4,18] k1 (fun kq v4 v18 w'=>∃ (x4_2:List ByteArray) (x18_2:Int),v18 = .int .i64 x18_2∧Aside0 (impl_WordsOfLength.l1 kq x4_2 a0 x13_1 x3_1 (x3_1.length:Int) x18_2=some r)∧Aside0 (kq≤k1)∧Aside0 (Kd.R Kd.string 9 w' w.heap.size (fun k_=>some k_ ≠ ((.slice Ao9 x3_1.length co9):Value).ownBlock) v4 x4_2)∧Aside0 (Kd.R Kd.string 9 w' w.heap.size (fun k_=>some k_ ≠ (v4:Value).ownBlock) (.slice Ao9 x3_1.length co9) x3_1)∧Aside0 (Below w.heap.size w w'))|(simp only [Act.put,zt,zv,zu];go_loopg [4,18] k1 (fun kq v4 v18 w'=>∃ (x4_2:List ByteArray) (x18_2:Int),v18 = .int .i64 x18_2∧Aside0 (impl_WordsOfLength.l1 kq x4_2 a0 x13_1 x3_1 (x3_1.length:Int) x18_2=some r)∧Aside0 (kq≤k1)∧Aside0 (Kd.R Kd.string 9 w' w.heap.size (fun k_=>some k_ ≠ ((.slice Ao9 x3_1.length co9):Value).ownBlock) v4 x4_2)∧Aside0 (Kd.R Kd.string 9 w' w.heap.size (fun k_=>some k_ ≠ (v4:Value).ownBlock) (.slice Ao9 x3_1.length co9) x3_1)∧Aside0 (Below w.heap.size w w')))
     case atStart=>exact ⟨(y68005),(0),za7,H',⟨Nat.le_refl _⟩,⟨by (with_reducible repeat (first|apply Kd.R_alloc|apply Kd.R_drewN|apply Kd.R_drew));exact Kd.R_mono HO68007.out (fun _ hk=>hk.2)⟩,⟨za21⟩,⟨za3⟩⟩
     case round =>
      clear H'
      try clear c3
      try clear c6
      try clear c6b0
      obtain ⟨x4_2,x18_2,rfl,HA,HK2,HO_4,HO_16,HB⟩:=hrel
      cases gk with
      | zero=>exact absurd HA.out (by simp [impl_WordsOfLength.l1])
      | succ k2 =>
       have H:=HA.out
       clear HA
       simp only [impl_WordsOfLength.l1] at H
       by_cases c10:x18_2 < (x3_1.length:Int)
       rw [if_pos c10] at H
       have c10b0:decide (x18_2 < (x3_1.length:Int))=true:=decide_eq_true c10
       clear c10
       by_cases c11:0≤x18_2
       rw [if_pos c11] at H
       have c11b0:decide (0≤x18_2)=true:=decide_eq_true c11
       clear c11
       by_cases c12:x18_2 < (x3_1.length:Int)
       ·rw [if_pos c12] at H
        have c12b0:decide (x18_2 < (x3_1.length:Int))=true:=decide_eq_true c12
        clear c12
        have H':=zk H
        clear H
        have p68008:0≤(x18_2:Int):=of_decide_eq_true za8
        have q68008:x18_2 < (x3_1.length:Int):=of_decide_eq_true za8
        obtain ⟨ad68008,e68008,hx68008_0⟩:=Kd.at_string (Kd.R_reads' HO_16.out).2.2 x18_2 p68008 q68008
        cases e68008
        replace p68008:=eq_true p68008
        replace q68008:=eq_true q68008
        go_wp2
        first|go_loopg [4,22] k2 (fun kq v4 v22 w'=>∃ (x4_3:List ByteArray) (x22_3:Int),v22 = .int .i64 x22_3∧Aside0 (impl_WordsOfLength.l2 kq x4_3 (rdOf ByteArray.empty x3_1 x18_2) a0 x13_1 x3_1 (x3_1.length:Int) x18_2 x22_3=some r)∧Aside0 (kq≤k2)∧Aside0 (Kd.R Kd.string 9 w' w.heap.size (fun k_=>some k_ ≠ ((.slice (some ad68008) x3_1.length co9):Value).ownBlock) v4 x4_3)∧Aside0 (Kd.R Kd.string 9 w' w.heap.size (fun k_=>some k_ ≠ (v4:Value).ownBlock) (.slice (some ad68008) x3_1.length co9) x3_1)∧Aside0 (Below w.heap.size w w'))|(simp only [Act.put,zt,zv,zu];go_loopg [4,22] k2 (fun kq v4 v22 w'=>∃ (x4_3:List ByteArray) (x22_3:Int),v22 = .int .i64 x22_3∧Aside0 (impl_WordsOfLength.l2 kq x4_3 (rdOf ByteArray.empty x3_1 x18_2) a0 x13_1 x3_1 (x3_1.length:Int) x18_2 x22_3=some r)∧Aside0 (kq≤k2)∧Aside0 (Kd.R Kd.string 9 w' w.heap.size (fun k_=>some k_ ≠ ((.slice (some ad68008) x3_1.length co9):Value).ownBlock) v4 x4_3)∧Aside0 (Kd.R Kd.string 9 w' w.heap.size (fun k_=>some k_ ≠ (v4:Value).ownBlock) (.slice (some ad68008) x3_1.length co9) x3_1)∧Aside0 (Below w.heap.size w w')))
        case atStart=>exact ⟨(x4_2),(0),za7,H',⟨Nat.le_refl _⟩,⟨za0 HO_4.out⟩,⟨za0 HO_16.out⟩,⟨za3⟩⟩
        case round =>
         clear H'
         try clear c3
         try clear c6
         try clear c6b0
         try clear c12
         try clear c12b0
         try clear hx68008_0
         try clear p68008
         try clear q68008
         obtain ⟨x4_3,x22_3,rfl,HA,HK3,HO_4,HO_16,HB⟩:=hrel
         cases gk with
         | zero=>exact absurd HA.out (by simp [impl_WordsOfLength.l2])
         | succ k3 =>
          have H:=HA.out
          clear HA
          simp only [impl_WordsOfLength.l2] at H
          by_cases c13:x22_3 < 3
          rw [if_pos c13] at H
          have c13b0:decide (x22_3 < 3)=true:=decide_eq_true c13
          clear c13
          by_cases c14:0≤x22_3
          rw [if_pos c14] at H
          have c14b0:=eq_true c14
          have c14b1:decide (0≤x22_3)=true:=decide_eq_true c14
          clear c14
          by_cases c15:x22_3≤(wrap64 (x22_3+1))
          rw [if_pos c15] at H
          have c15b0:=eq_true c15
          have c15b1:decide (x22_3≤(wrap64 (x22_3+1)))=true:=decide_eq_true c15
          by_cases c16:(wrap64 (x22_3+1))≤3
          rw [if_pos c16] at H
          have c16b0:=eq_true c16
          have c16b1:decide ((wrap64 (x22_3+1))≤3)=true:=decide_eq_true c16
          by_cases c17:(rdOf ByteArray.empty x3_1 x18_2).size+((⟨#[97,98,99]⟩:ByteArray).extract (x22_3:Int).toNat ((wrap64 (x22_3+1)):Int).toNat).size≤9223372036854775807
          rw [if_pos c17] at H
          have c17z:=c17
          try simp at c17z
          try replace c17z:=eq_false (Nat.not_lt.2 c17z)
          have c17b0:=eq_true c17
          have c17b1:decide ((rdOf ByteArray.empty x3_1 x18_2).size+((⟨#[97,98,99]⟩:ByteArray).extract (x22_3:Int).toNat ((wrap64 (x22_3+1)):Int).toNat).size≤9223372036854775807)=true:=decide_eq_true c17
          try have c17b2:(9223372036854775807 < (rdOf ByteArray.empty x3_1 x18_2).size+((⟨#[97,98,99]⟩:ByteArray).extract (x22_3:Int).toNat ((wrap64 (x22_3+1)):Int).toNat).size)=False:=eq_false (Nat.not_lt.2 c17)
          by_cases c18:x4_3.length < 8796093022208
          ·rw [if_pos c18] at H
           have LMc18:=zk c18
           clear c18
           obtain ⟨y68009,hy68009⟩:∃ y_:List ByteArray,y_=(x4_3 ++ [(rdOf ByteArray.empty x3_1 x18_2) ++ ((⟨#[97,98,99]⟩:ByteArray).extract (x22_3:Int).toNat ((wrap64 (x22_3+1)):Int).toNat)]):=⟨_,rfl⟩
           replace H:(impl_WordsOfLength.l2 k3 y68009 (rdOf ByteArray.empty x3_1 x18_2) a0 x13_1 x3_1 (x3_1.length:Int) x18_2 (wrap64 (x22_3+1)))=some r:=by first|(rw [hy68009];with_reducible exact H)|(have H2_:=(Option.bind_some _ _).symm.trans H;rw [hy68009];with_reducible exact H2_)|(have H2_:=(Option.bind_some _ _).symm.trans H;with_reducible exact H2_)|with_reducible exact H|(rw [hy68009];exact H)|exact H
           have Ny68009:=zk hy68009
           clear hy68009
           have H':=zk H
           clear H
           go_wp2_with (first|((with_reducible refine gate_builtin (b:=.append) (xs:=#[.tmp 25,.tmp 32]) rfl ?_);at_builtin;refine Kd.R_append Kd.string (w0:=w) w.heap.size rfl (.tmp 25) (.tmp 32) 53 9 (.string ⟨#[]⟩) 16 rfl Tryz.underlying53 info9 rfl (by decide) (by omega) u4 x4_3 ((rdOf ByteArray.empty x3_1 x18_2) ++ ((⟨#[97,98,99]⟩:ByteArray).extract (x22_3:Int).toNat ((wrap64 (x22_3+1)):Int).toNat)) [.string ((rdOf ByteArray.empty x3_1 x18_2) ++ ((⟨#[97,98,99]⟩:ByteArray).extract (x22_3:Int).toNat ((wrap64 (x22_3+1)):Int).toNat))] (fun k_=>some k_ ≠ (.slice (some ad68008) x3_1.length co9:Value).ownBlock) (fun _=>False) rfl rfl ?aP (fun _ hk=>hk.elim) ?aF ?aO ?aB ?aS ?aL ?_;(case aP=>exact rfl);(case aB=>exact za3);(case aF=>exact (fun k_ hk=>Kd.fresh' (Kd.R_lt (za0 HO_16.out)) k_ hk));(case aO=>exact (za0 HO_4.out));(case aS=>exact (below_size za3));(case aL=>have:=LMc18.out;omega);intro v68010 w19 ho hb hg hat;rw [← Ny68009.out] at ho;have n0_:=zk (Kd.R_after (ok:=(fun _=>True)) (by (with_reducible repeat (first|apply Kd.R_alloc|apply Kd.R_drewN|apply Kd.R_drew));exact Kd.R_mono HO_16.out (fun _ hk=>⟨trivial,hk⟩)) hg hat);have n1_:=zk (hb);have n2_:=zk (ho);clear HO_16;clear HB;clear HO_4;have HO_16:=n0_;have HB:=n1_;have HO68011:=n2_;clear n0_ n1_ n2_;clear ho hb hg hat))
           go_roundg k3
           case measure=>have:=HK1.out;have:=HK2.out;have:=HK3.out;omega
           case rel=>exact ⟨(y68009),(wrap64 (x22_3+1)),za7,H',⟨za34⟩,⟨za0 HO68011.out⟩,⟨by (with_reducible repeat (first|apply Kd.R_alloc|apply Kd.R_drewN|apply Kd.R_drew));exact Kd.R_mono HO_16.out (fun _ hk=>hk.2)⟩,⟨za3⟩⟩
          ·rw [if_neg c18] at H
           exact absurd H (by simp)
          ·rw [if_neg c17] at H
           exact absurd H (by simp)
          ·rw [if_neg c16] at H
           exact absurd H (by simp)
          ·rw [if_neg c15] at H
           exact absurd H (by simp)
          ·rw [if_neg c14] at H
           exact absurd H (by simp)
          ·rw [if_neg c13] at H
           have c13b0:decide (x22_3 < 3)=false:=decide_eq_false c13
           clear c13
           have H':=zk H
           clear H
           go_wp2
           go_roundg k3
           case measure=>have:=HK1.out;have:=HK2.out;have:=HK3.out;omega
           case rel=>exact ⟨(x4_3),(wrap64 (x18_2+1)),za7,H',⟨za34⟩,⟨za0 HO_4.out⟩,⟨za0 HO_16.out⟩,⟨za3⟩⟩
       ·rw [if_neg c12] at H
        exact absurd H (by simp)
       ·rw [if_neg c11] at H
        exact absurd H (by simp)
       ·rw [if_neg c10] at H
        have c10b0:decide (x18_2 < (x3_1.length:Int))=false:=decide_eq_false c10
        clear c10
        have H':=zk H
        clear H
        go_wp2
        go_roundg k2
        case measure=>have:=HK1.out;have:=HK2.out;omega
        case rel=>exact ⟨(x4_2),(wrap64 (x13_1+1)),za7,H',⟨by have:=HK1.out;have:=HK2.out;omega⟩,⟨by (with_reducible repeat (first|apply Kd.R_alloc|apply Kd.R_drewN|apply Kd.R_drew));exact Kd.R_mono HO_4.out (fun _ hk=>trivial)⟩,⟨za3⟩⟩
    ·rw [if_neg c6] at H
     have c6b0:decide (x13_1 < a0)=false:=decide_eq_false c6
     clear c6
     obtain rfl:=zi H
     go_wp2
     go_ret
     exact ⟨_,za6,za0 HO_3.out,za3⟩
 ·replace c3:=Bool.eq_false_iff.mpr c3
  subst c3
  have H1:(some ([]:List ByteArray))=some r:=by rw [if_neg (show ¬ (false=true) by decide)] at H;exact H
  clear H
  have H:=H1
  clear H1
  obtain rfl:=zi H
  go_enter Tryz.func68,Tryz.ntmps68
  go_wp2_with (first|((with_reducible refine gate_callee (f:=94) rfl ?_);refine goesL_ (some 9) rfl rfl Tryz.func94 (by kernel_rfl) rfl #[.int .i64 a0,.int .i64 0,.int .i64 5] rfl za4 ?_;(with_reducible refine (impl_within.calls a0 0 5 _ _ A2.out).mono ?_);rintro e w' ⟨rfl,⟨nd,rfl⟩⟩;refine ⟨_,rfl,?_⟩))
  go_ret
  exact ⟨_,za6,za41,za3⟩
def impl_WordsUpTo.l0:Nat→Int→List ByteArray→Int→Option (List ByteArray)
 | 0,_,_,_=>none
 | k+1,x0,x3,x4=>if x4≤(mn x0 5) then ((impl_WordsOfLength.f k x4).bind fun t32004=>(if x3.length+t32004.length < 8796093022208 then (impl_WordsUpTo.l0 k x0 (x3 ++ t32004) (wrap64 (x4+1))) else (none))) else (some x3)
def impl_WordsUpTo.f (k:Nat) (a0:Int):Option (List ByteArray):=if a0 < 0 then (some ([]:List ByteArray)) else (impl_WordsUpTo.l0 k a0 (([]:List ByteArray)) 0)
theorem impl_WordsUpTo.mono_l:∀ k,(∀ y0 y1 y2,LeO (impl_WordsUpTo.l0 k y0 y1 y2) (impl_WordsUpTo.l0 (k+1) y0 y1 y2))
 | 0=>fun _ _ _ r h=>by simp [impl_WordsUpTo.l0] at h
 | k+1=>by
  have ih0:=impl_WordsUpTo.mono_l k
  ·intro y0 y1 y2
   unfold impl_WordsUpTo.l0
   repeat' first
   | with_reducible first|exact ih0 _ _ _|exact impl_WordsOfLength.mono _ _|exact LeO.refl _|exact LeO.none _|refine LeO.ite ?_ ?_|refine LeO.bind ?_ (fun _=>?_)
theorem impl_WordsUpTo.mono:∀ a0 k,LeO (impl_WordsUpTo.f k a0) (impl_WordsUpTo.f (k+1) a0):=by
 intro a0 k
 have ih0:=impl_WordsUpTo.mono_l k
 unfold impl_WordsUpTo.f
 repeat' first
  | with_reducible first|exact ih0 _ _ _|exact impl_WordsOfLength.mono _ _|exact LeO.refl _|exact LeO.none _|refine LeO.ite ?_ ?_|refine LeO.bind ?_ (fun _=>?_)
theorem impl_WordsUpTo.calls (k:Nat) (a0:Int) (r:List ByteArray) (w:World) (h:impl_WordsUpTo.f k a0=some r) :
  Calls Tryz.prog 32 #[.int .i64 a0] w fun e w'=>∃ v0_:Value,e = .returned (v0_)∧Kd.R Kd.string 9 w' w.heap.size (fun _=>True) v0_ r∧Below w.heap.size w w':=by
 have HB:=zk (Below.refl w.heap.size w)
 have H:(if a0 < 0 then (some ([]:List ByteArray)) else (impl_WordsUpTo.l0 k a0 (([]:List ByteArray)) 0))=some r:=h
 clear h
 by_cases c2:a0 < 0
 ·rw [if_pos c2] at H
  have c2b0:decide (a0 < 0)=true:=decide_eq_true c2
  clear c2
  obtain rfl:=zi H
  go_enter Tryz.func32,Tryz.ntmps32
  go_wp2
  go_ret
  exact ⟨_,za6,za41,za3⟩
 ·rw [if_neg c2] at H
  have c2b0:decide (a0 < 0)=false:=decide_eq_false c2
  clear c2
  obtain ⟨y32001,hy32001⟩:∃ y_:List ByteArray,y_=(([]:List ByteArray)):=⟨_,rfl⟩
  replace H:(impl_WordsUpTo.l0 k a0 y32001 0)=some r:=by first|(rw [hy32001];with_reducible exact H)|(have H2_:=(Option.bind_some _ _).symm.trans H;rw [hy32001];with_reducible exact H2_)|(have H2_:=(Option.bind_some _ _).symm.trans H;with_reducible exact H2_)|with_reducible exact H|(rw [hy32001];exact H)|exact H
  have Ny32001:=zk hy32001
  clear hy32001
  have H':=zk H
  clear H
  go_enter Tryz.func32,Tryz.ntmps32
  go_wp2_with (first|((with_reducible refine gate_dst (N:=7) rfl ?_);refine Kd.R_lit Kd.string _ 9 ?hg (N:=7) ?hd (xs:=([]:List ByteArray)) (inner:=[]) (ok:=fun _=>True) (okp:=fun _=>True) ?hr ?hp (fun _ hk=>hk) trivial (Below.refl _ _) (Nat.le_refl _) (by simp) ?_;(case hd=>rfl);(case hg=>rfl);(case hr=>first|(go_simp;done)|(go_simp;rfl));(case hp=>exact (Reps.none _ _));intro v32002 w3 ho4 hb hg_ hnew_;clear hg_ hnew_;(first|rw [← Ny32001.out] at ho4|(simp only [Int.reduceToNat] at ho4;rw [← Ny32001.out] at ho4));have n0_:=zk (Kd.R_lower ho4 (below_size za3));have n1_:=zk (below_step za3 hb);clear HB;have HO32003:=n0_;have HB:=n1_;clear n0_ n1_;clear hb ho4))
  first|go_loopg [3,4] k (fun kq v3 v4 w'=>∃ (x3_1:List ByteArray) (x4_1:Int),v4 = .int .i64 x4_1∧Aside0 (impl_WordsUpTo.l0 kq a0 x3_1 x4_1=some r)∧Aside0 (kq≤k)∧Aside0 (Kd.R Kd.string 9 w' w.heap.size (fun _=>True) v3 x3_1)∧Aside0 (Below w.heap.size w w'))|(simp only [Act.put,zt,zv,zu];go_loopg [3,4] k (fun kq v3 v4 w'=>∃ (x3_1:List ByteArray) (x4_1:Int),v4 = .int .i64 x4_1∧Aside0 (impl_WordsUpTo.l0 kq a0 x3_1 x4_1=some r)∧Aside0 (kq≤k)∧Aside0 (Kd.R Kd.string 9 w' w.heap.size (fun _=>True) v3 x3_1)∧Aside0 (Below w.heap.size w w')))
  case atStart=>exact ⟨(y32001),(0),za7,H',⟨Nat.le_refl _⟩,⟨za0 HO32003.out⟩,⟨za3⟩⟩
  case round =>
   clear H'
   try clear c2
   try clear c2b0
   obtain ⟨x3_1,x4_1,rfl,HA,HK1,HO_3,HB⟩:=hrel
   cases gk with
   | zero=>exact absurd HA.out (by simp [impl_WordsUpTo.l0])
   | succ k1 =>
    have H:=HA.out
    clear HA
    simp only [impl_WordsUpTo.l0] at H
    obtain ⟨ji5,hji5⟩:∃ j_:Int,(mn a0 5)=j_:=⟨_,rfl⟩
    replace H:(if x4_1≤(ji5) then ((impl_WordsOfLength.f k1 x4_1).bind fun t32004=>(if x3_1.length+t32004.length < 8796093022208 then (impl_WordsUpTo.l0 k1 a0 (x3_1 ++ t32004) (wrap64 (x4_1+1))) else (none))) else (some x3_1))=some r:=by first|(rw [hji5] at H;exact H)|(simp only [hji5] at H ⊢;exact H)
    have hji5_:(if 5 < a0 then 5 else a0)=ji5:=hji5
    by_cases c6:x4_1≤(ji5)
    rw [if_pos c6] at H
    have c6b0:decide (x4_1≤(ji5))=true:=decide_eq_true c6
    clear c6
    replace H:=zo H
    obtain ⟨t32004,A70,H⟩:=H
    replace H:(if x3_1.length+t32004.length < 8796093022208 then (impl_WordsUpTo.l0 k1 a0 (x3_1 ++ t32004) (wrap64 (x4_1+1))) else (none))=some r:=H
    have A7:=zk A70
    clear A70
    by_cases c8:x3_1.length+t32004.length < 8796093022208
    ·rw [if_pos c8] at H
     have LMc8:=zk c8
     clear c8
     obtain ⟨y32007,hy32007⟩:∃ y_:List ByteArray,y_=(x3_1 ++ t32004):=⟨_,rfl⟩
     replace H:(impl_WordsUpTo.l0 k1 a0 y32007 (wrap64 (x4_1+1)))=some r:=by first|(rw [hy32007];with_reducible exact H)|(have H2_:=(Option.bind_some _ _).symm.trans H;rw [hy32007];with_reducible exact H2_)|(have H2_:=(Option.bind_some _ _).symm.trans H;with_reducible exact H2_)|with_reducible exact H|(rw [hy32007];exact H)|exact H
     have Ny32007:=zk hy32007
     clear hy32007
     have H':=zk H
     clear H
     go_wp2_with (first|((with_reducible refine gate_callee (f:=68) rfl ?_);refine goesL_ (some 16) rfl rfl Tryz.func68 (by kernel_rfl) rfl #[.int .i64 x4_1] rfl za4 ?_;(with_reducible refine (impl_WordsOfLength.calls k1 x4_1 t32004 _ A7.out).mono ?_);rintro e w9 ⟨v32005,rfl,ho0,hb⟩;refine ⟨_,rfl,?_⟩;have n0_:=zk (Kd.R_elder' (za0 HO_3.out) (Kd.R_base ho0) hb);have n1_:=zk (Kd.R_lower (Kd.R_new' ho0 (Kd.R_lt (za0 HO_3.out))) (below_size za3));have n2_:=zk (below_step za3 hb);clear HO_3;clear HB;have HO_3:=n0_;have HO32006:=n1_;have HB:=n2_;clear n0_ n1_ n2_;(try clear hb);(try clear hb2);(try clear hk);(try clear hi);(try clear ho0);obtain ⟨Ao11,co11,eo11⟩:=Kd.R_slice HO32006.out;subst eo11)|((with_reducible refine gate_builtin (b:=.append) (xs:=#[.tmp 14,.tmp 16]) rfl ?_);at_builtin;refine Kd.R_append_rows Kd.string (w0:=w) w.heap.size rfl (.tmp 14) (.tmp 16) 53 9 (.string ⟨#[]⟩) 16 rfl Tryz.underlying53 info9 rfl (by decide) (by omega) u3 x3_1 t32004 _ _ _ (fun k_=>some k_ ≠ (.slice Ao11 t32004.length co11:Value).ownBlock) (fun _=>False) rfl rfl ?aO ?aR (fun _ _ h=>h) (fun _ h=>h.elim) ?aF ?aB ?aS ?aL ?_;(case aR=>repeat (first|exact (Kd.R_reads' HO32006.out).2.2|(with_reducible refine Kd.C_alloc ?_ _)|(with_reducible refine Kd.C_drewN ?_ _)|(with_reducible refine Kd.C_drew ?_)));(case aB=>exact za3);(case aF=>exact (fun k_ hk=>Kd.fresh' (Kd.R_lt (za0 HO32006.out)) k_ hk));(case aO=>exact za21);(case aS=>exact (below_size za3));(case aL=>have:=LMc8.out;omega);intro v32008 w10 ho hb hg hat;rw [← Ny32007.out] at ho;have n0_:=zk (Kd.R_after (ok:=(fun _=>True)) (za0 HO32006.out) hg hat);have n1_:=zk (hb);have n2_:=zk (ho);clear HO32006;clear HB;clear HO_3;have HO32006:=n0_;have HB:=n1_;have HO32009:=n2_;clear n0_ n1_ n2_;clear ho hb hg hat))
     go_roundg k1
     case measure=>have:=HK1.out;omega
     case rel=>exact ⟨(y32007),(wrap64 (x4_1+1)),za7,H',⟨za15⟩,⟨by (with_reducible repeat (first|apply Kd.R_alloc|apply Kd.R_drewN|apply Kd.R_drew));exact Kd.R_mono HO32009.out (fun _ hk=>trivial)⟩,⟨za3⟩⟩
    ·rw [if_neg c8] at H
     exact absurd H (by simp)
    ·rw [if_neg c6] at H
     have c6b0:decide (x4_1≤(ji5))=false:=decide_eq_false c6
     clear c6
     obtain rfl:=zi H
     go_wp2
     go_ret
     exact ⟨_,by first|rfl|(simp [errW_none,errW_some] <;> rfl)|(simp only [← hji5];first|rfl|(simp [errW_none,errW_some] <;> rfl))|(simp [*,errW_none,errW_some] <;> rfl),za0 HO_3.out,za3⟩
def impl_isVariable.f (a0:Int):Option (Bool):=(strings_IndexByte.f (⟨#[88,89,90]⟩:ByteArray) a0).bind fun t107001=>(some (decide (t107001 ≥ 0)))
theorem impl_isVariable.calls (a0:Int) (r:Bool) (w:World) (h:impl_isVariable.f a0=some r) :
  Calls Tryz.prog 107 #[.int .u8 a0] w fun e w'=>e = .returned (.bool r)∧Drawn0 w w':=by
 have H:((strings_IndexByte.f (⟨#[88,89,90]⟩:ByteArray) a0).bind fun t107001=>(some (decide (t107001 ≥ 0))))=some r:=h
 clear h
 replace H:=zo H
 obtain ⟨t107001,A20,H⟩:=H
 replace H:(some (decide (t107001 ≥ 0)))=some r:=H
 have A2:=zk A20
 clear A20
 obtain rfl:=zi H
 go_enter Tryz.func107,Tryz.ntmps107
 go_wp2_with (first|((with_reducible refine gate_callee (f:=75) rfl ?_);refine goesL_ (some 4) rfl rfl Tryz.func75 (by kernel_rfl) rfl #[.string (⟨#[88,89,90]⟩:ByteArray),.int .u8 a0] rfl za4 ?_;(with_reducible refine (strings_IndexByte.calls (⟨#[88,89,90]⟩:ByteArray) a0 t107001 _ A2.out).mono ?_);rintro e w' ⟨rfl,⟨nd,rfl⟩⟩;refine ⟨_,rfl,?_⟩))
 go_ret
 exact ⟨za7,za10⟩
def impl_IsTerm.l0:Nat→ByteArray→Int→Option (Bool)
 | 0,_,_=>none
 | k+1,x0,x3=>if x3 < (x0.size:Int) then (if 0≤x3 then ((impl_LetterIndex.f (bt x0 x3)).bind fun t91001=>(if t91001 < 0 then ((impl_isVariable.f (bt x0 x3)).bind fun t91002=>(if t91002=true then (impl_IsTerm.l0 k x0 (wrap64 (x3+1))) else (some false))) else (impl_IsTerm.l0 k x0 (wrap64 (x3+1))))) else (none)) else (some true)
def impl_IsTerm.f (k:Nat) (a0:ByteArray):Option (Bool):=if (a0.size:Int) > 12 then (some false) else (impl_IsTerm.l0 k a0 0)
theorem impl_IsTerm.mono_l:∀ k,(∀ y0 y1,LeO (impl_IsTerm.l0 k y0 y1) (impl_IsTerm.l0 (k+1) y0 y1))
 | 0=>fun _ _ r h=>by simp [impl_IsTerm.l0] at h
 | k+1=>by
  have ih0:=impl_IsTerm.mono_l k
  ·intro y0 y1
   unfold impl_IsTerm.l0
   repeat' first
   | with_reducible first|exact ih0 _ _|exact LeO.refl _|exact LeO.none _|refine LeO.ite ?_ ?_|refine LeO.bind ?_ (fun _=>?_)
theorem impl_IsTerm.mono:∀ a0 k,LeO (impl_IsTerm.f k a0) (impl_IsTerm.f (k+1) a0):=by
 intro a0 k
 have ih0:=impl_IsTerm.mono_l k
 unfold impl_IsTerm.f
 repeat' first
  | with_reducible first|exact ih0 _ _|exact LeO.refl _|exact LeO.none _|refine LeO.ite ?_ ?_|refine LeO.bind ?_ (fun _=>?_)
theorem impl_IsTerm.calls (k:Nat) (a0:ByteArray) (r:Bool) (w:World) (h:impl_IsTerm.f k a0=some r) :
  Calls Tryz.prog 91 #[.string a0] w fun e w'=>e = .returned (.bool r)∧Drawn0 w w':=by
 have H:(if (a0.size:Int) > 12 then (some false) else (impl_IsTerm.l0 k a0 0))=some r:=h
 clear h
 by_cases c2:(a0.size:Int) > 12
 ·rw [if_pos c2] at H
  have c2b0:decide (12 < (a0.size:Int))=true:=decide_eq_true c2
  have c2b1:decide (12 < a0.size)=true:=decide_eq_true (by omega)
  clear c2
  obtain rfl:=zi H
  go_enter Tryz.func91,Tryz.ntmps91
  go_wp2
  go_ret
  exact ⟨za7,za10⟩
 ·rw [if_neg c2] at H
  have c2b0:decide (12 < (a0.size:Int))=false:=decide_eq_false c2
  have c2b1:decide (12 < a0.size)=false:=decide_eq_false (by omega)
  clear c2
  have H':=zk H
  clear H
  go_enter Tryz.func91,Tryz.ntmps91
  go_wp2
  first|go_loopg [3] k (fun kq v3 w'=>∃ (x3_1:Int),v3 = .int .i64 x3_1∧Aside0 (impl_IsTerm.l0 kq a0 x3_1=some r)∧Aside0 (kq≤k)∧Drawn0 w w')|(simp only [Act.put,zt,zv,zu];go_loopg [3] k (fun kq v3 w'=>∃ (x3_1:Int),v3 = .int .i64 x3_1∧Aside0 (impl_IsTerm.l0 kq a0 x3_1=some r)∧Aside0 (kq≤k)∧Drawn0 w w'))
  case atStart=>exact ⟨(0),za7,H',⟨Nat.le_refl _⟩,za10⟩
  case round =>
   clear H'
   try clear c2
   try clear c2b0
   try clear c2b1
   obtain ⟨x3_1,rfl,HA,HK1,⟨m1,rfl⟩⟩:=hrel
   cases gk with
   | zero=>exact absurd HA.out (by simp [impl_IsTerm.l0])
   | succ k1 =>
    have H:=HA.out
    clear HA
    simp only [impl_IsTerm.l0] at H
    by_cases c3:x3_1 < (a0.size:Int)
    rw [if_pos c3] at H
    have c3b0:decide (x3_1 < (a0.size:Int))=true:=decide_eq_true c3
    clear c3
    by_cases c4:0≤x3_1
    rw [if_pos c4] at H
    have c4b0:decide (0≤x3_1)=true:=decide_eq_true c4
    clear c4
    replace H:=zo H
    obtain ⟨t91001,A60,H⟩:=H
    replace H:(if t91001 < 0 then ((impl_isVariable.f (bt a0 x3_1)).bind fun t91002=>(if t91002=true then (impl_IsTerm.l0 k1 a0 (wrap64 (x3_1+1))) else (some false))) else (impl_IsTerm.l0 k1 a0 (wrap64 (x3_1+1))))=some r:=H
    have A6:=zk A60
    clear A60
    by_cases c7:t91001 < 0
    rw [if_pos c7] at H
    have c7b0:decide (t91001 < 0)=true:=decide_eq_true c7
    clear c7
    replace H:=zo H
    obtain ⟨t91002,A90,H⟩:=H
    replace H:(if t91002=true then (impl_IsTerm.l0 k1 a0 (wrap64 (x3_1+1))) else (some false))=some r:=H
    have A9:=zk A90
    clear A90
    by_cases c10:t91002=true
    subst c10
    have H1:(impl_IsTerm.l0 k1 a0 (wrap64 (x3_1+1)))=some r:=by rw [if_pos rfl] at H;exact H
    clear H
    have H:=H1
    clear H1
    have H':=zk H
    clear H
    have fin0_:=zk trivial
    rotate_left
    replace c10:=Bool.eq_false_iff.mpr c10
    subst c10
    have H1:(some false)=some r:=by rw [if_neg (show ¬ (false=true) by decide)] at H;exact H
    clear H
    have H:=H1
    clear H1
    obtain rfl:=zi H
    have fin1_:=zk trivial
    rotate_left
    · rw [if_neg c7] at H
      have c7b0:decide (t91001 < 0)=false:=decide_eq_false c7
      clear c7
      have H':=zk H
      clear H
      have p5:0≤(x3_1:Int):=of_decide_eq_true za8
      have q5:x3_1 < (a0.size:Int):=of_decide_eq_true za8
      have hx5:=bt_at a0 x3_1
      replace p5:=eq_true p5
      replace q5:=eq_true q5
      go_wp2_with (first|((with_reducible refine gate_callee (f:=124) rfl ?_);refine goesL_ (some 16) rfl rfl Tryz.func124 (by kernel_rfl) rfl #[.int .u8 (bt a0 x3_1)] rfl za4 ?_;(with_reducible refine (impl_LetterIndex.calls (bt a0 x3_1) t91001 _ A6.out).mono ?_);rintro e w' ⟨rfl,⟨nd,rfl⟩⟩;refine ⟨_,rfl,?_⟩))
      go_roundg k1
      case measure=>have:=HK1.out;omega
      case rel=>exact ⟨(wrap64 (x3_1+1)),za7,H',⟨za15⟩,za10⟩
    · rw [if_neg c4] at H
      exact absurd H (by simp)
    · rw [if_neg c3] at H
      have c3b0:decide (x3_1 < (a0.size:Int))=false:=decide_eq_false c3
      clear c3
      obtain rfl:=zi H
      go_wp2
      go_ret
      exact ⟨za7,za10⟩
    all_goals
     have p5:0≤(x3_1:Int):=of_decide_eq_true za8
     have q5:x3_1 < (a0.size:Int):=of_decide_eq_true za8
     have hx5:=bt_at a0 x3_1
     replace p5:=eq_true p5
     replace q5:=eq_true q5
     go_wp2_with (first|((with_reducible refine gate_callee (f:=124) rfl ?_);refine goesL_ (some 16) rfl rfl Tryz.func124 (by kernel_rfl) rfl #[.int .u8 (bt a0 x3_1)] rfl za4 ?_;(with_reducible refine (impl_LetterIndex.calls (bt a0 x3_1) t91001 _ A6.out).mono ?_);rintro e w' ⟨rfl,⟨nd,rfl⟩⟩;refine ⟨_,rfl,?_⟩;have p8:0≤(x3_1:Int):=of_decide_eq_true za8;have q8:x3_1 < (a0.size:Int):=of_decide_eq_true za8;have hx8:=bt_at a0 x3_1;replace p8:=eq_true p8;replace q8:=eq_true q8)|(go_at_call 107;(with_reducible refine (impl_isVariable.calls (bt a0 x3_1) _ _ A9.out).mono ?_);rintro e w' ⟨rfl,⟨nd,rfl⟩⟩))
     first
     | (
       clear fin0_
       go_roundg k1
       case measure=>have:=HK1.out;omega
       case rel=>exact ⟨(wrap64 (x3_1+1)),za7,H',⟨za15⟩,za10⟩)
     | (
       clear fin1_
       go_ret
       exact ⟨za7,za10⟩)
def impl_VarsOf.l0:Nat→ByteArray→ByteArray→Int→Option (ByteArray)
 | 0,_,_,_=>none
 | k+1,x0,x3,x5=>if x5 < 3 then (if 0≤x5 then ((strings_IndexByte.f x0 (bt (⟨#[88,89,90]⟩:ByteArray) x5)).bind fun t67001=>(if t67001 ≥ 0 then (if x5≤(wrap64 (x5+1)) then (if (wrap64 (x5+1))≤3 then (if x3.size+((⟨#[88,89,90]⟩:ByteArray).extract (x5:Int).toNat ((wrap64 (x5+1)):Int).toNat).size≤9223372036854775807 then (impl_VarsOf.l0 k x0 (x3 ++ ((⟨#[88,89,90]⟩:ByteArray).extract (x5:Int).toNat ((wrap64 (x5+1)):Int).toNat)) (wrap64 (x5+1))) else (none)) else (none)) else (none)) else (impl_VarsOf.l0 k x0 x3 (wrap64 (x5+1))))) else (none)) else (some x3)
def impl_VarsOf.f (k:Nat) (a0:ByteArray):Option (ByteArray):=impl_VarsOf.l0 k a0 (⟨#[]⟩:ByteArray) 0
theorem impl_VarsOf.mono_l:∀ k,(∀ y0 y1 y2,LeO (impl_VarsOf.l0 k y0 y1 y2) (impl_VarsOf.l0 (k+1) y0 y1 y2))
 | 0=>fun _ _ _ r h=>by simp [impl_VarsOf.l0] at h
 | k+1=>by
  have ih0:=impl_VarsOf.mono_l k
  ·intro y0 y1 y2
   unfold impl_VarsOf.l0
   repeat' first
   | with_reducible first|exact ih0 _ _ _|exact LeO.refl _|exact LeO.none _|refine LeO.ite ?_ ?_|refine LeO.bind ?_ (fun _=>?_)
theorem impl_VarsOf.mono:∀ a0 k,LeO (impl_VarsOf.f k a0) (impl_VarsOf.f (k+1) a0):=by
 intro a0 k
 have ih0:=impl_VarsOf.mono_l k
 unfold impl_VarsOf.f
 repeat' first
  | with_reducible first|exact ih0 _ _ _|exact LeO.refl _|exact LeO.none _|refine LeO.ite ?_ ?_|refine LeO.bind ?_ (fun _=>?_)
theorem impl_VarsOf.calls (k:Nat) (a0:ByteArray) (r:ByteArray) (w:World) (h:impl_VarsOf.f k a0=some r) :
   Calls Tryz.prog 67 #[.string a0] w fun e w'=>e = .returned (.string r)∧Drawn0 w w':=by
 have H:(impl_VarsOf.l0 k a0 (⟨#[]⟩:ByteArray) 0)=some r:=h
 clear h
 have H':=zk H
 clear H
 go_enter Tryz.func67,Tryz.ntmps67
 go_wp2
 first|go_loopg [3,5] k (fun kq v3 v5 w'=>∃ (x3_1:ByteArray) (x5_1:Int),v3 = .string x3_1∧v5 = .int .i64 x5_1∧Aside0 (impl_VarsOf.l0 kq a0 x3_1 x5_1=some r)∧Aside0 (kq≤k)∧Drawn0 w w')|(simp only [Act.put,zt,zv,zu];go_loopg [3,5] k (fun kq v3 v5 w'=>∃ (x3_1:ByteArray) (x5_1:Int),v3 = .string x3_1∧v5 = .int .i64 x5_1∧Aside0 (impl_VarsOf.l0 kq a0 x3_1 x5_1=some r)∧Aside0 (kq≤k)∧Drawn0 w w'))
 case atStart=>exact ⟨((⟨#[]⟩:ByteArray)),(0),za7,za7,H',⟨Nat.le_refl _⟩,za10⟩
 case round =>
  clear H'
  obtain ⟨x3_1,x5_1,rfl,rfl,HA,HK1,⟨m1,rfl⟩⟩:=hrel
  cases gk with
  | zero=>exact absurd HA.out (by simp [impl_VarsOf.l0])
  | succ k1 =>
   have H:=HA.out
   clear HA
   simp only [impl_VarsOf.l0] at H
   by_cases c2:x5_1 < 3
   rw [if_pos c2] at H
   have c2b0:decide (x5_1 < 3)=true:=decide_eq_true c2
   clear c2
   by_cases c3:0≤x5_1
   rw [if_pos c3] at H
   have c3b0:decide (0≤x5_1)=true:=decide_eq_true c3
   clear c3
   replace H:=zo H
   obtain ⟨t67001,A50,H⟩:=H
   replace H:(if t67001 ≥ 0 then (if x5_1≤(wrap64 (x5_1+1)) then (if (wrap64 (x5_1+1))≤3 then (if x3_1.size+((⟨#[88,89,90]⟩:ByteArray).extract (x5_1:Int).toNat ((wrap64 (x5_1+1)):Int).toNat).size≤9223372036854775807 then (impl_VarsOf.l0 k1 a0 (x3_1 ++ ((⟨#[88,89,90]⟩:ByteArray).extract (x5_1:Int).toNat ((wrap64 (x5_1+1)):Int).toNat)) (wrap64 (x5_1+1))) else (none)) else (none)) else (none)) else (impl_VarsOf.l0 k1 a0 x3_1 (wrap64 (x5_1+1))))=some r:=H
   have A5:=zk A50
   clear A50
   by_cases c6:t67001 ≥ 0
   rw [if_pos c6] at H
   have c6b0:decide (0≤t67001)=true:=decide_eq_true c6
   clear c6
   have c7b0:=eq_true (of_decide_eq_true za8:0≤x5_1)
   by_cases c8:x5_1≤(wrap64 (x5_1+1))
   rw [if_pos c8] at H
   have c8b0:=eq_true c8
   have c8b1:decide (x5_1≤(wrap64 (x5_1+1)))=true:=decide_eq_true c8
   by_cases c9:(wrap64 (x5_1+1))≤3
   rw [if_pos c9] at H
   have c9b0:=eq_true c9
   have c9b1:decide ((wrap64 (x5_1+1))≤3)=true:=decide_eq_true c9
   by_cases c10:x3_1.size+((⟨#[88,89,90]⟩:ByteArray).extract (x5_1:Int).toNat ((wrap64 (x5_1+1)):Int).toNat).size≤9223372036854775807
   rw [if_pos c10] at H
   have c10z:=c10
   try simp at c10z
   try replace c10z:=eq_false (Nat.not_lt.2 c10z)
   have c10b0:=eq_true c10
   have c10b1:decide (x3_1.size+((⟨#[88,89,90]⟩:ByteArray).extract (x5_1:Int).toNat ((wrap64 (x5_1+1)):Int).toNat).size≤9223372036854775807)=true:=decide_eq_true c10
   try have c10b2:(9223372036854775807 < x3_1.size+((⟨#[88,89,90]⟩:ByteArray).extract (x5_1:Int).toNat ((wrap64 (x5_1+1)):Int).toNat).size)=False:=eq_false (Nat.not_lt.2 c10)
   have fin0_:=zk trivial
   rotate_left
   · rw [if_neg c10] at H
     exact absurd H (by simp)
   · rw [if_neg c9] at H
     exact absurd H (by simp)
   · rw [if_neg c8] at H
     exact absurd H (by simp)
   rw [if_neg c6] at H
   have c6b0:decide (0≤t67001)=false:=decide_eq_false c6
   clear c6
   have fin1_:=zk trivial
   rotate_left
   · rw [if_neg c3] at H
     exact absurd H (by simp)
   · rw [if_neg c2] at H
     have c2b0:decide (x5_1 < 3)=false:=decide_eq_false c2
     clear c2
     obtain rfl:=zi H
     go_wp2
     go_ret
     exact ⟨za7,za10⟩
   all_goals
    have H':=zk H
    clear H
    have p4:0≤(x5_1:Int):=of_decide_eq_true za8
    have q4:x5_1 < (3:Int):=of_decide_eq_true za8
    have hx4:=bt_at (⟨#[88,89,90]⟩:ByteArray) x5_1
    replace p4:=eq_true p4
    replace q4:=eq_true q4
    go_wp2_with (((with_reducible refine gate_callee (f:=75) rfl ?_);refine goesL_ (some 11) rfl rfl Tryz.func75 (by kernel_rfl) rfl #[.string a0,.int .u8 (bt (⟨#[88,89,90]⟩:ByteArray) x5_1)] rfl za4 ?_;(with_reducible refine (strings_IndexByte.calls a0 (bt (⟨#[88,89,90]⟩:ByteArray) x5_1) t67001 _ A5.out).mono ?_);rintro e w' ⟨rfl,⟨nd,rfl⟩⟩;refine ⟨_,rfl,?_⟩))
    first
    | (
      clear fin0_
      go_roundg k1
      case measure=>have:=HK1.out;omega
      case rel=>exact ⟨(x3_1 ++ ((⟨#[88,89,90]⟩:ByteArray).extract (x5_1:Int).toNat ((wrap64 (x5_1+1)):Int).toNat)),(wrap64 (x5_1+1)),za7,za7,H',⟨za15⟩,za10⟩)
    | (
      clear fin1_
      go_roundg k1
      case measure=>have:=HK1.out;omega
      case rel=>exact ⟨(x3_1),(wrap64 (x5_1+1)),za7,za7,H',⟨za15⟩,za10⟩)
def impl_WithValue.f (a0_0:ByteArray) (a0_1:ByteArray) (a0_2:ByteArray) (a1:Int) (a2:ByteArray):Option (ByteArray × ByteArray × ByteArray):=if a1=88 then (some (a2,a0_1,a0_2)) else (if a1=89 then (some (a0_0,a2,a0_2)) else (if a1=90 then (some (a0_0,a0_1,a2)) else (some (a0_0,a0_1,a0_2))))
theorem impl_WithValue.calls (a0_0:ByteArray) (a0_1:ByteArray) (a0_2:ByteArray) (a1:Int) (a2:ByteArray) (r1:ByteArray) (r2:ByteArray) (r3:ByteArray) (w:World) (h:impl_WithValue.f a0_0 a0_1 a0_2 a1 a2=some (r1,r2,r3)) :
   Calls Tryz.prog 34 #[.agg #[.string a0_0,.string a0_1,.string a0_2],.int .u8 a1,.string a2] w fun e w'=>e = .returned (.agg #[.string r1,.string r2,.string r3])∧Below w.heap.size w w':=by
 have hu32:=Tryz.underlying32
 have HB:=zk (Below.refl w.heap.size w)
 have H:(if a1=88 then (some (a2,a0_1,a0_2)) else (if a1=89 then (some (a0_0,a2,a0_2)) else (if a1=90 then (some (a0_0,a0_1,a2)) else (some (a0_0,a0_1,a0_2)))))=some (r1,r2,r3):=h
 clear h
 by_cases c4:a1=88
 rw [if_pos c4] at H
 have c4b0:(a1 == 88)=true:=beq_iff_eq.mpr c4
 have c4b1:(a1 != 88)=false:=bne_eq_false_iff_eq.mpr c4
 clear c4
 have fin3_:=zk trivial
 rotate_left
 rw [if_neg c4] at H
 have c4b0:(a1 == 88)=false:=beq_eq_false_iff_ne.mpr c4
 have c4b1:(a1 != 88)=true:=bne_iff_ne.mpr c4
 by_cases c10:a1=89
 rw [if_pos c10] at H
 have c10b0:(a1 == 89)=true:=beq_iff_eq.mpr c10
 have c10b1:(a1 != 89)=false:=bne_eq_false_iff_eq.mpr c10
 clear c10
 have fin0_:=zk trivial
 rotate_left
 rw [if_neg c10] at H
 have c10b0:(a1 == 89)=false:=beq_eq_false_iff_ne.mpr c10
 have c10b1:(a1 != 89)=true:=bne_iff_ne.mpr c10
 by_cases c16:a1=90
 rw [if_pos c16] at H
 have c16b0:(a1 == 90)=true:=beq_iff_eq.mpr c16
 have c16b1:(a1 != 90)=false:=bne_eq_false_iff_eq.mpr c16
 clear c16
 have fin1_:=zk trivial
 rotate_left
 rw [if_neg c16] at H
 have c16b0:(a1 == 90)=false:=beq_eq_false_iff_ne.mpr c16
 have c16b1:(a1 != 90)=true:=bne_iff_ne.mpr c16
 have fin2_:=zk trivial
 rotate_left
 all_goals
  simp only [Option.some.injEq,Prod.mk.injEq] at H
  obtain ⟨rfl,rfl,rfl⟩:=H
  go_enter Tryz.func34,Tryz.ntmps34
  go_wp2_with (first|((with_reducible refine gate_dst (N:=3) rfl ?_);refine zE (N:=3) (cs:=#[.string a0_0,.string a0_1,.string a0_2]) (t:=32) ?_;intro gb34001 hg w11 hbox hb;have n0_:=zk (below_step za3 hb);have n1_:=zk (hbox);have n2_:=zk (zs (w:=w) hg za3);have n3_:=zk (zs (w:=w) hg za3);clear HB;have HB:=n0_;have BK34001:=n1_;have GW34001:=n2_;have GE34001:=n3_;clear n0_ n1_ n2_ n3_;clear hb hbox hg)|((with_reducible refine gate_dst (N:=6) rfl ?_);refine zE (N:=6) (cs:=#[.string (⟨#[]⟩:ByteArray),.string (⟨#[]⟩:ByteArray),.string (⟨#[]⟩:ByteArray)]) (t:=32) ?_;intro gb34002 hg w12 hbox hb;have n0_:=zk (zb BK34001.out hb);have n1_:=zk (below_step za3 hb);have n2_:=zk (hbox);have n3_:=zk (zs (w:=w) hg za3);have n4_:=zk (zs (w:=w) hg za3);have n5_:=zk ((by rw [hg];exact Nat.ne_of_lt (zl BK34001.out):gb34001 ≠ gb34002));have n6_:=zk ((by rw [hg];exact Nat.ne_of_gt (zl BK34001.out):gb34002 ≠ gb34001));clear BK34001;clear HB;have BK34001:=n0_;have HB:=n1_;have BK34002:=n2_;have GW34002:=n3_;have GE34002:=n4_;have NB34001_34002:=n5_;have NB34002_34001:=n6_;clear n0_ n1_ n2_ n3_ n4_ n5_ n6_;clear hb hbox hg;have hnb13:=NB34001_34002.out;have hnc13:=NB34002_34001.out;obtain ⟨hcz14_0,hcz14_1,hcz14_2,hfz14_0,hfz14_1,hfz14_2⟩:=blk3 BK34001.out;obtain ⟨hcz15_0,hcz15_1,hcz15_2,hfz15_0,hfz15_1,hfz15_2⟩:=blk3 BK34002.out))
  first
  | (
    clear fin0_
    refine bodyPost_ret (results_cell_row rfl _ _ gb34002 32 #[.string a0_0,.string a2,.string a0_2] (0,0) _ rfl (by (with_reducible repeat (first|refine blk_drewN ?_ _|refine blk_drew ?_|refine blk_alloc ?_ _));refine blk_put (cs:=#[.string a0_0,.string a2,.string (⟨#[]⟩:ByteArray)]) ?_ 2 _ rfl;(with_reducible repeat (first|refine blk_drewN ?_ _|refine blk_drew ?_|refine blk_alloc ?_ _));refine blk_put (cs:=#[.string a0_0,.string (⟨#[]⟩:ByteArray),.string (⟨#[]⟩:ByteArray)]) ?_ 1 _ rfl;(with_reducible repeat (first|refine blk_drewN ?_ _|refine blk_drew ?_|refine blk_alloc ?_ _));refine blk_put (cs:=#[.string (⟨#[]⟩:ByteArray),.string (⟨#[]⟩:ByteArray),.string (⟨#[]⟩:ByteArray)]) ?_ 0 _ rfl;(with_reducible repeat (first|refine blk_drewN ?_ _|refine blk_drew ?_|refine blk_alloc ?_ _));refine blk_far ?_ NB34002_34001.out _;(with_reducible repeat (first|refine blk_drewN ?_ _|refine blk_drew ?_|refine blk_alloc ?_ _));exact BK34002.out) Tryz.underlying32 rfl (by kernel_rfl)) rfl ?_
    exact ⟨za6,za3⟩)
  | (
    clear fin1_
    refine bodyPost_ret (results_cell_row rfl _ _ gb34002 32 #[.string a0_0,.string a0_1,.string a2] (0,0) _ rfl (by (with_reducible repeat (first|refine blk_drewN ?_ _|refine blk_drew ?_|refine blk_alloc ?_ _));refine blk_put (cs:=#[.string a0_0,.string a0_1,.string (⟨#[]⟩:ByteArray)]) ?_ 2 _ rfl;(with_reducible repeat (first|refine blk_drewN ?_ _|refine blk_drew ?_|refine blk_alloc ?_ _));refine blk_put (cs:=#[.string a0_0,.string (⟨#[]⟩:ByteArray),.string (⟨#[]⟩:ByteArray)]) ?_ 1 _ rfl;(with_reducible repeat (first|refine blk_drewN ?_ _|refine blk_drew ?_|refine blk_alloc ?_ _));refine blk_put (cs:=#[.string (⟨#[]⟩:ByteArray),.string (⟨#[]⟩:ByteArray),.string (⟨#[]⟩:ByteArray)]) ?_ 0 _ rfl;(with_reducible repeat (first|refine blk_drewN ?_ _|refine blk_drew ?_|refine blk_alloc ?_ _));refine blk_far ?_ NB34002_34001.out _;(with_reducible repeat (first|refine blk_drewN ?_ _|refine blk_drew ?_|refine blk_alloc ?_ _));exact BK34002.out) Tryz.underlying32 rfl (by kernel_rfl)) rfl ?_
    exact ⟨za6,za3⟩)
  | (
    clear fin2_
    refine bodyPost_ret (results_cell_row rfl _ _ gb34002 32 #[.string a0_0,.string a0_1,.string a0_2] (0,0) _ rfl (za2 BK34002.out) Tryz.underlying32 rfl (by kernel_rfl)) rfl ?_
    exact ⟨za6,za3⟩)
  | (
    clear fin3_
    refine bodyPost_ret (results_cell_row rfl _ _ gb34002 32 #[.string a2,.string a0_1,.string a0_2] (0,0) _ rfl (by (with_reducible repeat (first|refine blk_drewN ?_ _|refine blk_drew ?_|refine blk_alloc ?_ _));refine blk_put (cs:=#[.string a2,.string a0_1,.string (⟨#[]⟩:ByteArray)]) ?_ 2 _ rfl;(with_reducible repeat (first|refine blk_drewN ?_ _|refine blk_drew ?_|refine blk_alloc ?_ _));refine blk_put (cs:=#[.string a2,.string (⟨#[]⟩:ByteArray),.string (⟨#[]⟩:ByteArray)]) ?_ 1 _ rfl;(with_reducible repeat (first|refine blk_drewN ?_ _|refine blk_drew ?_|refine blk_alloc ?_ _));refine blk_put (cs:=#[.string (⟨#[]⟩:ByteArray),.string (⟨#[]⟩:ByteArray),.string (⟨#[]⟩:ByteArray)]) ?_ 0 _ rfl;(with_reducible repeat (first|refine blk_drewN ?_ _|refine blk_drew ?_|refine blk_alloc ?_ _));refine blk_far ?_ NB34002_34001.out _;(with_reducible repeat (first|refine blk_drewN ?_ _|refine blk_drew ?_|refine blk_alloc ?_ _));exact BK34002.out) Tryz.underlying32 rfl (by kernel_rfl)) rfl ?_
    exact ⟨za6,za3⟩)
def impl_IsValues.f (k:Nat) (a0_0:ByteArray) (a0_1:ByteArray) (a0_2:ByteArray):Option (Bool):=(impl_IsWord.f k a0_0).bind fun t40002=>(if t40002=true then ((impl_IsWord.f k a0_1).bind fun t40003=>(if t40003=true then ((impl_IsWord.f k a0_2).bind fun t40004=>(some t40004)) else (some false))) else (some false))
theorem impl_IsValues.mono:∀ a0 a1 a2 k,LeO (impl_IsValues.f k a0 a1 a2) (impl_IsValues.f (k+1) a0 a1 a2):=by
 intro a0 a1 a2 k
 unfold impl_IsValues.f
 repeat' first
  | with_reducible first|exact impl_IsWord.mono _ _|exact LeO.refl _|exact LeO.none _|refine LeO.ite ?_ ?_|refine LeO.bind ?_ (fun _=>?_)
theorem impl_IsValues.calls (k:Nat) (a0_0:ByteArray) (a0_1:ByteArray) (a0_2:ByteArray) (r:Bool) (w:World) (h:impl_IsValues.f k a0_0 a0_1 a0_2=some r) :
   Calls Tryz.prog 40 #[.agg #[.string a0_0,.string a0_1,.string a0_2]] w fun e w'=>e = .returned (.bool r)∧Below w.heap.size w w':=by
 have hu32:=Tryz.underlying32
 have HB:=zk (Below.refl w.heap.size w)
 have H:((impl_IsWord.f k a0_0).bind fun t40002=>(if t40002=true then ((impl_IsWord.f k a0_1).bind fun t40003=>(if t40003=true then ((impl_IsWord.f k a0_2).bind fun t40004=>(some t40004)) else (some false))) else (some false)))=some r:=h
 clear h
 replace H:=zo H
 obtain ⟨t40002,A20,H⟩:=H
 replace H:(if t40002=true then ((impl_IsWord.f k a0_1).bind fun t40003=>(if t40003=true then ((impl_IsWord.f k a0_2).bind fun t40004=>(some t40004)) else (some false))) else (some false))=some r:=H
 have A2:=zk A20
 clear A20
 by_cases c3:t40002=true
 subst c3
 have H1:((impl_IsWord.f k a0_1).bind fun t40003=>(if t40003=true then ((impl_IsWord.f k a0_2).bind fun t40004=>(some t40004)) else (some false)))=some r:=by rw [if_pos rfl] at H;exact H
 clear H
 have H:=H1
 clear H1
 replace H:=zo H
 obtain ⟨t40003,A40,H⟩:=H
 replace H:(if t40003=true then ((impl_IsWord.f k a0_2).bind fun t40004=>(some t40004)) else (some false))=some r:=H
 have A4:=zk A40
 clear A40
 by_cases c5:t40003=true
 subst c5
 have H1:((impl_IsWord.f k a0_2).bind fun t40004=>(some t40004))=some r:=by rw [if_pos rfl] at H;exact H
 clear H
 have H:=H1
 clear H1
 replace H:=zo H
 obtain ⟨t40004,A60,H⟩:=H
 replace H:(some t40004)=some r:=H
 have A6:=zk A60
 clear A60
 rotate_left
 replace c5:=Bool.eq_false_iff.mpr c5
 subst c5
 have H1:(some false)=some r:=by rw [if_neg (show ¬ (false=true) by decide)] at H;exact H
 clear H
 have H:=H1
 clear H1
 rotate_left
 replace c3:=Bool.eq_false_iff.mpr c3
 subst c3
 have H1:(some false)=some r:=by rw [if_neg (show ¬ (false=true) by decide)] at H;exact H
 clear H
 have H:=H1
 clear H1
 rotate_left
 all_goals
  obtain rfl:=zi H
  go_enter Tryz.func40,Tryz.ntmps40
  go_wp2_with (first|((with_reducible refine gate_dst (N:=1) rfl ?_);refine zE (N:=1) (cs:=#[.string a0_0,.string a0_1,.string a0_2]) (t:=32) ?_;intro gb40001 hg w11 hbox hb;have n0_:=zk (below_step za3 hb);have n1_:=zk (hbox);have n2_:=zk (zs (w:=w) hg za3);have n3_:=zk (zs (w:=w) hg za3);clear HB;have HB:=n0_;have BK40001:=n1_;have GW40001:=n2_;have GE40001:=n3_;clear n0_ n1_ n2_ n3_;clear hb hbox hg;obtain ⟨hcz12_0,hcz12_1,hcz12_2,hfz12_0,hfz12_1,hfz12_2⟩:=blk3 BK40001.out)|((with_reducible refine gate_callee (f:=74) rfl ?_);refine goesL_ (some 5) rfl rfl Tryz.func74 (by kernel_rfl) rfl #[.string a0_0] rfl za4 ?_;(with_reducible refine (impl_IsWord.calls k a0_0 _ _ A2.out).mono ?_);rintro e w' ⟨rfl,⟨nd,rfl⟩⟩;refine ⟨_,rfl,?_⟩)|(go_at_call 74;(with_reducible refine (impl_IsWord.calls k a0_1 _ _ A4.out).mono ?_);rintro e w' ⟨rfl,⟨nd,rfl⟩⟩)|(go_at_call 74;(with_reducible refine (impl_IsWord.calls k a0_2 t40004 _ A6.out).mono ?_);rintro e w' ⟨rfl,⟨nd,rfl⟩⟩))
  go_ret
  exact ⟨za6,za3⟩
def impl_ValueOf.f (a0_0:ByteArray) (a0_1:ByteArray) (a0_2:ByteArray) (a1:Int):Option (ByteArray):=if a1=88 then (some a0_0) else (if a1=89 then (some a0_1) else (if a1=90 then (some a0_2) else (some (⟨#[]⟩:ByteArray))))
theorem impl_ValueOf.calls (a0_0:ByteArray) (a0_1:ByteArray) (a0_2:ByteArray) (a1:Int) (r:ByteArray) (w:World) (h:impl_ValueOf.f a0_0 a0_1 a0_2 a1=some r) :
   Calls Tryz.prog 106 #[.agg #[.string a0_0,.string a0_1,.string a0_2],.int .u8 a1] w fun e w'=>e = .returned (.string r)∧Below w.heap.size w w':=by
 have hu32:=Tryz.underlying32
 have HB:=zk (Below.refl w.heap.size w)
 have H:(if a1=88 then (some a0_0) else (if a1=89 then (some a0_1) else (if a1=90 then (some a0_2) else (some (⟨#[]⟩:ByteArray)))))=some r:=h
 clear h
 by_cases c3:a1=88
 rw [if_pos c3] at H
 have c3b0:(a1 == 88)=true:=beq_iff_eq.mpr c3
 have c3b1:(a1 != 88)=false:=bne_eq_false_iff_eq.mpr c3
 clear c3
 rotate_left
 rw [if_neg c3] at H
 have c3b0:(a1 == 88)=false:=beq_eq_false_iff_ne.mpr c3
 have c3b1:(a1 != 88)=true:=bne_iff_ne.mpr c3
 by_cases c6:a1=89
 rw [if_pos c6] at H
 have c6b0:(a1 == 89)=true:=beq_iff_eq.mpr c6
 have c6b1:(a1 != 89)=false:=bne_eq_false_iff_eq.mpr c6
 clear c6
 rotate_left
 rw [if_neg c6] at H
 have c6b0:(a1 == 89)=false:=beq_eq_false_iff_ne.mpr c6
 have c6b1:(a1 != 89)=true:=bne_iff_ne.mpr c6
 by_cases c9:a1=90
 rw [if_pos c9] at H
 have c9b0:(a1 == 90)=true:=beq_iff_eq.mpr c9
 have c9b1:(a1 != 90)=false:=bne_eq_false_iff_eq.mpr c9
 clear c9
 rotate_left
 rw [if_neg c9] at H
 have c9b0:(a1 == 90)=false:=beq_eq_false_iff_ne.mpr c9
 have c9b1:(a1 != 90)=true:=bne_iff_ne.mpr c9
 rotate_left
 all_goals
  obtain rfl:=zi H
  go_enter Tryz.func106,Tryz.ntmps106
  go_wp2_with (((with_reducible refine gate_dst (N:=2) rfl ?_);refine zE (N:=2) (cs:=#[.string a0_0,.string a0_1,.string a0_2]) (t:=32) ?_;intro gb106001 hg w10 hbox hb;have n0_:=zk (below_step za3 hb);have n1_:=zk (hbox);have n2_:=zk (zs (w:=w) hg za3);have n3_:=zk (zs (w:=w) hg za3);clear HB;have HB:=n0_;have BK106001:=n1_;have GW106001:=n2_;have GE106001:=n3_;clear n0_ n1_ n2_ n3_;clear hb hbox hg;obtain ⟨hcz11_0,hcz11_1,hcz11_2,hfz11_0,hfz11_1,hfz11_2⟩:=blk3 BK106001.out))
  go_ret
  exact ⟨za6,za3⟩
def impl_isZeroRegex.f (a0_0:Int) (a0_1:ByteArray) (l0_2:List (S65)):Option (Bool):=if a0_0=0 then (if a0_1.toList=([]:List UInt8) then (some ((l0_2.length:Int) == 0)) else (some false)) else (some false)
theorem impl_isZeroRegex.calls (a0_0:Int) (a0_1:ByteArray) (A0_2:Option Addr) (c0_2:Nat) (l0_2:List (S65)) (r:Bool) (w:World) (hr0_2:Kd.C k65 w A0_2 l0_2.length l0_2) (hc0_2:l0_2.length≤c0_2) (h:impl_isZeroRegex.f a0_0 a0_1 l0_2=some r) :
   Calls Tryz.prog 92 #[.agg #[.int .i64 a0_0,.string a0_1,.slice A0_2 l0_2.length c0_2]] w fun e w'=>e = .returned (.bool r)∧Below w.heap.size w w':=by
 have hu65:=Tryz.underlying65
 have HR0_2:=zk hr0_2
 have HC0_2:=zk hc0_2
 clear hr0_2 hc0_2
 have HB:=zk (Below.refl w.heap.size w)
 have H:(if a0_0=0 then (if a0_1.toList=([]:List UInt8) then (some ((l0_2.length:Int) == 0)) else (some false)) else (some false))=some r:=h
 clear h
 by_cases c2:a0_0=0
 rw [if_pos c2] at H
 have c2b0:(a0_0 == 0)=true:=beq_iff_eq.mpr c2
 have c2b1:(a0_0 != 0)=false:=bne_eq_false_iff_eq.mpr c2
 clear c2
 by_cases c3:a0_1.toList=([]:List UInt8)
 rw [if_pos c3] at H
 have c3b0:(a0_1.toList == ([]:List UInt8))=true:=beq_iff_eq.mpr c3
 have c3b1:(a0_1.toList != ([]:List UInt8))=false:=bne_eq_false_iff_eq.mpr c3
 clear c3
 rotate_left
 rw [if_neg c3] at H
 have c3b0:(a0_1.toList == ([]:List UInt8))=false:=beq_eq_false_iff_ne.mpr c3
 have c3b1:(a0_1.toList != ([]:List UInt8))=true:=bne_iff_ne.mpr c3
 rotate_left
 rw [if_neg c2] at H
 have c2b0:(a0_0 == 0)=false:=beq_eq_false_iff_ne.mpr c2
 have c2b1:(a0_0 != 0)=true:=bne_iff_ne.mpr c2
 rotate_left
 all_goals
  obtain rfl:=zi H
  go_enter Tryz.func92,Tryz.ntmps92
  go_wp2_with (((with_reducible refine gate_dst (N:=1) rfl ?_);(try (refine gate_guard (by rfl) ?_;dsimp only));refine zE (N:=1) (cs:=#[.int .i64 a0_0,.string a0_1,.slice A0_2 l0_2.length c0_2]) (t:=65) ?_;intro gb92001 hg w4 hbox hb;have n0_:=zk (below_step za3 hb);have n1_:=zk (hbox);have n2_:=zk (zs (w:=w) hg za3);have n3_:=zk (zs (w:=w) hg za3);clear HB;have HB:=n0_;have BK92001:=n1_;have GW92001:=n2_;have GE92001:=n3_;clear n0_ n1_ n2_ n3_;clear hb hbox hg;obtain ⟨hcz5_0,hcz5_1,hcz5_2,hfz5_0,hfz5_1,hfz5_2⟩:=blk3 BK92001.out))
  go_ret
  exact ⟨za6,za3⟩
mutual
def impl_argsOf.j0:Nat→Int→Bool→Option (Int)
 | 0,_,_=>none
 | k+1,x3,x4=>if x4=true then (some 0) else (if x3=8 then (impl_argsOf.j1 k x3 (x3 == 8)) else (impl_argsOf.j1 k x3 (x3 == 9)))
def impl_argsOf.j1:Nat→Int→Bool→Option (Int)
 | 0,_,_=>none
 | k+1,x3,x9=>if x9=true then (some 1) else (if x3=5 then (some 2) else (if x3=6 then (some 2) else (if x3=7 then (some 2) else (some (-1)))))
end
def impl_argsOf.f (k:Nat) (a0:Int):Option (Int):=if a0=1 then (impl_argsOf.j0 k a0 (a0 == 1)) else (if a0=2 then (impl_argsOf.j0 k a0 (a0 == 2)) else (if a0=3 then (impl_argsOf.j0 k a0 (a0 == 3)) else (impl_argsOf.j0 k a0 (a0 == 4))))
theorem impl_argsOf.mono_l:∀ k,(∀ y0 y1,LeO (impl_argsOf.j0 k y0 y1) (impl_argsOf.j0 (k+1) y0 y1))∧(∀ y0 y1,LeO (impl_argsOf.j1 k y0 y1) (impl_argsOf.j1 (k+1) y0 y1))
 | 0=>⟨fun _ _ r h=>by simp [impl_argsOf.j0] at h,fun _ _ r h=>by simp [impl_argsOf.j1] at h⟩
 | k+1=>by
  obtain ⟨ih0,ih1⟩:=impl_argsOf.mono_l k
  refine ⟨?_,?_⟩
  ·intro y0 y1
   unfold impl_argsOf.j0
   repeat' first
   | with_reducible first|exact ih0 _ _|exact ih1 _ _|exact LeO.refl _|exact LeO.none _|refine LeO.ite ?_ ?_|refine LeO.bind ?_ (fun _=>?_)
  ·intro y0 y1
   unfold impl_argsOf.j1
   repeat' first
   | with_reducible first|exact ih0 _ _|exact ih1 _ _|exact LeO.refl _|exact LeO.none _|refine LeO.ite ?_ ?_|refine LeO.bind ?_ (fun _=>?_)
theorem impl_argsOf.mono:∀ a0 k,LeO (impl_argsOf.f k a0) (impl_argsOf.f (k+1) a0):=by
 intro a0 k
 obtain ⟨ih0,ih1⟩:=impl_argsOf.mono_l k
 unfold impl_argsOf.f
 repeat' first
  | with_reducible first|exact ih0 _ _|exact ih1 _ _|exact LeO.refl _|exact LeO.none _|refine LeO.ite ?_ ?_|refine LeO.bind ?_ (fun _=>?_)
theorem impl_argsOf.calls (k:Nat) (a0:Int) (r:Int) (w:World) (h:impl_argsOf.f k a0=some r) :
   Calls Tryz.prog 138 #[.int .i64 a0] w fun e w'=>e = .returned (.int .i64 r)∧Drawn0 w w':=by
 have H:(if a0=1 then (impl_argsOf.j0 k a0 (a0 == 1)) else (if a0=2 then (impl_argsOf.j0 k a0 (a0 == 2)) else (if a0=3 then (impl_argsOf.j0 k a0 (a0 == 3)) else (impl_argsOf.j0 k a0 (a0 == 4)))))=some r:=h
 clear h
 have HC2:=zk H
 clear H
 go_enter Tryz.func138,Tryz.ntmps138
 go_upto_if 4 with (fail)
 go_cut [4] (fun v4 wc=>∃ (kq:Nat) (x4_1:Bool),v4 = .bool x4_1∧Aside0 (impl_argsOf.j0 kq a0 x4_1=some r)∧Aside0 (kq≤k)∧Drawn0 w wc)
 case first =>
  have H:=HC2.out
  clear HC2
  by_cases c3:a0=1
  · rw [if_pos c3] at H
    have c3b0:(a0 == 1)=true:=beq_iff_eq.mpr c3
    have c3b1:(a0 != 1)=false:=bne_eq_false_iff_eq.mpr c3
    clear c3
    (first|rw [c3b0]|(simp only [i64_w,i32_w];rw [c3b0])|skip)
    have H':=zk H
    clear H
    go_wp2
    go_meet
    case rel=>exact ⟨_,((a0 == 1)),za7,H',⟨za23⟩,za10⟩
  rw [if_neg c3] at H
  have c3b0:(a0 == 1)=false:=beq_eq_false_iff_ne.mpr c3
  have c3b1:(a0 != 1)=true:=bne_iff_ne.mpr c3
  (first|rw [c3b0]|(simp only [i64_w,i32_w];rw [c3b0])|skip)
  by_cases c4:a0=2
  · rw [if_pos c4] at H
    have c4b0:(a0 == 2)=true:=beq_iff_eq.mpr c4
    have c4b1:(a0 != 2)=false:=bne_eq_false_iff_eq.mpr c4
    clear c4
    have H':=zk H
    clear H
    go_wp2
    go_meet
    case rel=>exact ⟨_,((a0 == 2)),za7,H',⟨za23⟩,za10⟩
  rw [if_neg c4] at H
  have c4b0:(a0 == 2)=false:=beq_eq_false_iff_ne.mpr c4
  have c4b1:(a0 != 2)=true:=bne_iff_ne.mpr c4
  by_cases c5:a0=3
  · rw [if_pos c5] at H
    have c5b0:(a0 == 3)=true:=beq_iff_eq.mpr c5
    have c5b1:(a0 != 3)=false:=bne_eq_false_iff_eq.mpr c5
    clear c5
    have H':=zk H
    clear H
    go_wp2
    go_meet
    case rel=>exact ⟨_,((a0 == 3)),za7,H',⟨za23⟩,za10⟩
  · rw [if_neg c5] at H
    have c5b0:(a0 == 3)=false:=beq_eq_false_iff_ne.mpr c5
    have c5b1:(a0 != 3)=true:=bne_iff_ne.mpr c5
    have H':=zk H
    clear H
    go_wp2
    go_meet
    case rel=>exact ⟨_,((a0 == 4)),za7,H',⟨za23⟩,za10⟩
 case rest =>
  clear HC2
  obtain ⟨kq,x4_1,rfl,HA,HJ1,⟨mc1,rfl⟩⟩:=hcut
  cases kq with
  | zero=>exact absurd HA.out (by simp [impl_argsOf.j0])
  | succ kj1 =>
   have H:=HA.out
   clear HA
   simp only [impl_argsOf.j0] at H
   by_cases c6:x4_1=true
   · subst c6
     have H1:(some 0)=some r:=by rw [if_pos rfl] at H;exact H
     clear H
     have H:=H1
     clear H1
     obtain rfl:=zi H
     go_wp2
     go_ret
     exact ⟨za7,za10⟩
   · replace c6:=Bool.eq_false_iff.mpr c6
     subst c6
     have H1:(if a0=8 then (impl_argsOf.j1 kj1 a0 (a0 == 8)) else (impl_argsOf.j1 kj1 a0 (a0 == 9)))=some r:=by rw [if_neg (show ¬ (false=true) by decide)] at H;exact H
     clear H
     have H:=H1
     clear H1
     have HC7:=zk H
     clear H
     go_upto_if 9 with (fail)
     go_cut [9] (fun v9 wc=>∃ (kq:Nat) (x9_6:Bool),v9 = .bool x9_6∧Aside0 (impl_argsOf.j1 kq a0 x9_6=some r)∧Aside0 (kq≤kj1)∧Drawn0 w wc)
     case first =>
      have H:=HC7.out
      clear HC7
      by_cases c8:a0=8
      · rw [if_pos c8] at H
        have c8b0:(a0 == 8)=true:=beq_iff_eq.mpr c8
        have c8b1:(a0 != 8)=false:=bne_eq_false_iff_eq.mpr c8
        clear c8
        (first|rw [c8b0]|(simp only [i64_w,i32_w];rw [c8b0])|skip)
        have H':=zk H
        clear H
        go_wp2
        go_meet
        case rel=>exact ⟨_,((a0 == 8)),za7,H',⟨za27⟩,za10⟩
      · rw [if_neg c8] at H
        have c8b0:(a0 == 8)=false:=beq_eq_false_iff_ne.mpr c8
        have c8b1:(a0 != 8)=true:=bne_iff_ne.mpr c8
        (first|rw [c8b0]|(simp only [i64_w,i32_w];rw [c8b0])|skip)
        have H':=zk H
        clear H
        go_wp2
        go_meet
        case rel=>exact ⟨_,((a0 == 9)),za7,H',⟨za27⟩,za10⟩
     case rest =>
      clear HC7
      try clear c6
      obtain ⟨kq,x9_6,rfl,HA,HJ6,⟨mc6,rfl⟩⟩:=hcut
      cases kq with
      | zero=>exact absurd HA.out (by simp [impl_argsOf.j1])
      | succ kj6 =>
       have H:=HA.out
       clear HA
       simp only [impl_argsOf.j1] at H
       by_cases c9:x9_6=true
       subst c9
       have H1:(some 1)=some r:=by rw [if_pos rfl] at H;exact H
       clear H
       have H:=H1
       clear H1
       rotate_left
       replace c9:=Bool.eq_false_iff.mpr c9
       subst c9
       have H1:(if a0=5 then (some 2) else (if a0=6 then (some 2) else (if a0=7 then (some 2) else (some (-1)))))=some r:=by rw [if_neg (show ¬ (false=true) by decide)] at H;exact H
       clear H
       have H:=H1
       clear H1
       by_cases c10:a0=5
       rw [if_pos c10] at H
       have c10b0:(a0 == 5)=true:=beq_iff_eq.mpr c10
       have c10b1:(a0 != 5)=false:=bne_eq_false_iff_eq.mpr c10
       clear c10
       rotate_left
       rw [if_neg c10] at H
       have c10b0:(a0 == 5)=false:=beq_eq_false_iff_ne.mpr c10
       have c10b1:(a0 != 5)=true:=bne_iff_ne.mpr c10
       by_cases c11:a0=6
       rw [if_pos c11] at H
       have c11b0:(a0 == 6)=true:=beq_iff_eq.mpr c11
       have c11b1:(a0 != 6)=false:=bne_eq_false_iff_eq.mpr c11
       clear c11
       rotate_left
       rw [if_neg c11] at H
       have c11b0:(a0 == 6)=false:=beq_eq_false_iff_ne.mpr c11
       have c11b1:(a0 != 6)=true:=bne_iff_ne.mpr c11
       by_cases c12:a0=7
       rw [if_pos c12] at H
       have c12b0:(a0 == 7)=true:=beq_iff_eq.mpr c12
       have c12b1:(a0 != 7)=false:=bne_eq_false_iff_eq.mpr c12
       clear c12
       rotate_left
       rw [if_neg c12] at H
       have c12b0:(a0 == 7)=false:=beq_eq_false_iff_ne.mpr c12
       have c12b1:(a0 != 7)=true:=bne_iff_ne.mpr c12
       rotate_left
       all_goals
        obtain rfl:=zi H
        go_wp2
        go_ret
        exact ⟨za7,za10⟩
mutual
def impl_nodesOf.j0:Nat→Int→Bool→Int→ByteArray→List (S65)→Option (Int)
 | 0,_,_,_,_,_=>none
 | k+1,x1,x18,x125002000,x125002001,x125002002=>if x18=true then (some 17) else (if x125002000=3 then (if (x125002001.size:Int)=1 then ((impl_IsWord.f k x125002001).bind fun t125003=>(if t125003=true then (impl_nodesOf.j1 k x1 x125002000 x125002001 x125002002) else (some 17))) else (some 17)) else (if x125002001.toList=([]:List UInt8) then (impl_nodesOf.j1 k x1 x125002000 x125002001 x125002002) else (some 17)))
def impl_nodesOf.j1:Nat→Int→Int→ByteArray→List (S65)→Option (Int)
 | 0,_,_,_,_=>none
 | k+1,x1,x125002000,x125002001,x125002002=>impl_nodesOf.l0 k x1 1 x125002002 (x125002002.length:Int) 0
def impl_nodesOf.l0:Nat→Int→Int→List (S65)→Int→Int→Option (Int)
 | 0,_,_,_,_,_=>none
 | k+1,x1,x5,x36,x37,x38=>if x38 < x37 then (if 0≤x38 then (if x38 < (x36.length:Int) then ((impl_nodesOf.f k ((rd_T65 x36 x38).f0) ((rd_T65 x36 x38).f1) ((rd_T65 x36 x38).f2) (wrap64 (x1 - 1))).bind fun t125006=>(impl_nodesOf.l0 k x1 (wrap64 (x5+t125006)) x36 x37 (wrap64 (x38+1)))) else (none)) else (none)) else (some (mn x5 17))
def impl_nodesOf.f:Nat→Int→ByteArray→List (S65)→Int→Option (Int)
 | 0,_,_,_,_=>none
 | k+1,a0_0,a0_1,l0_2,a1=>if a1=0 then (impl_nodesOf.j0 k a1 true a0_0 a0_1 l0_2) else ((impl_argsOf.f k a0_0).bind fun t125002=>(impl_nodesOf.j0 k a1 ((l0_2.length:Int) != t125002) a0_0 a0_1 l0_2))
end
theorem impl_nodesOf.mono_l:∀ k,(∀ y0 y1 y2 y3,LeO (impl_nodesOf.f k y0 y1 y2 y3) (impl_nodesOf.f (k+1) y0 y1 y2 y3))∧(∀ y0 y1 y2 y3 y4,LeO (impl_nodesOf.j0 k y0 y1 y2 y3 y4) (impl_nodesOf.j0 (k+1) y0 y1 y2 y3 y4))∧(∀ y0 y1 y2 y3,LeO (impl_nodesOf.j1 k y0 y1 y2 y3) (impl_nodesOf.j1 (k+1) y0 y1 y2 y3))∧(∀ y0 y1 y2 y3 y4,LeO (impl_nodesOf.l0 k y0 y1 y2 y3 y4) (impl_nodesOf.l0 (k+1) y0 y1 y2 y3 y4))
 | 0=>⟨fun _ _ _ _ r h=>by simp [impl_nodesOf.f] at h,fun _ _ _ _ _ r h=>by simp [impl_nodesOf.j0] at h,fun _ _ _ _ r h=>by simp [impl_nodesOf.j1] at h,fun _ _ _ _ _ r h=>by simp [impl_nodesOf.l0] at h⟩
 | k+1=>by
  obtain ⟨ih0,ih1,ih2,ih3⟩:=impl_nodesOf.mono_l k
  refine ⟨?_,?_,?_,?_⟩
  ·intro y0 y1 y2 y3
   unfold impl_nodesOf.f
   repeat' first
   | with_reducible first|exact ih0 _ _ _ _|exact ih1 _ _ _ _ _|exact ih2 _ _ _ _|exact ih3 _ _ _ _ _|exact impl_IsWord.mono _ _|exact impl_argsOf.mono _ _|exact LeO.refl _|exact LeO.none _|refine LeO.ite ?_ ?_|refine LeO.bind ?_ (fun _=>?_)
  ·intro y0 y1 y2 y3 y4
   unfold impl_nodesOf.j0
   repeat' first
   | with_reducible first|exact ih0 _ _ _ _|exact ih1 _ _ _ _ _|exact ih2 _ _ _ _|exact ih3 _ _ _ _ _|exact impl_IsWord.mono _ _|exact impl_argsOf.mono _ _|exact LeO.refl _|exact LeO.none _|refine LeO.ite ?_ ?_|refine LeO.bind ?_ (fun _=>?_)
  ·intro y0 y1 y2 y3
   unfold impl_nodesOf.j1
   repeat' first
   | with_reducible first|exact ih0 _ _ _ _|exact ih1 _ _ _ _ _|exact ih2 _ _ _ _|exact ih3 _ _ _ _ _|exact impl_IsWord.mono _ _|exact impl_argsOf.mono _ _|exact LeO.refl _|exact LeO.none _|refine LeO.ite ?_ ?_|refine LeO.bind ?_ (fun _=>?_)
  ·intro y0 y1 y2 y3 y4
   unfold impl_nodesOf.l0
   repeat' first
   | with_reducible first|exact ih0 _ _ _ _|exact ih1 _ _ _ _ _|exact ih2 _ _ _ _|exact ih3 _ _ _ _ _|exact impl_IsWord.mono _ _|exact impl_argsOf.mono _ _|exact LeO.refl _|exact LeO.none _|refine LeO.ite ?_ ?_|refine LeO.bind ?_ (fun _=>?_)
theorem impl_nodesOf.mono:∀ a0 a1 a2 a3 k,LeO (impl_nodesOf.f k a0 a1 a2 a3) (impl_nodesOf.f (k+1) a0 a1 a2 a3):=by
 intro a0 a1 a2 a3 k
 obtain ⟨ih0,ih1,ih2,ih3⟩:=impl_nodesOf.mono_l k
 exact ih0 a0 a1 a2 a3
theorem impl_nodesOf.calls (k:Nat):∀ (a0_0:Int) (a0_1:ByteArray) (A0_2:Option Addr) (c0_2:Nat) (l0_2:List (S65)) (a1:Int) (r:Int) (w:World) (hr0_2:Kd.C k65 w A0_2 l0_2.length l0_2) (hc0_2:l0_2.length≤c0_2) (h:impl_nodesOf.f k a0_0 a0_1 l0_2 a1=some r),
   Calls Tryz.prog 125 #[.agg #[.int .i64 a0_0,.string a0_1,.slice A0_2 l0_2.length c0_2],.int .i64 a1] w fun e w'=>e = .returned (.int .i64 r)∧Below w.heap.size w w':=by
 induction k using Nat.strongRecOn with
 | _ k ih =>
 intro a0_0 a0_1 A0_2 c0_2 l0_2 a1 r w hr0_2 hc0_2 h
 cases k with
 | zero=>exact absurd h (by simp [impl_nodesOf.f])
 | succ k =>
 simp only [impl_nodesOf.f] at h
 have hu65:=Tryz.underlying65
 have HR0_2:=zk hr0_2
 have HC0_2:=zk hc0_2
 clear hr0_2 hc0_2
 have HB:=zk (Below.refl w.heap.size w)
 have H:(if a1=0 then (impl_nodesOf.j0 k a1 true a0_0 a0_1 l0_2) else ((impl_argsOf.f k a0_0).bind fun t125002=>(impl_nodesOf.j0 k a1 ((l0_2.length:Int) != t125002) a0_0 a0_1 l0_2)))=some r:=h
 clear h
 have HC3:=zk H
 clear H
 go_enter Tryz.func125,Tryz.ntmps125
 go_upto_region 1 with (first|((with_reducible refine gate_dst (N:=2) rfl ?_);(try (refine gate_guard (by rfl) ?_;dsimp only));refine zE (N:=2) (cs:=#[.int .i64 a0_0,.string a0_1,.slice A0_2 l0_2.length c0_2]) (t:=65) ?_;intro gb125001 hg w4 hbox hb;have n0_:=zk (below_step za3 hb);have n1_:=zk (hbox);have n2_:=zk (zs (w:=w) hg za3);have n3_:=zk (zs (w:=w) hg za3);clear HB;have HB:=n0_;have BK125001:=n1_;have GW125001:=n2_;have GE125001:=n3_;clear n0_ n1_ n2_ n3_;clear hb hbox hg))
 repeat (go_quiet (first|((with_reducible refine gate_dst (N:=2) rfl ?_);(try (refine gate_guard (by rfl) ?_;dsimp only));refine zE (N:=2) (cs:=#[.int .i64 a0_0,.string a0_1,.slice A0_2 l0_2.length c0_2]) (t:=65) ?_;intro gb125001 hg w4 hbox hb;have n0_:=zk (below_step za3 hb);have n1_:=zk (hbox);have n2_:=zk (zs (w:=w) hg za3);have n3_:=zk (zs (w:=w) hg za3);clear HB;have HB:=n0_;have BK125001:=n1_;have GW125001:=n2_;have GE125001:=n3_;clear n0_ n1_ n2_ n3_;clear hb hbox hg));go_upto_region 1 with (first|((with_reducible refine gate_dst (N:=2) rfl ?_);(try (refine gate_guard (by rfl) ?_;dsimp only));refine zE (N:=2) (cs:=#[.int .i64 a0_0,.string a0_1,.slice A0_2 l0_2.length c0_2]) (t:=65) ?_;intro gb125001 hg w4 hbox hb;have n0_:=zk (below_step za3 hb);have n1_:=zk (hbox);have n2_:=zk (zs (w:=w) hg za3);have n3_:=zk (zs (w:=w) hg za3);clear HB;have HB:=n0_;have BK125001:=n1_;have GW125001:=n2_;have GE125001:=n3_;clear n0_ n1_ n2_ n3_;clear hb hbox hg)))
 (try simp only [Act.put,zt,zu,zv])
 go_cut [18] (fun v18 wc=>∃ (kq:Nat) (x18_2:Bool),v18 = .bool x18_2∧Aside0 (impl_nodesOf.j0 kq a1 x18_2 a0_0 a0_1 l0_2=some r)∧Aside0 (kq≤k)∧Aside0 (wc.heap[gb125001]? = some (.cells #[.int .i64 a0_0,.string a0_1,(.slice A0_2 l0_2.length c0_2)] 65 (0,0)))∧Aside0 (Below w.heap.size w wc))
 case first =>
  have H:=HC3.out
  clear HC3
  by_cases c5:a1=0
  · rw [if_pos c5] at H
    have c5b0:(a1 == 0)=true:=beq_iff_eq.mpr c5
    have c5b1:(a1 != 0)=false:=bne_eq_false_iff_eq.mpr c5
    clear c5
    (first|rw [c5b0]|(simp only [i64_w,i32_w];rw [c5b0])|skip)
    have H':=zk H
    clear H
    go_wp2
    repeat (go_quiet (fail);try go_wp2)
    go_meet
    case rel=>exact ⟨_,(true),za7,H',⟨za23⟩,⟨za1 BK125001.out⟩,⟨za3⟩⟩
  · rw [if_neg c5] at H
    have c5b0:(a1 == 0)=false:=beq_eq_false_iff_ne.mpr c5
    have c5b1:(a1 != 0)=true:=bne_iff_ne.mpr c5
    (first|rw [c5b0]|(simp only [i64_w,i32_w];rw [c5b0])|skip)
    replace H:=zo H
    obtain ⟨t125002,A60,H⟩:=H
    replace H:(impl_nodesOf.j0 k a1 ((l0_2.length:Int) != t125002) a0_0 a0_1 l0_2)=some r:=H
    have A6:=zk A60
    clear A60
    have H':=zk H
    clear H
    obtain ⟨hcz7_0,hcz7_1,hcz7_2,hfz7_0,hfz7_1,hfz7_2⟩:=blk3 BK125001.out
    go_wp2_with (first|(go_at_call 138;(with_reducible refine (impl_argsOf.calls k a0_0 t125002 _ A6.out).mono ?_);rintro e w' ⟨rfl,⟨nd,rfl⟩⟩;(try first|exact ⟨rfl,_,World.drewN_drewN _ _ _⟩|exact ⟨rfl,_,Eq.trans (World.drewN_drewN _ _ _) (congrArg (World.drewN _) (Nat.add_assoc _ _ _))⟩)))
    repeat (go_quiet (first|(go_at_call 138;(with_reducible refine (impl_argsOf.calls k a0_0 t125002 _ A6.out).mono ?_);rintro e w' ⟨rfl,⟨nd,rfl⟩⟩;(try first|exact ⟨rfl,_,World.drewN_drewN _ _ _⟩|exact ⟨rfl,_,Eq.trans (World.drewN_drewN _ _ _) (congrArg (World.drewN _) (Nat.add_assoc _ _ _))⟩)));try go_wp2_with (first|(go_at_call 138;(with_reducible refine (impl_argsOf.calls k a0_0 t125002 _ A6.out).mono ?_);rintro e w' ⟨rfl,⟨nd,rfl⟩⟩;(try first|exact ⟨rfl,_,World.drewN_drewN _ _ _⟩|exact ⟨rfl,_,Eq.trans (World.drewN_drewN _ _ _) (congrArg (World.drewN _) (Nat.add_assoc _ _ _))⟩))))
    go_meet
    case rel=>exact ⟨_,(((l0_2.length:Int) != t125002)),za7,H',⟨za23⟩,⟨za1 BK125001.out⟩,⟨za3⟩⟩
 case rest =>
  clear HC3
  obtain ⟨kq,x18_2,rfl,HA,HJ2,BK125001,HB⟩:=hcut
  cases kq with
  | zero=>exact absurd HA.out (by simp [impl_nodesOf.j0])
  | succ kj2 =>
   have H:=HA.out
   clear HA
   simp only [impl_nodesOf.j0] at H
   by_cases c8:x18_2=true
   · subst c8
     have H1:(some 17)=some r:=by rw [if_pos rfl] at H;exact H
     clear H
     have H:=H1
     clear H1
     obtain rfl:=zi H
     go_wp2
     repeat (go_quiet (fail);try go_wp2)
     go_ret
     exact ⟨za6,za3⟩
   · replace c8:=Bool.eq_false_iff.mpr c8
     subst c8
     have H1:(if a0_0=3 then (if (a0_1.size:Int)=1 then ((impl_IsWord.f kj2 a0_1).bind fun t125003=>(if t125003=true then (impl_nodesOf.j1 kj2 a1 a0_0 a0_1 l0_2) else (some 17))) else (some 17)) else (if a0_1.toList=([]:List UInt8) then (impl_nodesOf.j1 kj2 a1 a0_0 a0_1 l0_2) else (some 17)))=some r:=by rw [if_neg (show ¬ (false=true) by decide)] at H;exact H
     clear H
     have H:=H1
     clear H1
     have HC9:=zk H
     clear H
     obtain ⟨hcz10_0,hcz10_1,hcz10_2,hfz10_0,hfz10_1,hfz10_2⟩:=blk3 BK125001.out
     go_upto_if 21 with (fail)
     repeat (go_quiet (fail);go_upto_if 21 with (fail))
     go_cut [] (fun wc=>∃ (kq:Nat),Aside0 (impl_nodesOf.j1 kq a1 a0_0 a0_1 l0_2=some r)∧Aside0 (kq≤kj2)∧Aside0 (wc.heap[gb125001]? = some (.cells #[.int .i64 a0_0,.string a0_1,(.slice A0_2 l0_2.length c0_2)] 65 (0,0)))∧Aside0 (Below w.heap.size w wc))
     case first =>
      have H:=HC9.out
      clear HC9
      by_cases c11:a0_0=3
      rw [if_pos c11] at H
      have c11b0:(a0_0 == 3)=true:=beq_iff_eq.mpr c11
      have c11b1:(a0_0 != 3)=false:=bne_eq_false_iff_eq.mpr c11
      clear c11
      (first|rw [c11b0]|(simp only [i64_w,i32_w];rw [c11b0])|skip)
      by_cases c12:(a0_1.size:Int)=1
      rw [if_pos c12] at H
      have c12b0:((a0_1.size:Int) == 1)=true:=beq_iff_eq.mpr c12
      have c12b1:((a0_1.size:Int) != 1)=false:=bne_eq_false_iff_eq.mpr c12
      clear c12
      replace H:=zo H
      obtain ⟨t125003,A130,H⟩:=H
      replace H:(if t125003=true then (impl_nodesOf.j1 kj2 a1 a0_0 a0_1 l0_2) else (some 17))=some r:=H
      have A13:=zk A130
      clear A130
      by_cases c14:t125003=true
      subst c14
      have H1:(impl_nodesOf.j1 kj2 a1 a0_0 a0_1 l0_2)=some r:=by rw [if_pos rfl] at H;exact H
      clear H
      have H:=H1
      clear H1
      have H':=zk H
      clear H
      have fin0_:=zk trivial
      rotate_left
      replace c14:=Bool.eq_false_iff.mpr c14
      subst c14
      have H1:(some 17)=some r:=by rw [if_neg (show ¬ (false=true) by decide)] at H;exact H
      clear H
      have H:=H1
      clear H1
      obtain rfl:=zi H
      have fin1_:=zk trivial
      rotate_left
      rw [if_neg c12] at H
      have c12b0:((a0_1.size:Int) == 1)=false:=beq_eq_false_iff_ne.mpr c12
      have c12b1:((a0_1.size:Int) != 1)=true:=bne_iff_ne.mpr c12
      obtain rfl:=zi H
      have fin1_:=zk trivial
      rotate_left
      rw [if_neg c11] at H
      have c11b0:(a0_0 == 3)=false:=beq_eq_false_iff_ne.mpr c11
      have c11b1:(a0_0 != 3)=true:=bne_iff_ne.mpr c11
      (first|rw [c11b0]|(simp only [i64_w,i32_w];rw [c11b0])|skip)
      by_cases c18:a0_1.toList=([]:List UInt8)
      rw [if_pos c18] at H
      have c18b0:(a0_1.toList == ([]:List UInt8))=true:=beq_iff_eq.mpr c18
      have c18b1:(a0_1.toList != ([]:List UInt8))=false:=bne_eq_false_iff_eq.mpr c18
      clear c18
      have H':=zk H
      clear H
      have fin0_:=zk trivial
      rotate_left
      rw [if_neg c18] at H
      have c18b0:(a0_1.toList == ([]:List UInt8))=false:=beq_eq_false_iff_ne.mpr c18
      have c18b1:(a0_1.toList != ([]:List UInt8))=true:=bne_iff_ne.mpr c18
      obtain rfl:=zi H
      have fin1_:=zk trivial
      rotate_left
      all_goals
       obtain ⟨hcz15_0,hcz15_1,hcz15_2,hfz15_0,hfz15_1,hfz15_2⟩:=blk3 BK125001.out
       go_wp2_with ((go_at_call 74;(with_reducible refine (impl_IsWord.calls kj2 a0_1 _ _ A13.out).mono ?_);rintro e w' ⟨rfl,⟨nd,rfl⟩⟩;(try first|exact ⟨rfl,_,World.drewN_drewN _ _ _⟩|exact ⟨rfl,_,Eq.trans (World.drewN_drewN _ _ _) (congrArg (World.drewN _) (Nat.add_assoc _ _ _))⟩)))
       repeat (go_quiet ((go_at_call 74;(with_reducible refine (impl_IsWord.calls kj2 a0_1 _ _ A13.out).mono ?_);rintro e w' ⟨rfl,⟨nd,rfl⟩⟩;(try first|exact ⟨rfl,_,World.drewN_drewN _ _ _⟩|exact ⟨rfl,_,Eq.trans (World.drewN_drewN _ _ _) (congrArg (World.drewN _) (Nat.add_assoc _ _ _))⟩)));try go_wp2_with ((go_at_call 74;(with_reducible refine (impl_IsWord.calls kj2 a0_1 _ _ A13.out).mono ?_);rintro e w' ⟨rfl,⟨nd,rfl⟩⟩;(try first|exact ⟨rfl,_,World.drewN_drewN _ _ _⟩|exact ⟨rfl,_,Eq.trans (World.drewN_drewN _ _ _) (congrArg (World.drewN _) (Nat.add_assoc _ _ _))⟩))))
       first
       | (
          clear fin0_
          go_meet
          case rel=>exact ⟨_,H',⟨by have:=HJ2.out;first|omega|exact Nat.le_refl _⟩,⟨za1 BK125001.out⟩,⟨za3⟩⟩)
       | (
          clear fin1_
          go_ret
          exact ⟨za6,za3⟩)
     case rest =>
      clear HC9
      try clear c8
      try clear hcz10_0
      try clear hcz10_1
      try clear hcz10_2
      try clear hfz10_0
      try clear hfz10_1
      try clear hfz10_2
      obtain ⟨kq,HA,HJ8,BK125001,HB⟩:=hcut
      cases kq with
      | zero=>exact absurd HA.out (by simp [impl_nodesOf.j1])
      | succ kj8 =>
       have H:=HA.out
       clear HA
       simp only [impl_nodesOf.j1] at H
       have H':=zk H
       clear H
       obtain ⟨hcz21_0,hcz21_1,hcz21_2,hfz21_0,hfz21_1,hfz21_2⟩:=blk3 BK125001.out
       go_wp2
       repeat (go_quiet (fail);try go_wp2)
       first|go_loopg [5,38] kj8 (fun kq v5 v38 w'=>∃ (x5_3:Int) (x38_3:Int),v5 = .int .i64 x5_3∧v38 = .int .i64 x38_3∧Aside0 (impl_nodesOf.l0 kq a1 x5_3 l0_2 (l0_2.length:Int) x38_3=some r)∧Aside0 (kq≤kj8)∧Aside0 (w'.heap[gb125001]? = some (.cells #[.int .i64 a0_0,.string a0_1,(.slice A0_2 l0_2.length c0_2)] 65 (0,0)))∧Aside0 (Below w.heap.size w w'))|(simp only [Act.put,zt,zv,zu];go_loopg [5,38] kj8 (fun kq v5 v38 w'=>∃ (x5_3:Int) (x38_3:Int),v5 = .int .i64 x5_3∧v38 = .int .i64 x38_3∧Aside0 (impl_nodesOf.l0 kq a1 x5_3 l0_2 (l0_2.length:Int) x38_3=some r)∧Aside0 (kq≤kj8)∧Aside0 (w'.heap[gb125001]? = some (.cells #[.int .i64 a0_0,.string a0_1,(.slice A0_2 l0_2.length c0_2)] 65 (0,0)))∧Aside0 (Below w.heap.size w w')))
       case atStart=>exact ⟨(1),(0),za7,za7,H',⟨Nat.le_refl _⟩,⟨za1 BK125001.out⟩,⟨za3⟩⟩
       case round =>
        clear H'
        try clear c8
        try clear hcz10_0
        try clear hcz10_1
        try clear hcz10_2
        try clear hcz21_0
        try clear hcz21_1
        try clear hcz21_2
        try clear hfz10_0
        try clear hfz10_1
        try clear hfz10_2
        try clear hfz21_0
        try clear hfz21_1
        try clear hfz21_2
        obtain ⟨x5_3,x38_3,rfl,rfl,HA,HK3,BK125001,HB⟩:=hrel
        cases gk with
        | zero=>exact absurd HA.out (by simp [impl_nodesOf.l0])
        | succ k3 =>
         have H:=HA.out
         clear HA
         simp only [impl_nodesOf.l0] at H
         by_cases c22:x38_3 < (l0_2.length:Int)
         rw [if_pos c22] at H
         have c22b0:decide (x38_3 < (l0_2.length:Int))=true:=decide_eq_true c22
         clear c22
         by_cases c23:0≤x38_3
         rw [if_pos c23] at H
         have c23b0:decide (0≤x38_3)=true:=decide_eq_true c23
         clear c23
         by_cases c24:x38_3 < (l0_2.length:Int)
         · rw [if_pos c24] at H
           have c24b0:decide (x38_3 < (l0_2.length:Int))=true:=decide_eq_true c24
           clear c24
           replace H:=zo H
           obtain ⟨t125006,A250,H⟩:=H
           replace H:(impl_nodesOf.l0 k3 a1 (wrap64 (x5_3+t125006)) l0_2 (l0_2.length:Int) (wrap64 (x38_3+1)))=some r:=H
           have A25:=zk A250
           clear A250
           have H':=zk H
           clear H
           have p125004:0≤(x38_3:Int):=of_decide_eq_true za8
           have q125004:x38_3 < (l0_2.length:Int):=of_decide_eq_true za8
           obtain ⟨ad125004,A125004_2,c125004_2,e125004,hx125004_0,hx125004_1,hx125004_2,hl125004_2,hi125004_2⟩:=at_T65 HR0_2.out x38_3 p125004 q125004
           cases e125004
           replace hx125004_0:=zx HB.out hx125004_0
           replace hx125004_1:=zx HB.out hx125004_1
           replace hx125004_2:=zx HB.out hx125004_2
           have HR125004_2:=zk hi125004_2
           have HC125004_2:=zk hl125004_2
           clear hi125004_2 hl125004_2
           replace p125004:=eq_true p125004
           replace q125004:=eq_true q125004
           go_wp2_with (first|((with_reducible refine gate_dst (N:=7) rfl ?_);(try (refine gate_guard (by rfl) ?_;dsimp only));refine zE (N:=7) (cs:=#[.int .i64 0,.string (⟨#[]⟩:ByteArray),.slice none 0 0]) (t:=65) ?_;intro gb125005 hg w26 hbox hb;have n0_:=zk (zb BK125001.out hb);have n1_:=zk (below_step za3 hb);have n2_:=zk (hbox);have n3_:=zk (zs (w:=w) hg za3);have n4_:=zk (zs (w:=w) hg za3);have n5_:=zk ((by rw [hg];exact Nat.ne_of_lt (zl BK125001.out):gb125001 ≠ gb125005));have n6_:=zk ((by rw [hg];exact Nat.ne_of_gt (zl BK125001.out):gb125005 ≠ gb125001));clear BK125001;clear HB;have BK125001:=n0_;have HB:=n1_;have BK125005:=n2_;have GW125005:=n3_;have GE125005:=n4_;have NB125001_125005:=n5_;have NB125005_125001:=n6_;clear n0_ n1_ n2_ n3_ n4_ n5_ n6_;clear hb hbox hg;have hnb27:=NB125005_125001.out;have hnc27:=NB125001_125005.out;obtain ⟨hcz28_0,hcz28_1,hcz28_2,hfz28_0,hfz28_1,hfz28_2⟩:=blk3 BK125005.out)|(go_at_call 125;(with_reducible refine (ih k3 za35 ((rd_T65 l0_2 x38_3).f0) ((rd_T65 l0_2 x38_3).f1) _ _ ((rd_T65 l0_2 x38_3).f2) (wrap64 (a1 - 1)) t125006 _ ?side1 ?side2 A25.out).mono ?_);(case side1=>exact Kd.C_below HR125004_2.out za3);(case side2=>exact HC125004_2.out);rintro e w29 ⟨rfl,hb⟩;have n0_:=zk (blk_below (g:=gb125001) (o:=.cells #[.int .i64 a0_0,.string a0_1,.slice (some ad125004) l0_2.length c0_2] 65 (0,0)) za16 hb);have n1_:=zk (blk_below (g:=gb125005) (o:=.cells #[.int .i64 ((rd_T65 l0_2 x38_3).f0),.string ((rd_T65 l0_2 x38_3).f1),.slice A125004_2 ((rd_T65 l0_2 x38_3).f2).length c125004_2] 65 (0,0)) za13 hb);have n2_:=zk (below_step za3 hb);clear BK125001;clear BK125005;clear HB;have BK125001:=n0_;have BK125005:=n1_;have HB:=n2_;clear n0_ n1_ n2_;(try clear hb);(try clear hb2);(try clear hk);(try clear hi)))
           repeat (go_quiet (first|((with_reducible refine gate_dst (N:=7) rfl ?_);(try (refine gate_guard (by rfl) ?_;dsimp only));refine zE (N:=7) (cs:=#[.int .i64 0,.string (⟨#[]⟩:ByteArray),.slice none 0 0]) (t:=65) ?_;intro gb125005 hg w26 hbox hb;have n0_:=zk (zb BK125001.out hb);have n1_:=zk (below_step za3 hb);have n2_:=zk (hbox);have n3_:=zk (zs (w:=w) hg za3);have n4_:=zk (zs (w:=w) hg za3);have n5_:=zk ((by rw [hg];exact Nat.ne_of_lt (zl BK125001.out):gb125001 ≠ gb125005));have n6_:=zk ((by rw [hg];exact Nat.ne_of_gt (zl BK125001.out):gb125005 ≠ gb125001));clear BK125001;clear HB;have BK125001:=n0_;have HB:=n1_;have BK125005:=n2_;have GW125005:=n3_;have GE125005:=n4_;have NB125001_125005:=n5_;have NB125005_125001:=n6_;clear n0_ n1_ n2_ n3_ n4_ n5_ n6_;clear hb hbox hg;have hnb27:=NB125005_125001.out;have hnc27:=NB125001_125005.out;obtain ⟨hcz28_0,hcz28_1,hcz28_2,hfz28_0,hfz28_1,hfz28_2⟩:=blk3 BK125005.out)|(go_at_call 125;(with_reducible refine (ih k3 za35 ((rd_T65 l0_2 x38_3).f0) ((rd_T65 l0_2 x38_3).f1) _ _ ((rd_T65 l0_2 x38_3).f2) (wrap64 (a1 - 1)) t125006 _ ?side1 ?side2 A25.out).mono ?_);(case side1=>exact Kd.C_below HR125004_2.out za3);(case side2=>exact HC125004_2.out);rintro e w29 ⟨rfl,hb⟩;have n0_:=zk (blk_below (g:=gb125001) (o:=.cells #[.int .i64 a0_0,.string a0_1,.slice (some ad125004) l0_2.length c0_2] 65 (0,0)) za16 hb);have n1_:=zk (blk_below (g:=gb125005) (o:=.cells #[.int .i64 ((rd_T65 l0_2 x38_3).f0),.string ((rd_T65 l0_2 x38_3).f1),.slice A125004_2 ((rd_T65 l0_2 x38_3).f2).length c125004_2] 65 (0,0)) za13 hb);have n2_:=zk (below_step za3 hb);clear BK125001;clear BK125005;clear HB;have BK125001:=n0_;have BK125005:=n1_;have HB:=n2_;clear n0_ n1_ n2_;(try clear hb);(try clear hb2);(try clear hk);(try clear hi)));try go_wp2_with (first|((with_reducible refine gate_dst (N:=7) rfl ?_);(try (refine gate_guard (by rfl) ?_;dsimp only));refine zE (N:=7) (cs:=#[.int .i64 0,.string (⟨#[]⟩:ByteArray),.slice none 0 0]) (t:=65) ?_;intro gb125005 hg w26 hbox hb;have n0_:=zk (zb BK125001.out hb);have n1_:=zk (below_step za3 hb);have n2_:=zk (hbox);have n3_:=zk (zs (w:=w) hg za3);have n4_:=zk (zs (w:=w) hg za3);have n5_:=zk ((by rw [hg];exact Nat.ne_of_lt (zl BK125001.out):gb125001 ≠ gb125005));have n6_:=zk ((by rw [hg];exact Nat.ne_of_gt (zl BK125001.out):gb125005 ≠ gb125001));clear BK125001;clear HB;have BK125001:=n0_;have HB:=n1_;have BK125005:=n2_;have GW125005:=n3_;have GE125005:=n4_;have NB125001_125005:=n5_;have NB125005_125001:=n6_;clear n0_ n1_ n2_ n3_ n4_ n5_ n6_;clear hb hbox hg;have hnb27:=NB125005_125001.out;have hnc27:=NB125001_125005.out;obtain ⟨hcz28_0,hcz28_1,hcz28_2,hfz28_0,hfz28_1,hfz28_2⟩:=blk3 BK125005.out)|(go_at_call 125;(with_reducible refine (ih k3 za35 ((rd_T65 l0_2 x38_3).f0) ((rd_T65 l0_2 x38_3).f1) _ _ ((rd_T65 l0_2 x38_3).f2) (wrap64 (a1 - 1)) t125006 _ ?side1 ?side2 A25.out).mono ?_);(case side1=>exact Kd.C_below HR125004_2.out za3);(case side2=>exact HC125004_2.out);rintro e w29 ⟨rfl,hb⟩;have n0_:=zk (blk_below (g:=gb125001) (o:=.cells #[.int .i64 a0_0,.string a0_1,.slice (some ad125004) l0_2.length c0_2] 65 (0,0)) za16 hb);have n1_:=zk (blk_below (g:=gb125005) (o:=.cells #[.int .i64 ((rd_T65 l0_2 x38_3).f0),.string ((rd_T65 l0_2 x38_3).f1),.slice A125004_2 ((rd_T65 l0_2 x38_3).f2).length c125004_2] 65 (0,0)) za13 hb);have n2_:=zk (below_step za3 hb);clear BK125001;clear BK125005;clear HB;have BK125001:=n0_;have BK125005:=n1_;have HB:=n2_;clear n0_ n1_ n2_;(try clear hb);(try clear hb2);(try clear hk);(try clear hi))))
           go_roundg k3
           case measure=>have:=HJ2.out;have:=HJ8.out;have:=HK3.out;omega
           case rel=>exact ⟨(wrap64 (x5_3+t125006)),(wrap64 (x38_3+1)),za7,za7,H',⟨za35⟩,⟨za1 BK125001.out⟩,⟨za3⟩⟩
         · rw [if_neg c24] at H
           exact absurd H (by simp)
         · rw [if_neg c23] at H
           exact absurd H (by simp)
         · rw [if_neg c22] at H
           have c22b0:decide (x38_3 < (l0_2.length:Int))=false:=decide_eq_false c22
           clear c22
           obtain ⟨ji30,hji30⟩:∃ j_:Int,(mn x5_3 17)=j_:=⟨_,rfl⟩
           replace H:(some ji30)=some r:=by first|(rw [hji30] at H;exact H)|(simp only [hji30] at H ⊢;exact H)
           have hji30_:(if 17 < x5_3 then 17 else x5_3)=ji30:=hji30
           obtain rfl:=zi H
           go_wp2
           repeat (go_quiet (fail);try go_wp2)
           go_ret
           exact ⟨by first|rfl|(simp [errW_none,errW_some] <;> rfl)|(simp only [← hji30];first|rfl|(simp [errW_none,errW_some] <;> rfl))|(simp [*,errW_none,errW_some] <;> rfl),za3⟩
def impl_IsValidRegex.f (k:Nat) (a0_0:Int) (a0_1:ByteArray) (l0_2:List (S65)):Option (Bool):=(impl_nodesOf.f k a0_0 a0_1 l0_2 6).bind fun t93002=>(some (decide (t93002≤16)))
theorem impl_IsValidRegex.mono:∀ a0 a1 a2 k,LeO (impl_IsValidRegex.f k a0 a1 a2) (impl_IsValidRegex.f (k+1) a0 a1 a2):=by
 intro a0 a1 a2 k
 unfold impl_IsValidRegex.f
 repeat' first
  | with_reducible first|exact impl_nodesOf.mono _ _ _ _ _|exact LeO.refl _|exact LeO.none _|refine LeO.ite ?_ ?_|refine LeO.bind ?_ (fun _=>?_)
theorem impl_IsValidRegex.calls (k:Nat) (a0_0:Int) (a0_1:ByteArray) (A0_2:Option Addr) (c0_2:Nat) (l0_2:List (S65)) (r:Bool) (w:World) (hr0_2:Kd.C k65 w A0_2 l0_2.length l0_2) (hc0_2:l0_2.length≤c0_2) (h:impl_IsValidRegex.f k a0_0 a0_1 l0_2=some r) :
  Calls Tryz.prog 93 #[.agg #[.int .i64 a0_0,.string a0_1,.slice A0_2 l0_2.length c0_2]] w fun e w'=>e = .returned (.bool r)∧Below w.heap.size w w':=by
 have hu65:=Tryz.underlying65
 have HR0_2:=zk hr0_2
 have HC0_2:=zk hc0_2
 clear hr0_2 hc0_2
 have HB:=zk (Below.refl w.heap.size w)
 have H:((impl_nodesOf.f k a0_0 a0_1 l0_2 6).bind fun t93002=>(some (decide (t93002≤16))))=some r:=h
 clear h
 replace H:=zo H
 obtain ⟨t93002,A20,H⟩:=H
 replace H:(some (decide (t93002≤16)))=some r:=H
 have A2:=zk A20
 clear A20
 obtain rfl:=zi H
 go_enter Tryz.func93,Tryz.ntmps93
 go_wp2_with (first|((with_reducible refine gate_dst (N:=1) rfl ?_);refine zE (N:=1) (cs:=#[.int .i64 a0_0,.string a0_1,.slice A0_2 l0_2.length c0_2]) (t:=65) ?_;intro gb93001 hg w3 hbox hb;have n0_:=zk (below_step za3 hb);have n1_:=zk (hbox);have n2_:=zk (zs (w:=w) hg za3);have n3_:=zk (zs (w:=w) hg za3);clear HB;have HB:=n0_;have BK93001:=n1_;have GW93001:=n2_;have GE93001:=n3_;clear n0_ n1_ n2_ n3_;clear hb hbox hg;obtain ⟨hcz4_0,hcz4_1,hcz4_2,hfz4_0,hfz4_1,hfz4_2⟩:=blk3 BK93001.out)|((with_reducible refine gate_callee (f:=125) rfl ?_);refine goesL_ (some 4) rfl rfl Tryz.func125 (by kernel_rfl) rfl #[.agg #[.int .i64 a0_0,.string a0_1,.slice A0_2 l0_2.length c0_2],.int .i64 6] rfl za4 ?_;(with_reducible refine (impl_nodesOf.calls k a0_0 a0_1 _ _ l0_2 6 t93002 _ ?side1 ?side2 A2.out).mono ?_);(case side1=>repeat (first|exact (Kd.C_below HR0_2.out HB.out)|(with_reducible refine Kd.C_alloc ?_ _)|(with_reducible refine Kd.C_drewN ?_ _)|(with_reducible refine Kd.C_drew ?_)));(case side2=>exact HC0_2.out);rintro e w5 ⟨rfl,hb⟩;refine ⟨_,rfl,?_⟩;have n0_:=zk (zb BK93001.out hb);have n1_:=zk (below_step za3 hb);clear BK93001;clear HB;have BK93001:=n0_;have HB:=n1_;clear n0_ n1_;(try clear hb);(try clear hb2);(try clear hk);(try clear hi)))
 go_ret
 exact ⟨za6,za3⟩
def impl_IsValidConstraint_1.f (a0:Int):Option (Bool):=(impl_within.f a0 (-9) 9).bind fun t96001=>(some (!t96001))
theorem impl_IsValidConstraint_1.calls (a0:Int) (r:Bool) (w:World) (h:impl_IsValidConstraint_1.f a0=some r) :
  Calls Tryz.prog 96 #[.int .i64 a0] w fun e w'=>e = .returned (.bool r)∧Drawn0 w w':=by
 have H:((impl_within.f a0 (-9) 9).bind fun t96001=>(some (!t96001)))=some r:=h
 clear h
 replace H:=zo H
 obtain ⟨t96001,A20,H⟩:=H
 replace H:(some (!t96001))=some r:=H
 have A2:=zk A20
 clear A20
 obtain rfl:=zi H
 go_enter Tryz.func96,Tryz.ntmps96
 go_wp2_with (first|((with_reducible refine gate_callee (f:=94) rfl ?_);refine goesL_ (some 4) rfl rfl Tryz.func94 (by kernel_rfl) rfl #[.int .i64 a0,.int .i64 (-9),.int .i64 9] rfl za4 ?_;(with_reducible refine (impl_within.calls a0 (-9) 9 t96001 _ A2.out).mono ?_);rintro e w' ⟨rfl,⟨nd,rfl⟩⟩;refine ⟨_,rfl,?_⟩))
 go_ret
 exact ⟨za7,za10⟩
end Go.Proofs.YtffjfdoghofkdaaGreat.A
namespace Go.Proofs.YtffjfdoghofkdaaGreat.Ext
open Go.RowKit YtffjfdoghofkdaaGreatW.PrintWords YtffjfdoghofkdaaGreatW.PrintLast
theorem goesF_ {P : Program} {ops : Array Oper} {Q : Exit → Act → World → Prop} {rest : List Oper} {oi : Oper} {a : Act} {w : World} (N : Option Tmp) (hd : oi.dst = N) (hg : oi.guard = none) {f : FuncId} {fn : Func} {as_ : Array Operand} {ts : Array TypeId} {c : Operand} (hf : P.funcs[f]? = some fn) (hname : (fn.name == "runtime.NumGoroutine") = false) (hb : fn.body.isSome = true) (args : Array Value)
  (hop:oi.op = .call { callee:=.value c,args:=as_,argTypes:=ts }) (hc:a.eval c = .func (.func f) #[] #[]) (hargs:as_.map a.eval=args)
  (h:Calls P f args w fun e w'=>∃ v,e = .returned v∧wpList P ops Q rest (a.put N v) w'):wpList P ops Q (oi :: rest) a w:=by
 refine wpList_plain hg fun K hK=>?_
 have he:=enters_ hf hname hb args w
 have hrun:(execOp a.eval oi).run P w = .ok (.enter f args) w:=by
  unfold execOp
  rw [hop]
  simp [hc,resolve,Deferred.ofValue,invoke,hargs,he]
 unfold Oper.wp
 rw [hrun,Oper.upon_enter]
 refine h.mono fun e w'' hh=>?_
 obtain ⟨v,rfl,hk⟩:=hh
 subst hd
 exact hK _ _ hk
end Go.Proofs.YtffjfdoghofkdaaGreat.Ext
namespace Go.Proofs.YtffjfdoghofkdaaGreat.A
open Go.RowKit YtffjfdoghofkdaaGreat.Ext YtffjfdoghofkdaaGreatW.PrintWords YtffjfdoghofkdaaGreatW.PrintLast YtffjfdoghofkdaaGreatW.PrintMore
attribute [local go_sem] max2_int min2_int max_two min_two max_three min_three max_four min_four
def slices_IndexFunc_int_int.l0:Nat→List Int→Int→Int→Option (Int)
 | 0,_,_,_=>none
 | k+1,x0,x7,x8=>if x8 < x7 then (if 0≤x8 then (if x8 < (x0.length:Int) then ((impl_IsValidConstraint_1.f (rd x0 x8)).bind fun t126002=>(if t126002=true then (some x8) else (slices_IndexFunc_int_int.l0 k x0 x7 (wrap64 (x8+1))))) else (none)) else (none)) else (some (-1))
def slices_IndexFunc_int_int.f (k:Nat) (l0:List Int):Option (Int):=slices_IndexFunc_int_int.l0 k l0 (l0.length:Int) 0
theorem slices_IndexFunc_int_int.mono_l:∀ k,(∀ y0 y1 y2,LeO (slices_IndexFunc_int_int.l0 k y0 y1 y2) (slices_IndexFunc_int_int.l0 (k+1) y0 y1 y2))
 | 0=>fun _ _ _ r h=>by simp [slices_IndexFunc_int_int.l0] at h
 | k+1=>by
  have ih0:=slices_IndexFunc_int_int.mono_l k
  ·intro y0 y1 y2
   unfold slices_IndexFunc_int_int.l0
   repeat' first
   | with_reducible first|exact ih0 _ _ _|exact LeO.refl _|exact LeO.none _|refine LeO.ite ?_ ?_|refine LeO.bind ?_ (fun _=>?_)
theorem slices_IndexFunc_int_int.mono:∀ a0 k,LeO (slices_IndexFunc_int_int.f k a0) (slices_IndexFunc_int_int.f (k+1) a0):=by
 intro a0 k
 have ih0:=slices_IndexFunc_int_int.mono_l k
 unfold slices_IndexFunc_int_int.f
 repeat' first
  | with_reducible first|exact ih0 _ _ _|exact LeO.refl _|exact LeO.none _|refine LeO.ite ?_ ?_|refine LeO.bind ?_ (fun _=>?_)
theorem slices_IndexFunc_int_int.calls (k:Nat) (A0:Option Addr) (c0:Nat) (l0:List Int) (r:Int) (w:World) (hr0:Kd.C (Kd.int .i64) w A0 l0.length l0) (hc0:l0.length≤c0) (h:slices_IndexFunc_int_int.f k l0=some r) :
   Calls Tryz.prog 126 #[.slice A0 l0.length c0,.func (.func 96) #[] #[]] w fun e w'=>e = .returned (.int .i64 r)∧Drawn0 w w':=by
 have HR0:=zk hr0
 have HC0:=zk hc0
 clear hr0 hc0
 have H:(slices_IndexFunc_int_int.l0 k l0 (l0.length:Int) 0)=some r:=h
 clear h
 have H':=zk H
 clear H
 go_enter Tryz.func126,Tryz.ntmps126
 go_wp2
 first|go_loopg [8] k (fun kq v8 w'=>∃ (x8_1:Int),v8 = .int .i64 x8_1∧Aside0 (slices_IndexFunc_int_int.l0 kq l0 (l0.length:Int) x8_1=some r)∧Aside0 (kq≤k)∧Drawn0 w w')|(simp only [Act.put,zt,zv,zu];go_loopg [8] k (fun kq v8 w'=>∃ (x8_1:Int),v8 = .int .i64 x8_1∧Aside0 (slices_IndexFunc_int_int.l0 kq l0 (l0.length:Int) x8_1=some r)∧Aside0 (kq≤k)∧Drawn0 w w'))
 case atStart=>exact ⟨(0),za7,H',⟨Nat.le_refl _⟩,za10⟩
 case round =>
  clear H'
  obtain ⟨x8_1,rfl,HA,HK1,⟨m1,rfl⟩⟩:=hrel
  cases gk with
  | zero=>exact absurd HA.out (by simp [slices_IndexFunc_int_int.l0])
  | succ k1 =>
   have H:=HA.out
   clear HA
   simp only [slices_IndexFunc_int_int.l0] at H
   by_cases c2:x8_1 < (l0.length:Int)
   rw [if_pos c2] at H
   have c2b0:decide (x8_1 < (l0.length:Int))=true:=decide_eq_true c2
   clear c2
   by_cases c3:0≤x8_1
   rw [if_pos c3] at H
   have c3b0:decide (0≤x8_1)=true:=decide_eq_true c3
   clear c3
   by_cases c4:x8_1 < (l0.length:Int)
   rw [if_pos c4] at H
   have c4b0:decide (x8_1 < (l0.length:Int))=true:=decide_eq_true c4
   clear c4
   replace H:=zo H
   obtain ⟨t126002,A50,H⟩:=H
   replace H:(if t126002=true then (some x8_1) else (slices_IndexFunc_int_int.l0 k1 l0 (l0.length:Int) (wrap64 (x8_1+1))))=some r:=H
   have A5:=zk A50
   clear A50
   by_cases c6:t126002=true
   subst c6
   have H1:(some x8_1)=some r:=by rw [if_pos rfl] at H;exact H
   clear H
   have H:=H1
   clear H1
   obtain rfl:=zi H
   have fin0_:=zk trivial
   rotate_left
   replace c6:=Bool.eq_false_iff.mpr c6
   subst c6
   have H1:(slices_IndexFunc_int_int.l0 k1 l0 (l0.length:Int) (wrap64 (x8_1+1)))=some r:=by rw [if_neg (show ¬ (false=true) by decide)] at H;exact H
   clear H
   have H:=H1
   clear H1
   have H':=zk H
   clear H
   have fin1_:=zk trivial
   rotate_left
   · rw [if_neg c4] at H
     exact absurd H (by simp)
   · rw [if_neg c3] at H
     exact absurd H (by simp)
   · rw [if_neg c2] at H
     have c2b0:decide (x8_1 < (l0.length:Int))=false:=decide_eq_false c2
     clear c2
     obtain rfl:=zi H
     go_wp2
     go_ret
     exact ⟨za7,za10⟩
   all_goals
    have p126001:0≤(x8_1:Int):=of_decide_eq_true za8
    have q126001:x8_1 < (l0.length:Int):=of_decide_eq_true za8
    obtain ⟨ad126001,e126001,hx126001_0⟩:=Kd.at_int HR0.out x8_1 p126001 q126001
    cases e126001
    replace p126001:=eq_true p126001
    replace q126001:=eq_true q126001
    go_wp2_with (((with_reducible refine gate_dst (N:=16) rfl ?_);refine goesF_ (some 16) rfl rfl Tryz.func96 (by kernel_rfl) rfl #[.int .i64 (rd l0 x8_1)] rfl (by first|rfl|(go_simp;done)) za4 ?_;(with_reducible refine (impl_IsValidConstraint_1.calls (rd l0 x8_1) _ _ A5.out).mono ?_);rintro e w' ⟨rfl,⟨nd,rfl⟩⟩;refine ⟨_,rfl,?_⟩))
    first
    | (
      clear fin0_
      go_ret
      exact ⟨za7,za10⟩)
    | (
      clear fin1_
      go_roundg k1
      case measure=>have:=HK1.out;omega
      case rel=>exact ⟨(wrap64 (x8_1+1)),za7,H',⟨za15⟩,za10⟩)
def slices_ContainsFunc_int_int.f (k:Nat) (l0:List Int):Option (Bool):=(slices_IndexFunc_int_int.f k l0).bind fun t95001=>(some (decide (t95001 ≥ 0)))
theorem slices_ContainsFunc_int_int.mono:∀ a0 k,LeO (slices_ContainsFunc_int_int.f k a0) (slices_ContainsFunc_int_int.f (k+1) a0):=by
 intro a0 k
 unfold slices_ContainsFunc_int_int.f
 repeat' first
  | with_reducible first|exact slices_IndexFunc_int_int.mono _ _|exact LeO.refl _|exact LeO.none _|refine LeO.ite ?_ ?_|refine LeO.bind ?_ (fun _=>?_)
theorem slices_ContainsFunc_int_int.calls (k:Nat) (A0:Option Addr) (c0:Nat) (l0:List Int) (r:Bool) (w:World) (hr0:Kd.C (Kd.int .i64) w A0 l0.length l0) (hc0:l0.length≤c0) (h:slices_ContainsFunc_int_int.f k l0=some r) :
  Calls Tryz.prog 95 #[.slice A0 l0.length c0,.func (.func 96) #[] #[]] w fun e w'=>e = .returned (.bool r)∧Drawn0 w w':=by
 have HR0:=zk hr0
 have HC0:=zk hc0
 clear hr0 hc0
 have H:((slices_IndexFunc_int_int.f k l0).bind fun t95001=>(some (decide (t95001 ≥ 0))))=some r:=h
 clear h
 replace H:=zo H
 obtain ⟨t95001,A20,H⟩:=H
 replace H:(some (decide (t95001 ≥ 0)))=some r:=H
 have A2:=zk A20
 clear A20
 obtain rfl:=zi H
 go_enter Tryz.func95,Tryz.ntmps95
 go_wp2_with (first|((with_reducible refine gate_callee (f:=126) rfl ?_);refine goesL_ (some 7) rfl rfl Tryz.func126 (by kernel_rfl) rfl #[.slice A0 l0.length c0,.func (.func 96) #[] #[]] rfl za4 ?_;(with_reducible refine (slices_IndexFunc_int_int.calls k _ _ l0 t95001 _ ?side1 ?side2 A2.out).mono ?_);(case side1=>repeat (first|exact HR0.out|(with_reducible refine Kd.C_alloc ?_ _)|(with_reducible refine Kd.C_drewN ?_ _)|(with_reducible refine Kd.C_drew ?_)));(case side2=>exact HC0.out);rintro e w' ⟨rfl,⟨nd,rfl⟩⟩;refine ⟨_,rfl,?_⟩))
 go_ret
 exact ⟨za7,za10⟩
end Go.Proofs.YtffjfdoghofkdaaGreat.A
namespace Go.Proofs.YtffjfdoghofkdaaGreat.Ext
open Go.RowKit YtffjfdoghofkdaaGreatW.PrintWords YtffjfdoghofkdaaGreatW.PrintLast YtffjfdoghofkdaaGreat.A
inductive Rx where
 | none:Rx
 | empty:Rx
 | letter (l:ByteArray):Rx
 | any:Rx
 | cat (a b:Rx):Rx
 | or (a b:Rx):Rx
 | and (a b:Rx):Rx
 | star (a:Rx):Rx
 | not (a:Rx):Rx
def Rx.size:Rx→Nat
 | .cat a b=>1+a.size+b.size
 | .or a b=>1+a.size+b.size
 | .and a b=>1+a.size+b.size
 | .star a=>1+a.size
 | .not a=>1+a.size
 | _=>1
theorem Rx.size_pos (t:Rx):0 < t.size:=by cases t <;> simp only [Rx.size] <;> omega
inductive IsRx : S65 → Rx → Prop
 | none (s:ByteArray):IsRx ⟨1,s,[]⟩ .none
 | empty (s:ByteArray):IsRx ⟨2,s,[]⟩ .empty
 | letter (s:ByteArray):IsRx ⟨3,s,[]⟩ (.letter s)
 | any (s:ByteArray):IsRx ⟨4,s,[]⟩ .any
 | cat (s:ByteArray) {x y:S65} {t u:Rx} (hx:IsRx x t) (hy:IsRx y u):IsRx ⟨5,s,[x,y]⟩ (.cat t u)
 | or (s:ByteArray) {x y:S65} {t u:Rx} (hx:IsRx x t) (hy:IsRx y u):IsRx ⟨6,s,[x,y]⟩ (.or t u)
 | and (s:ByteArray) {x y:S65} {t u:Rx} (hx:IsRx x t) (hy:IsRx y u):IsRx ⟨7,s,[x,y]⟩ (.and t u)
 | star (s:ByteArray) {x:S65} {t:Rx} (hx:IsRx x t):IsRx ⟨8,s,[x]⟩ (.star t)
 | not (s:ByteArray) {x:S65} {t:Rx} (hx:IsRx x t):IsRx ⟨9,s,[x]⟩ (.not t)
def rxOf:Nat→S65→Option Rx
 | 0,_ => .none
 | n+1,x=>match x.f2 with
  | []=>if x.f0=1 then some .none else if x.f0=2 then some .empty else if x.f0=3 then some (.letter x.f1) else if x.f0=4 then some .any else .none
  | [a]=>(rxOf n a).bind fun t=>if x.f0=8 then some (.star t) else if x.f0=9 then some (.not t) else .none
  | [a,b]=>(rxOf n a).bind fun t=>(rxOf n b).bind fun u=>if x.f0=5 then some (.cat t u) else if x.f0=6 then some (.or t u) else if x.f0=7 then some (.and t u) else .none
  | _ => .none
theorem rxOf_is:∀ n (x:S65) (t:Rx),rxOf n x=some t→IsRx x t:=by
 intro n
 induction n with
 | zero=>intro x t h;exact absurd h (by simp [rxOf])
 | succ n ih =>
  intro x t h
  obtain ⟨k,s,l⟩:=x
  rcases l with _|⟨a,_|⟨b,_|⟨c,l⟩⟩⟩
  ·simp only [rxOf] at h
   split at h
   ·next e=>subst e;obtain rfl:=zi h;exact .none s
   ·split at h
    ·next e=>subst e;obtain rfl:=zi h;exact .empty s
    ·split at h
     ·next e=>subst e;obtain rfl:=zi h;exact .letter s
     ·split at h
      ·next e=>subst e;obtain rfl:=zi h;exact .any s
      ·exact absurd h (by simp)
  ·simp only [rxOf] at h
   replace h:=zo h
   obtain ⟨u,hu,h⟩:=h
   split at h
   ·next e=>subst e;obtain rfl:=zi h;exact .star s (ih _ _ hu)
   ·split at h
    ·next e=>subst e;obtain rfl:=zi h;exact .not s (ih _ _ hu)
    ·exact absurd h (by simp)
  ·simp only [rxOf] at h
   replace h:=zo h
   obtain ⟨u,hu,h⟩:=h
   replace h:=zo h
   obtain ⟨v,hv,h⟩:=h
   split at h
   ·next e=>subst e;obtain rfl:=zi h;exact .cat s (ih _ _ hu) (ih _ _ hv)
   ·split at h
    ·next e=>subst e;obtain rfl:=zi h;exact .or s (ih _ _ hu) (ih _ _ hv)
    ·split at h
     ·next e=>subst e;obtain rfl:=zi h;exact .and s (ih _ _ hu) (ih _ _ hv)
     ·exact absurd h (by simp)
  ·exact absurd h (by simp [rxOf])
/-! The language. -/
def exIn (p:Nat→Bool) (i j:Nat):Bool:=(List.range (j+1 - i)).any fun d=>p (i+d)
theorem exIn_iff (p:Nat→Bool) (i j:Nat):exIn p i j=true ↔ ∃ k,i≤k∧k≤j∧p k=true:=by
 unfold exIn
 rw [List.any_eq_true]
 constructor
 ·rintro ⟨d,hd,h⟩
  have:=List.mem_range.1 hd
  exact ⟨i+d,by omega,by omega,h⟩
 ·rintro ⟨k,h1,h2,h⟩
  exact ⟨k - i,List.mem_range.2 (by omega),by rw [show i+(k - i)=k by omega];exact h⟩
def stf (f:Nat→Nat→Bool):Nat→Nat→Nat→Bool
 | 0,i,j=>i == j
 | n+1,i,j=>i == j || exIn (fun k=>f i k && stf f n k j) (i+1) j
def mt (s:ByteArray):Rx→Nat→Nat→Bool
 | .none,_,_=>false
 | .empty,i,j=>i == j
 | .letter l,i,j=>(s.extract i j).toList == l.toList
 | .any,i,j=>j == i+1
 | .cat a b,i,j=>exIn (fun k=>mt s a i k && mt s b k j) i j
 | .or a b,i,j=>mt s a i j || mt s b i j
 | .and a b,i,j=>mt s a i j && mt s b i j
 | .star a,i,j=>stf (mt s a) (j - i) i j
 | .not a,i,j => !mt s a i j
inductive Path (f : Nat → Nat → Bool) : Nat → Nat → Prop
 | refl (i:Nat):Path f i i
 | step {i k j:Nat} (h:i < k) (hf:f i k=true) (r:Path f k j):Path f i j
theorem Path.le {f:Nat→Nat→Bool} {i j:Nat} (h:Path f i j):i≤j:=by
 induction h with
 | refl=>exact Nat.le_refl _
 | step h _ _ ih=>omega
theorem Path.snoc {f:Nat→Nat→Bool} {i j k:Nat} (h:Path f i j) (hk:j < k) (hf:f j k=true):Path f i k:=by
 induction h with
 | refl i=>exact .step hk hf (.refl _)
 | step h g _ ih=>exact .step h g (ih hk hf)
theorem Path.last {f:Nat→Nat→Bool} {i k:Nat} (h:Path f i k):k=i∨∃ m,i≤m∧m < k∧Path f i m∧f m k=true:=by
 induction h with
 | refl i=>exact .inl rfl
 | @step i k j h g r ih =>
  right
  rcases ih with rfl|⟨m,h1,h2,h3,h4⟩
  ·exact ⟨i,Nat.le_refl _,h,.refl _,g⟩
  ·exact ⟨m,by omega,h2,.step h g h3,h4⟩
theorem stf_iff (f:Nat→Nat→Bool):∀ n i j,j - i≤n→(stf f n i j=true ↔ Path f i j):=by
 intro n
 induction n with
 | zero =>
  intro i j h
  simp only [stf,beq_iff_eq]
  constructor
  ·rintro rfl;exact .refl _
  ·intro p;have:=p.le;omega
 | succ n ih =>
  intro i j h
  simp only [stf,Bool.or_eq_true,beq_iff_eq,exIn_iff,Bool.and_eq_true]
  constructor
  ·rintro (rfl|⟨k,h1,h2,h3,h4⟩)
   ·exact .refl _
   ·exact .step (by omega) h3 ((ih k j (by omega)).1 h4)
  ·intro p
   cases p with
   | refl=>exact .inl rfl
   | @step _ k _ h1 h2 r=>exact .inr ⟨k,by omega,r.le,h2,(ih k j (by omega)).2 r⟩
theorem star_iff (s:ByteArray) (a:Rx) (i j:Nat):mt s (.star a) i j=true ↔ Path (mt s a) i j:=stf_iff _ _ _ _ (Nat.le_refl _)
theorem star_self (s:ByteArray) (a:Rx) (i:Nat):mt s (.star a) i i=true:=(star_iff s a i i).2 (.refl _)
theorem star_first (s:ByteArray) (a:Rx) (i j:Nat) (h:i < j):mt s (.star a) i j=exIn (fun k=>mt s a i k && mt s (.star a) k j) (i+1) j:=by
 rw [Bool.eq_iff_iff,star_iff,exIn_iff]
 constructor
 ·intro p
  cases p with
  | refl=>omega
  | @step _ k _ h1 h2 r=>exact ⟨k,by omega,r.le,by simp [h2,(star_iff s a k j).2 r]⟩
 ·rintro ⟨k,h1,h2,h3⟩
  simp only [Bool.and_eq_true] at h3
  exact .step (by omega) h3.1 ((star_iff s a k j).1 h3.2)
theorem star_last (s:ByteArray) (a:Rx) (i k:Nat) (h:i < k):mt s (.star a) i k=exIn (fun m=>mt s (.star a) i m && mt s a m k) i (k - 1):=by
 rw [Bool.eq_iff_iff,star_iff,exIn_iff]
 constructor
 ·intro p
  rcases p.last with rfl|⟨m,h1,h2,h3,h4⟩
  ·omega
  ·exact ⟨m,h1,by omega,by simp [h4,(star_iff s a i m).2 h3]⟩
 ·rintro ⟨m,h1,h2,h3⟩
  simp only [Bool.and_eq_true] at h3
  exact ((star_iff s a i m).1 h3.1).snoc (by omega) h3.2
def rxMatch (k:Int) (b:ByteArray) (l:List S65) (s:ByteArray):Option Bool :=
 if s.size≤400 then (rxOf 7 ⟨k,b,l⟩).bind fun t=>if t.size≤16 then some (mt s t 0 s.size) else .none else .none
theorem rxMatch_some {k:Int} {b:ByteArray} {l:List S65} {s:ByteArray} {r:Bool} (h:rxMatch k b l s=some r):∃ t,IsRx ⟨k,b,l⟩ t∧t.size≤16∧s.size≤400∧mt s t 0 s.size=r:=by
 unfold rxMatch at h
 split at h
 ·next h0 =>
  obtain ⟨t,h1,h2⟩:=zo h
  split at h2
  ·next h3=>exact ⟨t,rxOf_is _ _ _ h1,h3,h0,zi h2⟩
  ·exact absurd h2 (by simp)
 ·exact absurd h (by simp)
end Go.Proofs.YtffjfdoghofkdaaGreat.Ext
-- ALSO loop.example/g00582/impl.size
namespace Go.Proofs.YtffjfdoghofkdaaGreat.Ext
open Go Go.RowKit YtffjfdoghofkdaaGreatW.PrintWords YtffjfdoghofkdaaGreatW.PrintLast YtffjfdoghofkdaaGreat.A
def ix (n a i j:Nat):Nat:=(a * n+i) * n+j
theorem ix_inj {n a i j a' i' j':Nat} (hi:i < n) (hj:j < n) (hi':i' < n) (hj':j' < n) (h:ix n a i j=ix n a' i' j'):a=a'∧i=i'∧j=j':=by
 unfold ix at h
 have q1:((a * n+i) * n+j) / n=a * n+i:=by rw [Nat.mul_comm,Nat.mul_add_div (by omega),Nat.div_eq_of_lt hj,Nat.add_zero]
 have q2:((a' * n+i') * n+j') / n=a' * n+i':=by rw [Nat.mul_comm,Nat.mul_add_div (by omega),Nat.div_eq_of_lt hj',Nat.add_zero]
 have q3:(a * n+i) / n=a:=by rw [Nat.mul_comm,Nat.mul_add_div (by omega),Nat.div_eq_of_lt hi,Nat.add_zero]
 have q4:(a' * n+i') / n=a':=by rw [Nat.mul_comm,Nat.mul_add_div (by omega),Nat.div_eq_of_lt hi',Nat.add_zero]
 have e1:a * n+i=a' * n+i':=by rw [← q1,← q2,h]
 have e2:a=a':=by rw [← q3,← q4,e1]
 subst e2
 have e3:i=i':=by omega
 subst e3
 exact ⟨rfl,rfl,by omega⟩
theorem ix_lt {n a i j z:Nat} (ha:a < z) (hi:i < n) (hj:j < n):ix n a i j < z * n * n:=by
 unfold ix
 have h1:a * n+i+1≤z * n:=by
  have:(a+1) * n≤z * n:=Nat.mul_le_mul_right n ha
  rw [Nat.add_mul] at this
  omega
 have h2:(a * n+i+1) * n≤z * n * n:=Nat.mul_le_mul_right n h1
 rw [Nat.add_mul (a * n+i) 1 n] at h2
 omega
structure MSt (g b : Nat) (s : ByteArray) (n : Nat) (m : List Int) (W : World) : Prop where
 hm:W.heap[g]? = some (.cells #[.string s,.int .i64 (n:Int),.slice (some ⟨b,0,none⟩) m.length m.length] 120 (0,0))
 hb:W.heap[b]? = some (.cells (nums .i8 m).toArray 137 (0,0))
def Rg0:=Nat→Nat→Nat→Prop
def RgM (id sz len:Nat):Rg0:=fun a i j=>id≤a∧a < id+sz∧(a=id→j - i≤len)
def RgF (id sz len:Nat):Rg0:=fun a i j=>id≤a∧a < id+sz∧(a=id→j - i < len)
def Gd (n:Nat) (T:Nat→Nat→Nat→Bool) (m:List Int) (R:Rg0):Prop :=
 ∀ a i j,i≤j→j < n→R a i j→m.getD (ix n a i j) 0=0∨m.getD (ix n a i j) 0=if T a i j=true then 2 else 1
def Sm3 (n:Nat) (m m':List Int) (R:Rg0):Prop:=∀ a i j,i≤j→j < n→¬ R a i j→m'.getD (ix n a i j) 0=m.getD (ix n a i j) 0
theorem Gd.sub {n:Nat} {T:Nat→Nat→Nat→Bool} {m:List Int} {R R':Rg0} (h:Gd n T m R) (hs:∀ a i j,R' a i j→R a i j):Gd n T m R' :=
 fun a i j h1 h2 h3=>h a i j h1 h2 (hs _ _ _ h3)
theorem Gd.next {n:Nat} {T:Nat→Nat→Nat→Bool} {m m':List Int} {R R':Rg0} (h:Gd n T m R) (h':Gd n T m' R') (hs:Sm3 n m m' R'):Gd n T m' R:=by
 intro a i j h1 h2 h3
 by_cases h4:R' a i j
 ·exact h' a i j h1 h2 h4
 ·rw [hs a i j h1 h2 h4];exact h a i j h1 h2 h3
theorem Sm3.next {n:Nat} {m m' m2:List Int} {R R':Rg0} (h:Sm3 n m m' R) (h':Sm3 n m' m2 R') (hs:∀ a i j,R' a i j→R a i j):Sm3 n m m2 R :=
 fun a i j h1 h2 h3=>(h' a i j h1 h2 (fun h4=>h3 (hs _ _ _ h4))).trans (h a i j h1 h2 h3)
theorem Sm3.refl (n:Nat) (m:List Int) (R:Rg0):Sm3 n m m R:=fun _ _ _ _ _ _=>rfl
def MPost (w0 W:World) (g b:Nat) (s:ByteArray) (n:Nat) (T:Nat→Nat→Nat→Bool) (m:List Int) (R:Rg0) (r:Bool) (e:Ending) (W':World):Prop :=
 e = .returned (.bool r)∧∃ m':List Int,m'.length=m.length∧MSt g b s n m' W'∧Gd n T m' R∧Sm3 n m m' R∧KeepBut W W' b none∧Below w0.heap.size w0 W'
theorem MSt.cell {g b:Nat} {s:ByteArray} {n:Nat} {m:List Int} {W:World} (h:MSt g b s n m W) (k:Nat) (hk:k < m.length):W.cell? ⟨b,k,none⟩=some (.int .i8 (m.getD k 0)):=by
 rw [blk_cell h.hb]
 simp [nums,hk]
theorem MSt.below {g b:Nat} {s:ByteArray} {n:Nat} {m:List Int} {W W':World} (h:MSt g b s n m W) (hb:Below W.heap.size W W'):MSt g b s n m W':=⟨blk_below h.hm hb,blk_below h.hb hb⟩
theorem getD_set_ne {l:List Int} {i j:Nat} (v d:Int) (h:i ≠ j):(l.set i v).getD j d=l.getD j d:=by
 rw [List.getD_eq_getElem?_getD,List.getD_eq_getElem?_getD,List.getElem?_set_ne h]
theorem getD_set_eq {l:List Int} {i:Nat} (v d:Int) (h:i < l.length):(l.set i v).getD i d=v:=by
 rw [List.getD_eq_getElem?_getD,List.getElem?_set_self h];rfl
theorem MSt.put {g b:Nat} {s:ByteArray} {n:Nat} {m:List Int} {W:World} (h:MSt g b s n m W) (hgb:g ≠ b) (k:Nat) (v:Int):MSt g b s n (m.set k v) (W.setCell ⟨b,k,none⟩ (.int .i8 v)):=by
 refine ⟨?_,?_⟩
 ·rw [List.length_set]
  exact blk_far h.hm hgb _
 ·refine blk_put h.hb k _ ?_
  simp [nums,List.map_set]
theorem wrap_nat (k:Nat) (h:k≤9223372036854775807):wrap64 (k:Int)=k:=by unfold wrap64;omega
theorem iwrap_nat (k:Nat) (h:k≤9223372036854775807):IntKind.i64.wrap (k:Int)=k:=by rw [i64_w];exact wrap_nat k h
theorem ix_steps (n id i j m z:Nat) (hix:ix n id i j < m) (hl:m=z * n * n) (hz:z≤16) (hn:n≤401) :
  IntKind.i64.wrap ((id:Int) * (n:Int))=(id:Int) * (n:Int)∧wrap64 ((id:Int) * (n:Int)+(i:Int))=(id:Int) * (n:Int)+(i:Int) ∧
  wrap64 (((id:Int) * (n:Int)+(i:Int)) * (n:Int))=((id:Int) * (n:Int)+(i:Int)) * (n:Int)∧wrap64 (((id:Int) * (n:Int)+(i:Int)) * (n:Int)+(j:Int))=((ix n id i j:Nat):Int):=by
 have hzn:z * n * n≤16 * 401 * 401:=Nat.mul_le_mul (Nat.mul_le_mul hz hn) hn
 have c0:((id * n:Nat):Int)=(id:Int) * (n:Int):=Int.natCast_mul ..
 have c1:(((id * n+i) * n:Nat):Int)=((id:Int) * (n:Int)+(i:Int)) * (n:Int):=by rw [Int.natCast_mul,Int.natCast_add,c0]
 have c2:((ix n id i j:Nat):Int)=((id:Int) * (n:Int)+(i:Int)) * (n:Int)+(j:Int):=by unfold ix;rw [Int.natCast_add,c1]
 have e3:ix n id i j=(id * n+i) * n+j:=rfl
 have h4:ix n id i j≤3000000:=by omega
 generalize hk:ix n id i j=k at *
 have h3:(id * n+i) * n≤3000000:=by omega
 have hn0:0 < n:=by
  rcases Nat.eq_zero_or_pos n with h|h
  ·subst h;simp at hl;omega
  ·exact h
 have h2:id * n+i≤3000000:=Nat.le_trans (Nat.le_mul_of_pos_right _ hn0) h3
 refine ⟨?_,?_,?_,?_⟩
 ·rw [← c0];exact iwrap_nat _ (by omega)
 ·rw [← c0,← Int.natCast_add];exact wrap_nat _ (by omega)
 ·rw [← c1];exact wrap_nat _ (by omega)
 ·rw [← c2];exact wrap_nat _ (by omega)
set_option maxHeartbeats 4000000 in
theorem match_of_find (w0:World) (g b:Nat) (hgb:g ≠ b) (hg:w0.heap.size≤g) (hb:w0.heap.size≤b) (s:ByteArray) (n:Nat) (hn:n≤401) (z:Nat) (hz:z≤16) (T:Nat→Nat→Nat→Bool)
  (x:S65) (A:Option Addr) (c:Nat) (id sz i j:Nat) (hid:id < z) (hs0:0 < sz) (hij:i≤j) (hj:j < n) (r:Bool) (hT:T id i j=r)
  (hf:∀ (m:List Int) (W:World),m.length=z * n * n→MSt g b s n m W→Gd n T m (RgF id sz (j - i))→Below w0.heap.size w0 W →
   Calls Tryz.prog 132 #[.pointer (some ⟨g,0,none⟩),.agg #[.int .i64 x.f0,.string x.f1,.slice A x.f2.length c],.int .i64 (id:Int),.int .i64 (i:Int),.int .i64 (j:Int)] W (MPost w0 W g b s n T m (RgF id sz (j - i)) r))
  (m:List Int) (W:World) (hl:m.length=z * n * n) (hM:MSt g b s n m W) (hG:Gd n T m (RgM id sz (j - i))) (hB:Below w0.heap.size w0 W) :
  Calls Tryz.prog 109 #[.pointer (some ⟨g,0,none⟩),.agg #[.int .i64 x.f0,.string x.f1,.slice A x.f2.length c],.int .i64 (id:Int),.int .i64 (i:Int),.int .i64 (j:Int)] W (MPost w0 W g b s n T m (RgM id sz (j - i)) r):=by
 have hix:ix n id i j < m.length:=by rw [hl];exact ix_lt hid (by omega) hj
 obtain ⟨v1,v2,v3,v4⟩:=ix_steps n id i j m.length z hix hl hz hn
 have HM:=zk hM
 have HB:=zk hB
 have HG:=zk hG
 have HF:=zk hf
 have HX:=zk hix
 have HL:=zk hl
 have HT:=zk hT
 clear hM hB hG hf hl hT
 go_enter Tryz.func109,Tryz.ntmps109
 go_upto_region 1 with ((with_reducible refine gate_dst (N:=6) rfl ?_);refine zE (N:=6) (cs:=#[.int .i64 x.f0,.string x.f1,.slice A x.f2.length c]) (t:=65) ?_;intro gx hgx w3 hbox hb3;have M3:=zk (HM.out.below hb3);have K3:=zk (KeepBut.of_below hb3 b none);have B3:=zk (below_step HB.out hb3:Below w0.heap.size w0 w3);have X3:=zk hbox;have G3:=zk (show W.heap.size≤gx by omega);have N3:=zk (show b < W.heap.size from blk_lt HM.out.hb);clear hb3 hbox hgx)
 go_cut [11] (fun v11 wc=>v11 = .int .i64 ((ix n id i j:Nat):Int)∧Aside0 (MSt g b s n m wc)∧Aside0 (KeepBut W wc b none)∧Aside0 (Below w0.heap.size w0 wc)∧Aside0 (wc.heap[gx]? = some (.cells #[.int .i64 x.f0,.string x.f1,.slice A x.f2.length c] 65 (0,0))))
 case first =>
  obtain ⟨z0,z1,z2,f0,f1,f2⟩:=blk3 M3.out.hm
  go_quiet (fail)
  try go_wp2
  go_meet
  case rel=>exact ⟨by simp only [v1,v2,v3,v4],⟨M3.out.hm,M3.out.hb⟩,⟨K3.out⟩,⟨pw_below_drewN B3.out _⟩,⟨X3.out⟩⟩
 case rest =>
  clear M3 K3 B3 X3 HM HB v1 v2 v3 v4
  obtain ⟨rfl,HM,HK,HB,HX3⟩:=hcut
  obtain ⟨z0,z1,z2,f0,f1,f2⟩:=blk3 HM.out.hm
  have zc:=HM.out.cell _ HX.out
  have q1:=eq_true hix
  clear hix
  by_cases hv:m.getD (ix n id i j) 0=0
  ·have hgx:gx ≠ b:=by have:=G3.out;have:=N3.out;omega
   have hgx':b ≠ gx:=fun h=>hgx h.symm
   have hgb':b ≠ g:=fun h=>hgb h.symm
   have HS1:=zk (show (m.set (ix n id i j) 1).length=z * n * n by rw [List.length_set];exact HL.out)
   have HG1:Aside0 (Gd n T (m.set (ix n id i j) 1) (RgF id sz (j - i))):=⟨by
    intro a' i' j' h1 h2 h3
    have hne:ix n id i j ≠ ix n a' i' j':=by
     intro he
     obtain ⟨rfl,rfl,rfl⟩:=ix_inj (by omega) hj (by omega) h2 he
     have:=h3.2.2 rfl
     omega
    rw [getD_set_ne _ _ hne]
    exact HG.out a' i' j' h1 h2 ⟨h3.1,h3.2.1,fun e=>by have:=h3.2.2 e;omega⟩⟩
   have HN:Aside0 (¬ RgF id sz (j - i) id i j):=⟨fun h=>by have:=h.2.2 rfl;omega⟩
   have HI:Aside0 (∀ (m5:List Int) (v:Int),m5.length=m.length→(v=if r=true then 2 else 1)→m5.getD (ix n id i j) 0=v→Gd n T m5 (RgF id sz (j - i))→(∀ a' i' j',i'≤j'→j' < n→ix n id i j ≠ ix n a' i' j'→¬ RgF id sz (j - i) a' i' j'→m5.getD (ix n a' i' j') 0=(m.set (ix n id i j) 1).getD (ix n a' i' j') 0)→Gd n T m5 (RgM id sz (j - i))∧Sm3 n m m5 (RgM id sz (j - i))):=⟨by
    intro m5 v h5 hv5 h0 hG5 hS5
    refine ⟨fun a' i' j' h1 h2 h3=>?_,fun a' i' j' h1 h2 h3=>?_⟩
    ·by_cases he:ix n id i j=ix n a' i' j'
     ·obtain ⟨rfl,rfl,rfl⟩:=ix_inj (by omega) hj (by omega) h2 he
      rw [h0,hv5,HT.out]
      exact .inr rfl
     ·by_cases h4:RgF id sz (j - i) a' i' j'
      ·exact hG5 a' i' j' h1 h2 h4
      ·rw [hS5 a' i' j' h1 h2 he h4,getD_set_ne _ _ he]
       exact HG.out a' i' j' h1 h2 h3
    ·have he:ix n id i j ≠ ix n a' i' j':=by
      intro he
      obtain ⟨rfl,rfl,rfl⟩:=ix_inj (by omega) hj (by omega) h2 he
      exact h3 ⟨Nat.le_refl _,by omega,fun _=>Nat.le_refl _⟩
     have h4:¬ RgF id sz (j - i) a' i' j':=fun h=>h3 ⟨h.1,h.2.1,fun e=>by have:=h.2.2 e;omega⟩
     rw [hS5 a' i' j' h1 h2 he h4,getD_set_ne _ _ he]⟩
   rw [hv] at zc
   clear hv
   have fc:=blk_frozen HM.out.hb (ix n id i j)
   obtain ⟨y0,y1,y2,g0,g1,g2⟩:=blk3 HX3.out
   cases r
   ·go_wp2_with (go_at_call 132;refine (HF.out (m.set (ix n id i j) 1) _ HS1.out (HM.out.put hgb _ 1) HG1.out (HB.out.setCell hb _)).mono ?_;rintro e w5 ⟨rfl,m5,hl5,M5,G5,S5,K5,B5⟩;have n0_:=zk hl5;have n1_:=zk G5;have n2_:=zk S5;have n3_:=zk K5;have n4_:=zk B5;have n5_:=zk M5;clear hl5 G5 S5 K5 B5 M5 z0 z1 z2 f0 f1 f2 zc fc y0 y1 y2 g0 g1 g2;obtain ⟨z0,z1,z2,f0,f1,f2⟩:=blk3 n5_.out.hm;have zc:=n5_.out.cell (ix n id i j) (by rw [n0_.out,List.length_set];exact HX.out);rw [n2_.out id i j hij hj HN.out,getD_set_eq _ _ HX.out] at zc;have q1:=eq_true (show ix n id i j < m5.length by rw [n0_.out,List.length_set];exact HX.out))
    go_ret
    have n6_:=HI.out m5 1 (by rw [n0_.out,List.length_set]) rfl (by rw [n2_.out id i j hij hj HN.out,getD_set_eq _ _ HX.out]) n1_.out (fun a' i' j' h1 h2 _ h3=>n2_.out a' i' j' h1 h2 h3)
    exact ⟨rfl,m5,by rw [n0_.out,List.length_set],n5_.out,n6_.1,n6_.2,(HK.out.set_ _ _).trans n3_.out (.inl rfl),n4_.out⟩
   ·go_wp2_with (go_at_call 132;refine (HF.out (m.set (ix n id i j) 1) _ HS1.out (HM.out.put hgb _ 1) HG1.out (HB.out.setCell hb _)).mono ?_;rintro e w5 ⟨rfl,m5,hl5,M5,G5,S5,K5,B5⟩;have n0_:=zk hl5;have n1_:=zk G5;have n2_:=zk S5;have n3_:=zk K5;have n4_:=zk B5;have n5_:=zk M5;clear hl5 G5 S5 K5 B5 M5 z0 z1 z2 f0 f1 f2 zc fc y0 y1 y2 g0 g1 g2;obtain ⟨z0,z1,z2,f0,f1,f2⟩:=blk3 n5_.out.hm;have zc:=n5_.out.cell (ix n id i j) (by rw [n0_.out,List.length_set];exact HX.out);rw [n2_.out id i j hij hj HN.out,getD_set_eq _ _ HX.out] at zc;have q1:=eq_true (show ix n id i j < m5.length by rw [n0_.out,List.length_set];exact HX.out);have fc:=blk_frozen n5_.out.hb (ix n id i j))
    go_ret
    have n6_:=HI.out (m5.set (ix n id i j) 2) 2 (by rw [List.length_set,n0_.out,List.length_set]) rfl (getD_set_eq _ _ (by rw [n0_.out,List.length_set];exact HX.out)) (fun a' i' j' h1 h2 h3=>by
     have hne:ix n id i j ≠ ix n a' i' j':=by
      intro he
      obtain ⟨rfl,rfl,rfl⟩:=ix_inj (by omega) hj (by omega) h2 he
      have:=h3.2.2 rfl
      omega
     rw [getD_set_ne _ _ hne]
     exact n1_.out a' i' j' h1 h2 h3) (fun a' i' j' h1 h2 he h3=>by rw [getD_set_ne _ _ he];exact n2_.out a' i' j' h1 h2 h3)
    exact ⟨rfl,_,by rw [List.length_set,n0_.out,List.length_set],n5_.out.put hgb _ 2,n6_.1,n6_.2,((HK.out.set_ _ _).trans n3_.out (.inl rfl)).set_ _ _,n4_.out.setCell hb _⟩
  ·have hr:m.getD (ix n id i j) 0=if r=true then 2 else 1:=by
    rcases HG.out id i j hij hj ⟨Nat.le_refl _,by omega,fun _=>Nat.le_refl _⟩ with h|h
    ·exact absurd h hv
    ·rw [h,HT.out]
   clear hv
   rw [hr] at zc
   clear hr
   cases r
   all_goals
    simp only [if_true,Bool.false_eq_true,if_false] at zc
    go_wp2
    go_ret
    exact ⟨rfl,m,rfl,HM.out,HG.out,Sm3.refl _ _ _,HK.out,HB.out⟩
theorem arg_at {w0 W:World} {A:Option Addr} {l:List S65} (hC:Kd.C k65 w0 A l.length l) (hB:Below w0.heap.size w0 W) (i:Nat) (hi:i < l.length) :
  ∃ ad A2 c2,A=some ad∧W.cell? (ad.add (i * 3))=some (.int .i64 l[i].f0)∧W.cell? ⟨(ad.add (i * 3)).block,(ad.add (i * 3)).off+1,none⟩=some (.string l[i].f1)∧W.cell? ⟨(ad.add (i * 3)).block,(ad.add (i * 3)).off+2,none⟩=some (.slice A2 l[i].f2.length c2)∧l[i].f2.length≤c2∧Kd.C k65 w0 A2 l[i].f2.length l[i].f2:=by
 obtain ⟨ad,A2,c2,e,h0,h1,h2,h3,h4⟩:=at_T65 hC (i:Int) (by omega) (by omega)
 have he:rd_T65 l (i:Int)=l[i]:=by simp [rd_T65,hi]
 rw [he] at h0 h1 h2 h3 h4
 rw [Int.toNat_natCast] at h0 h1 h2
 exact ⟨ad,A2,c2,e,(hB.cell (World.block_lt_of_cell? w0 _ h0)).trans h0,(hB.cell (World.block_lt_of_cell? w0 _ h1)).trans h1,(hB.cell (World.block_lt_of_cell? w0 _ h2)).trans h2,h3,h4⟩
theorem arg0_at {w0 W:World} {A:Option Addr} {x:S65} {l:List S65} (hC:Kd.C k65 w0 A (x :: l).length (x :: l)) (hB:Below w0.heap.size w0 W) :
  ∃ ad A2 c2,A=some ad∧W.cell? ad=some (.int .i64 x.f0)∧W.cell? ⟨ad.block,ad.off+1,none⟩=some (.string x.f1)∧W.cell? ⟨ad.block,ad.off+2,none⟩=some (.slice A2 x.f2.length c2)∧x.f2.length≤c2∧Kd.C k65 w0 A2 x.f2.length x.f2:=by
 obtain ⟨ad,A2,c2,e,h0,h1,h2,h3,h4⟩:=arg_at hC hB 0 (by simp)
 rw [Nat.zero_mul,Addr.add_zero'] at h0 h1 h2
 exact ⟨ad,A2,c2,e,h0,h1,h2,h3,h4⟩
theorem arg1_at {w0 W:World} {ad:Addr} {x y:S65} {l:List S65} (hC:Kd.C k65 w0 (some ad) (x :: y :: l).length (x :: y :: l)) (hB:Below w0.heap.size w0 W) :
  ∃ A2 c2,W.cell? ⟨ad.block,ad.off+3,none⟩=some (.int .i64 y.f0)∧W.cell? ⟨ad.block,ad.off+3+1,none⟩=some (.string y.f1)∧W.cell? ⟨ad.block,ad.off+3+2,none⟩=some (.slice A2 y.f2.length c2)∧y.f2.length≤c2∧Kd.C k65 w0 A2 y.f2.length y.f2:=by
 obtain ⟨ad',A2,c2,e,h0,h1,h2,h3,h4⟩:=arg_at hC hB 1 (by simp)
 obtain rfl:ad=ad':=by injection e
 have e3:ad.add (1 * 3)=⟨ad.block,ad.off+3,none⟩:=by simp [Addr.add]
 rw [e3] at h0 h1 h2
 exact ⟨A2,c2,h0,h1,h2,h3,h4⟩
def MC (w0:World) (g b:Nat) (s:ByteArray) (n z:Nat) (T:Nat→Nat→Nat→Bool) (t:Rx) (k:Int) (bs:ByteArray) (A:Option Addr) (q c:Nat) (id len:Nat):Prop :=
 ∀ (i j:Nat) (ids iv jv:Int) (m:List Int) (W:World),ids=(id:Int)→iv=(i:Int)→jv=(j:Int)→i≤j→j < n→j - i < len→m.length=z * n * n→MSt g b s n m W→Gd n T m (RgM id t.size (j - i))→Below w0.heap.size w0 W →
  Calls Tryz.prog 109 #[.pointer (some ⟨g,0,none⟩),.agg #[.int .i64 k,.string bs,.slice A q c],.int .i64 ids,.int .i64 iv,.int .i64 jv] W (MPost w0 W g b s n T m (RgM id t.size (j - i)) (mt s t i j))
section
variable (w0 : World) (g b : Nat) (hgb : g ≠ b) (hg : w0.heap.size ≤ g) (hb : w0.heap.size ≤ b) (s : ByteArray) (n : Nat) (hn : n ≤ 401) (hsn : s.size + 1 = n) (z : Nat) (hz : z ≤ 16) (T : Nat → Nat → Nat → Bool)
 (bs:ByteArray) (A:Option Addr) (c id i j:Nat) (hij:i≤j) (hj:j < n) (m:List Int) (W:World) (hl:m.length=z * n * n) (hM:MSt g b s n m W) (hB:Below w0.heap.size w0 W)
include hgb hg hb hn hsn hz hij hj hl hM hB
set_option maxHeartbeats 4000000 in
theorem find_leaf (k:Int) (r:Bool) (hk:(k=1∧r=false)∨(k=2∧r=(i == j))∨(k=4∧r=(j == i+1))∨(k=3∧r=((s.extract i j).toList == bs.toList))) (sz:Nat) (hG:Gd n T m (RgF id sz (j - i))) :
  Calls Tryz.prog 132 #[.pointer (some ⟨g,0,none⟩),.agg #[.int .i64 k,.string bs,.slice A 0 c],.int .i64 (id:Int),.int .i64 (i:Int),.int .i64 (j:Int)] W (MPost w0 W g b s n T m (RgF id sz (j - i)) r):=by
 have HM:=zk hM
 have HB:=zk hB
 have HG:=zk hG
 clear hM hB hG hl
 have e1:((i:Int) == (j:Int))=(i == j):=by rw [Bool.eq_iff_iff];simp;omega
 have e2:((j:Int) - (i:Int) == 1)=(j == i+1):=by rw [Bool.eq_iff_iff];simp;omega
 rcases hk with ⟨rfl,rfl⟩|⟨rfl,rfl⟩|⟨rfl,rfl⟩|⟨rfl,rfl⟩
 ·go_enter Tryz.func132,Tryz.ntmps132
  go_wp2_with ((with_reducible refine gate_dst (N:=6) rfl ?_);refine zE (N:=6) (cs:=#[.int .i64 1,.string bs,.slice A 0 c]) (t:=65) ?_;intro gx hgx w3 hbox hb3;have M3:=zk (HM.out.below hb3);have K3:=zk (KeepBut.of_below hb3 b none);have B3:=zk (below_step HB.out hb3:Below w0.heap.size w0 w3);have X3:=zk hbox;have G3:=zk (show W.heap.size≤gx by omega);have N3:=zk (show b < W.heap.size from blk_lt HM.out.hb);clear hb3 hbox hgx;obtain ⟨y0,y1,y2,g0,g1,g2⟩:=blk3 X3.out;obtain ⟨z0,z1,z2,f0,f1,f2⟩:=blk3 M3.out.hm)
  repeat (go_quiet (fail);try go_wp2)
  go_ret
  exact ⟨za28,m,rfl,⟨M3.out.hm,M3.out.hb⟩,HG.out,Sm3.refl _ _ _,⟨K3.out.1,K3.out.2⟩,za38⟩
 ·go_enter Tryz.func132,Tryz.ntmps132
  go_wp2_with ((with_reducible refine gate_dst (N:=6) rfl ?_);refine zE (N:=6) (cs:=#[.int .i64 2,.string bs,.slice A 0 c]) (t:=65) ?_;intro gx hgx w3 hbox hb3;have M3:=zk (HM.out.below hb3);have K3:=zk (KeepBut.of_below hb3 b none);have B3:=zk (below_step HB.out hb3:Below w0.heap.size w0 w3);have X3:=zk hbox;have G3:=zk (show W.heap.size≤gx by omega);have N3:=zk (show b < W.heap.size from blk_lt HM.out.hb);clear hb3 hbox hgx;obtain ⟨y0,y1,y2,g0,g1,g2⟩:=blk3 X3.out;obtain ⟨z0,z1,z2,f0,f1,f2⟩:=blk3 M3.out.hm)
  repeat (go_quiet (fail);try go_wp2)
  go_ret
  exact ⟨za28,m,rfl,⟨M3.out.hm,M3.out.hb⟩,HG.out,Sm3.refl _ _ _,⟨K3.out.1,K3.out.2⟩,za38⟩
 ·go_enter Tryz.func132,Tryz.ntmps132
  go_wp2_with ((with_reducible refine gate_dst (N:=6) rfl ?_);refine zE (N:=6) (cs:=#[.int .i64 4,.string bs,.slice A 0 c]) (t:=65) ?_;intro gx hgx w3 hbox hb3;have M3:=zk (HM.out.below hb3);have K3:=zk (KeepBut.of_below hb3 b none);have B3:=zk (below_step HB.out hb3:Below w0.heap.size w0 w3);have X3:=zk hbox;have G3:=zk (show W.heap.size≤gx by omega);have N3:=zk (show b < W.heap.size from blk_lt HM.out.hb);clear hb3 hbox hgx;obtain ⟨y0,y1,y2,g0,g1,g2⟩:=blk3 X3.out;obtain ⟨z0,z1,z2,f0,f1,f2⟩:=blk3 M3.out.hm)
  repeat (go_quiet (fail);try go_wp2)
  go_ret
  exact ⟨za28,m,rfl,⟨M3.out.hm,M3.out.hb⟩,HG.out,Sm3.refl _ _ _,⟨K3.out.1,K3.out.2⟩,za38⟩
 ·have hjs:=eq_true (show j≤s.size by omega)
  have hij2:=eq_true hij
  clear hij hj
  go_enter Tryz.func132,Tryz.ntmps132
  go_wp2_with ((with_reducible refine gate_dst (N:=6) rfl ?_);refine zE (N:=6) (cs:=#[.int .i64 3,.string bs,.slice A 0 c]) (t:=65) ?_;intro gx hgx w3 hbox hb3;have M3:=zk (HM.out.below hb3);have K3:=zk (KeepBut.of_below hb3 b none);have B3:=zk (below_step HB.out hb3:Below w0.heap.size w0 w3);have X3:=zk hbox;have G3:=zk (show W.heap.size≤gx by omega);have N3:=zk (show b < W.heap.size from blk_lt HM.out.hb);clear hb3 hbox hgx;obtain ⟨y0,y1,y2,g0,g1,g2⟩:=blk3 X3.out;obtain ⟨z0,z1,z2,f0,f1,f2⟩:=blk3 M3.out.hm)
  repeat (go_quiet (fail);try go_wp2)
  go_ret
  exact ⟨za28,m,rfl,⟨M3.out.hm,M3.out.hb⟩,HG.out,Sm3.refl _ _ _,⟨K3.out.1,K3.out.2⟩,za38⟩
end
theorem two_new (w:World) (o1 o2:Obj):((w.alloc o1).alloc o2).drew.heap[w.heap.size]? = some o1∧((w.alloc o1).alloc o2).drew.heap[w.heap.size+1]? = some o2∧Below w.heap.size w ((w.alloc o1).alloc o2).drew:=by
 refine ⟨blk_drew (blk_alloc (blk_new w o1) o2),?_,below_drew (below_alloc (below_alloc (Below.refl _ _) _) _)⟩
 have:=blk_new (w.alloc o1) o2
 rw [show (w.alloc o1).heap.size=w.heap.size+1 by simp] at this
 exact blk_drew this
section
variable (w0 : World) (g b : Nat) (hgb : g ≠ b) (hg : w0.heap.size ≤ g) (hb : w0.heap.size ≤ b) (s : ByteArray) (n : Nat) (hn : n ≤ 401) (hsn : s.size + 1 = n) (z : Nat) (hz : z ≤ 16) (T : Nat → Nat → Nat → Bool)
 (bs:ByteArray) (A:Option Addr) (c id i j:Nat) (hij:i≤j) (hj:j < n) (m:List Int) (W:World) (hl:m.length=z * n * n) (hM:MSt g b s n m W) (hB:Below w0.heap.size w0 W)
include hgb hg hb hn hsn hz hij hj hl hM hB
set_option maxHeartbeats 4000000 in
theorem find_not (y:S65) (u:Rx) (hC:Kd.C k65 w0 A 1 [y]) (hid:id+1+u.size≤z)
  (hc:∀ A2 c2,y.f2.length≤c2→Kd.C k65 w0 A2 y.f2.length y.f2→MC w0 g b s n z T u y.f0 y.f1 A2 y.f2.length c2 (id+1) n)
  (hG:Gd n T m (RgF id (1+u.size) (j - i))) :
  Calls Tryz.prog 132 #[.pointer (some ⟨g,0,none⟩),.agg #[.int .i64 9,.string bs,.slice A 1 c],.int .i64 (id:Int),.int .i64 (i:Int),.int .i64 (j:Int)] W (MPost w0 W g b s n T m (RgF id (1+u.size) (j - i)) (!mt s u i j)):=by
 obtain ⟨ad,A2,c2,rfl,e0,e1,e2,h3,h4⟩:=arg0_at hC hB
 have hsub:∀ a' i' j',RgM (id+1) u.size (j - i) a' i' j'→RgF id (1+u.size) (j - i) a' i' j':=fun a' i' j' h=>⟨by have:=h.1;omega,by have:=h.2.1;omega,fun e=>by have:=h.1;omega⟩
 have HC:=zk (fun (W':World) (hM':MSt g b s n m W') (hB':Below w0.heap.size w0 W')=>hc A2 c2 h3 h4 i j ((id:Int)+1) i j m W' (by omega) rfl rfl hij hj (by omega) hl hM' (hG.sub hsub) hB')
 have HS:=zk hsub
 have HM:=zk hM
 have HB:=zk hB
 have HG:=zk hG
 clear hM hB hG hl hsub hc h3 h4 hC
 go_enter Tryz.func132,Tryz.ntmps132
 go_wp2_with (first|((with_reducible refine gate_dst (N:=6) rfl ?_);refine zE (N:=6) (cs:=#[.int .i64 9,.string bs,.slice (some ad) 1 c]) (t:=65) ?_;intro gx hgx w3 hbox hb3;have M3:=zk (HM.out.below hb3);have K3:=zk (KeepBut.of_below hb3 b none);have B3:=zk (below_step HB.out hb3:Below w0.heap.size w0 w3);have X3:=zk hbox;have G3:=zk (show W.heap.size≤gx by omega);have N3:=zk (show b < W.heap.size from blk_lt HM.out.hb);have e0:=pw_cell_below hb3 e0;have e1:=pw_cell_below hb3 e1;have e2:=pw_cell_below hb3 e2;clear hb3 hbox hgx;obtain ⟨y0,y1,y2,g0,g1,g2⟩:=blk3 X3.out;obtain ⟨z0,z1,z2,f0,f1,f2⟩:=blk3 M3.out.hm)|(go_at_call 109;(with_reducible refine (HC.out _ M3.out B3.out).mono ?_);rintro e w5 ⟨rfl,m5,hl5,M5,G5,S5,K5,B5⟩;have n0_:=zk hl5;have n1_:=zk G5;have n2_:=zk S5;have n3_:=zk K5;have n4_:=zk B5;have n5_:=zk M5;clear hl5 G5 S5 K5 B5 M5))
 go_ret
 exact ⟨rfl,m5,n0_.out,n5_.out,HG.out.next n1_.out n2_.out,Sm3.next (Sm3.refl _ _ _) n2_.out HS.out,K3.out.trans n3_.out (.inl rfl),n4_.out⟩
set_option maxHeartbeats 4000000 in
theorem find_or (x y:S65) (t u:Rx) (hC:Kd.C k65 w0 A 2 [x,y]) (hid:id+1+t.size+u.size≤z)
  (hx:∀ A2 c2,x.f2.length≤c2→Kd.C k65 w0 A2 x.f2.length x.f2→MC w0 g b s n z T t x.f0 x.f1 A2 x.f2.length c2 (id+1) n)
  (hy:∀ A2 c2,y.f2.length≤c2→Kd.C k65 w0 A2 y.f2.length y.f2→MC w0 g b s n z T u y.f0 y.f1 A2 y.f2.length c2 (id+1+t.size) n)
  (hsz:∀ A2 c2 W',x.f2.length≤c2→Kd.C k65 W' A2 x.f2.length x.f2→Calls Tryz.prog 108 #[.agg #[.int .i64 x.f0,.string x.f1,.slice A2 x.f2.length c2]] W' fun e w'=>e = .returned (.int .i64 (t.size:Int))∧Below W'.heap.size W' w')
  (hG:Gd n T m (RgF id (1+t.size+u.size) (j - i))) :
  Calls Tryz.prog 132 #[.pointer (some ⟨g,0,none⟩),.agg #[.int .i64 6,.string bs,.slice A 2 c],.int .i64 (id:Int),.int .i64 (i:Int),.int .i64 (j:Int)] W (MPost w0 W g b s n T m (RgF id (1+t.size+u.size) (j - i)) (mt s t i j || mt s u i j)):=by
 obtain ⟨ad,A2,c2,rfl,e0,e1,e2,h3,h4⟩:=arg0_at hC hB
 obtain ⟨A3,c3,e3,e4,e5,h5,h6⟩:=arg1_at hC hB
 have HM:=zk hM
 have HB:=zk hB
 have HG:=zk hG
 have hs1:∀ a' i' j',RgM (id+1) t.size (j - i) a' i' j'→RgF id (1+t.size+u.size) (j - i) a' i' j':=fun a' i' j' h=>⟨by have:=h.1;omega,by have:=h.2.1;omega,fun e=>by have:=h.1;omega⟩
 have hs2:∀ a' i' j',RgM (id+1+t.size) u.size (j - i) a' i' j'→RgF id (1+t.size+u.size) (j - i) a' i' j':=fun a' i' j' h=>⟨by have:=h.1;omega,by have:=h.2.1;omega,fun e=>by have:=h.1;omega⟩
 have HX:=zk (fun (W':World) (hM':MSt g b s n m W') (hB':Below w0.heap.size w0 W')=>hx A2 c2 h3 h4 i j ((id:Int)+1) i j m W' (by omega) rfl rfl hij hj (by omega) hl hM' (hG.sub hs1) hB')
 have HY:=zk (fun (m':List Int) (W':World) (hl':m'.length=m.length) (hM':MSt g b s n m' W') (hG':Gd n T m' (RgF id (1+t.size+u.size) (j - i))) (hB':Below w0.heap.size w0 W')=>hy A3 c3 h5 h6 i j ((id:Int)+1+(t.size:Int)) i j m' W' (by omega) rfl rfl hij hj (by omega) (hl'.trans hl) hM' (hG'.sub hs2) hB')
 have HZ:=zk (fun (W':World) (hB':Below w0.heap.size w0 W')=>hsz A2 c2 W' h3 (Kd.C_below h4 hB'))
 have HS1:=zk hs1
 have HS2:=zk hs2
 have ht0:0 < t.size:=t.size_pos
 clear hM hB hG hl hx hy h3 h4 h5 h6 hC hsz hs1 hs2
 go_enter Tryz.func132,Tryz.ntmps132
 go_upto_region 22 with ((with_reducible refine gate_dst (N:=6) rfl ?_);refine zE (N:=6) (cs:=#[.int .i64 6,.string bs,.slice (some ad) 2 c]) (t:=65) ?_;intro gx hgx w3 hbox hb3;have M3:=zk (HM.out.below hb3);have K3:=zk (KeepBut.of_below hb3 b none);have B3:=zk (below_step HB.out hb3:Below w0.heap.size w0 w3);have X3:=zk hbox;have G3:=zk (show W.heap.size≤gx by omega);have N3:=zk (show b < W.heap.size from blk_lt HM.out.hb);have e0:=pw_cell_below hb3 e0;have e1:=pw_cell_below hb3 e1;have e2:=pw_cell_below hb3 e2;have e3:=pw_cell_below hb3 e3;have e4:=pw_cell_below hb3 e4;have e5:=pw_cell_below hb3 e5;clear hb3 hbox hgx;obtain ⟨y0,y1,y2,g0,g1,g2⟩:=blk3 X3.out;obtain ⟨z0,z1,z2,f0,f1,f2⟩:=blk3 M3.out.hm)
 have l1:gx < w3.heap.size:=blk_lt X3.out
 have l2:ad.block < w3.heap.size:=World.block_lt_of_cell? w3 _ e0
 go_cut [12,13] (fun v12 v13 wc=>∃ (L R:Nat),v12 = .pointer (some ⟨L,0,none⟩)∧v13 = .pointer (some ⟨R,0,none⟩)∧Aside0 (wc.heap[L]? = some (.cells #[.int .i64 x.f0,.string x.f1,.slice A2 x.f2.length c2] 65 (0,0)))∧Aside0 (wc.heap[R]? = some (.cells #[.int .i64 y.f0,.string y.f1,.slice A3 y.f2.length c3] 65 (0,0)))∧Aside0 (wc.heap[gx]? = some (.cells #[.int .i64 6,.string bs,.slice (some ad) 2 c] 65 (0,0)))∧Aside0 (MSt g b s n m wc)∧Aside0 (KeepBut W wc b none)∧Aside0 (Below w0.heap.size w0 wc)∧Aside0 (W.heap.size≤L∧W.heap.size≤R∧W.heap.size≤gx))
 case first =>
  have hw3:Aside0 (W.heap.size≤w3.heap.size):=⟨K3.out.1⟩
  go_region
  all_goals
   try go_wp2
   go_meet
   case rel =>
    first
    | exact ⟨_,_,rfl,rfl,⟨(two_new w3 _ _).2.1⟩,⟨(two_new w3 _ _).1⟩,⟨blk_below X3.out (two_new w3 _ _).2.2⟩,⟨M3.out.below (two_new w3 _ _).2.2⟩,⟨K3.out.trans (KeepBut.of_below (two_new w3 _ _).2.2 b none) (.inl rfl)⟩,⟨below_step B3.out (two_new w3 _ _).2.2⟩,⟨by have:=hw3.out;omega,hw3.out,G3.out⟩⟩
    | exact ⟨_,_,rfl,rfl,⟨(two_new w3 _ _).1⟩,⟨(two_new w3 _ _).2.1⟩,⟨blk_below X3.out (two_new w3 _ _).2.2⟩,⟨M3.out.below (two_new w3 _ _).2.2⟩,⟨K3.out.trans (KeepBut.of_below (two_new w3 _ _).2.2 b none) (.inl rfl)⟩,⟨below_step B3.out (two_new w3 _ _).2.2⟩,⟨hw3.out,by have:=hw3.out;omega,G3.out⟩⟩
 case rest =>
  clear M3 K3 B3 X3 HM HB e0 e1 e2 e3 e4 e5 y0 y1 y2 g0 g1 g2 z0 z1 z2 f0 f1 f2 l1 l2
  obtain ⟨L,R,rfl,rfl,XL,XR,XG,HM,HK,HB,HW⟩:=hcut
  obtain ⟨y0,y1,y2,g0,g1,g2⟩:=blk3 XL.out
  go_upto_region 24 with (go_at_call 108;(with_reducible refine (HZ.out _ HB.out).mono ?_);rintro e w6 ⟨rfl,hb6⟩;have n0_:=zk (blk_below XL.out hb6);have n1_:=zk (blk_below XR.out hb6);have n2_:=zk (blk_below XG.out hb6);have n3_:=zk (HM.out.below hb6);have n4_:=zk (HK.out.trans (KeepBut.of_below hb6 b none) (.inl rfl));have n5_:=zk (below_step HB.out hb6);clear XL XR XG HM HK HB hb6 y0 y1 y2 g0 g1 g2;have XL:=n0_;have XR:=n1_;have XG:=n2_;have HM:=n3_;have HK:=n4_;have HB:=n5_;clear n0_ n1_ n2_ n3_ n4_ n5_;obtain ⟨y0,y1,y2,g0,g1,g2⟩:=blk3 XL.out;obtain ⟨x0,x1,x2,h0,h1,h2⟩:=blk3 XR.out;obtain ⟨z0,z1,z2,f0,f1,f2⟩:=blk3 XG.out)
  cases hv:mt s t i j
  ·go_wp2_with (first|(go_at_call 109;(with_reducible refine (HX.out _ HM.out HB.out).mono ?_);rintro e w7 ⟨he,m7,hl7,M7,G7,S7,K7,B7⟩;rw [hv] at he;subst he;have L7:=zk hl7;have D7:=zk (HG.out.next G7 S7);have S7':=zk (Sm3.next (Sm3.refl n m _) S7 HS1.out);have Q7:=zk (HK.out.trans K7 (.inl rfl));have XR7:=zk (K7.blk XR.out za24 (by simp));have B7':=zk B7;have M7':=zk M7;clear hl7 M7 G7 S7 K7 B7 x0 x1 x2 h0 h1 h2 y0 y1 y2 g0 g1 g2 z0 z1 z2 f0 f1 f2;obtain ⟨x0,x1,x2,h0,h1,h2⟩:=blk3 XR7.out)|(go_at_call 109;(with_reducible refine (HY.out m7 _ L7.out M7'.out D7.out B7'.out).mono ?_);rintro e w8 ⟨rfl,m8,hl8,M8,G8,S8,K8,B8⟩;have L8:=zk (hl8.trans L7.out);have D8:=zk (D7.out.next G8 S8);have S8':=zk (Sm3.next S7'.out S8 HS2.out);have Q8:=zk (Q7.out.trans K8 (.inl rfl));have B8':=zk B8;have M8':=zk M8;clear hl8 M8 G8 S8 K8 B8))
   go_ret
   exact ⟨by rw [hv];rfl,m8,L8.out,M8'.out,D8.out,S8'.out,Q8.out,B8'.out⟩
  ·go_wp2_with (go_at_call 109;(with_reducible refine (HX.out _ HM.out HB.out).mono ?_);rintro e w7 ⟨he,m7,hl7,M7,G7,S7,K7,B7⟩;rw [hv] at he;subst he;have L7:=zk hl7;have D7:=zk (HG.out.next G7 S7);have S7':=zk (Sm3.next (Sm3.refl n m _) S7 HS1.out);have Q7:=zk (HK.out.trans K7 (.inl rfl));have XR7:=zk (K7.blk XR.out za24 (by simp));have B7':=zk B7;have M7':=zk M7;clear hl7 M7 G7 S7 K7 B7 x0 x1 x2 h0 h1 h2 y0 y1 y2 g0 g1 g2 z0 z1 z2 f0 f1 f2;obtain ⟨x0,x1,x2,h0,h1,h2⟩:=blk3 XR7.out)
   go_ret
   exact ⟨by rw [hv];rfl,m7,L7.out,M7'.out,D7.out,S7'.out,Q7.out,B7'.out⟩
set_option maxHeartbeats 4000000 in
theorem find_and (x y:S65) (t u:Rx) (hC:Kd.C k65 w0 A 2 [x,y]) (hid:id+1+t.size+u.size≤z)
  (hx:∀ A2 c2,x.f2.length≤c2→Kd.C k65 w0 A2 x.f2.length x.f2→MC w0 g b s n z T t x.f0 x.f1 A2 x.f2.length c2 (id+1) n)
  (hy:∀ A2 c2,y.f2.length≤c2→Kd.C k65 w0 A2 y.f2.length y.f2→MC w0 g b s n z T u y.f0 y.f1 A2 y.f2.length c2 (id+1+t.size) n)
  (hsz:∀ A2 c2 W',x.f2.length≤c2→Kd.C k65 W' A2 x.f2.length x.f2→Calls Tryz.prog 108 #[.agg #[.int .i64 x.f0,.string x.f1,.slice A2 x.f2.length c2]] W' fun e w'=>e = .returned (.int .i64 (t.size:Int))∧Below W'.heap.size W' w')
  (hG:Gd n T m (RgF id (1+t.size+u.size) (j - i))) :
  Calls Tryz.prog 132 #[.pointer (some ⟨g,0,none⟩),.agg #[.int .i64 7,.string bs,.slice A 2 c],.int .i64 (id:Int),.int .i64 (i:Int),.int .i64 (j:Int)] W (MPost w0 W g b s n T m (RgF id (1+t.size+u.size) (j - i)) (mt s t i j && mt s u i j)):=by
 obtain ⟨ad,A2,c2,rfl,e0,e1,e2,h3,h4⟩:=arg0_at hC hB
 obtain ⟨A3,c3,e3,e4,e5,h5,h6⟩:=arg1_at hC hB
 have HM:=zk hM
 have HB:=zk hB
 have HG:=zk hG
 have hs1:∀ a' i' j',RgM (id+1) t.size (j - i) a' i' j'→RgF id (1+t.size+u.size) (j - i) a' i' j':=fun a' i' j' h=>⟨by have:=h.1;omega,by have:=h.2.1;omega,fun e=>by have:=h.1;omega⟩
 have hs2:∀ a' i' j',RgM (id+1+t.size) u.size (j - i) a' i' j'→RgF id (1+t.size+u.size) (j - i) a' i' j':=fun a' i' j' h=>⟨by have:=h.1;omega,by have:=h.2.1;omega,fun e=>by have:=h.1;omega⟩
 have HX:=zk (fun (W':World) (hM':MSt g b s n m W') (hB':Below w0.heap.size w0 W')=>hx A2 c2 h3 h4 i j ((id:Int)+1) i j m W' (by omega) rfl rfl hij hj (by omega) hl hM' (hG.sub hs1) hB')
 have HY:=zk (fun (m':List Int) (W':World) (hl':m'.length=m.length) (hM':MSt g b s n m' W') (hG':Gd n T m' (RgF id (1+t.size+u.size) (j - i))) (hB':Below w0.heap.size w0 W')=>hy A3 c3 h5 h6 i j ((id:Int)+1+(t.size:Int)) i j m' W' (by omega) rfl rfl hij hj (by omega) (hl'.trans hl) hM' (hG'.sub hs2) hB')
 have HZ:=zk (fun (W':World) (hB':Below w0.heap.size w0 W')=>hsz A2 c2 W' h3 (Kd.C_below h4 hB'))
 have HS1:=zk hs1
 have HS2:=zk hs2
 have ht0:0 < t.size:=t.size_pos
 clear hM hB hG hl hx hy h3 h4 h5 h6 hC hsz hs1 hs2
 go_enter Tryz.func132,Tryz.ntmps132
 go_upto_region 22 with ((with_reducible refine gate_dst (N:=6) rfl ?_);refine zE (N:=6) (cs:=#[.int .i64 7,.string bs,.slice (some ad) 2 c]) (t:=65) ?_;intro gx hgx w3 hbox hb3;have M3:=zk (HM.out.below hb3);have K3:=zk (KeepBut.of_below hb3 b none);have B3:=zk (below_step HB.out hb3:Below w0.heap.size w0 w3);have X3:=zk hbox;have G3:=zk (show W.heap.size≤gx by omega);have N3:=zk (show b < W.heap.size from blk_lt HM.out.hb);have e0:=pw_cell_below hb3 e0;have e1:=pw_cell_below hb3 e1;have e2:=pw_cell_below hb3 e2;have e3:=pw_cell_below hb3 e3;have e4:=pw_cell_below hb3 e4;have e5:=pw_cell_below hb3 e5;clear hb3 hbox hgx;obtain ⟨y0,y1,y2,g0,g1,g2⟩:=blk3 X3.out;obtain ⟨z0,z1,z2,f0,f1,f2⟩:=blk3 M3.out.hm)
 have l1:gx < w3.heap.size:=blk_lt X3.out
 have l2:ad.block < w3.heap.size:=World.block_lt_of_cell? w3 _ e0
 go_cut [12,13] (fun v12 v13 wc=>∃ (L R:Nat),v12 = .pointer (some ⟨L,0,none⟩)∧v13 = .pointer (some ⟨R,0,none⟩)∧Aside0 (wc.heap[L]? = some (.cells #[.int .i64 x.f0,.string x.f1,.slice A2 x.f2.length c2] 65 (0,0)))∧Aside0 (wc.heap[R]? = some (.cells #[.int .i64 y.f0,.string y.f1,.slice A3 y.f2.length c3] 65 (0,0)))∧Aside0 (wc.heap[gx]? = some (.cells #[.int .i64 7,.string bs,.slice (some ad) 2 c] 65 (0,0)))∧Aside0 (MSt g b s n m wc)∧Aside0 (KeepBut W wc b none)∧Aside0 (Below w0.heap.size w0 wc)∧Aside0 (W.heap.size≤L∧W.heap.size≤R∧W.heap.size≤gx))
 case first =>
  have hw3:Aside0 (W.heap.size≤w3.heap.size):=⟨K3.out.1⟩
  go_region
  all_goals
   try go_wp2
   go_meet
   case rel =>
    first
    | exact ⟨_,_,rfl,rfl,⟨(two_new w3 _ _).2.1⟩,⟨(two_new w3 _ _).1⟩,⟨blk_below X3.out (two_new w3 _ _).2.2⟩,⟨M3.out.below (two_new w3 _ _).2.2⟩,⟨K3.out.trans (KeepBut.of_below (two_new w3 _ _).2.2 b none) (.inl rfl)⟩,⟨below_step B3.out (two_new w3 _ _).2.2⟩,⟨by have:=hw3.out;omega,hw3.out,G3.out⟩⟩
    | exact ⟨_,_,rfl,rfl,⟨(two_new w3 _ _).1⟩,⟨(two_new w3 _ _).2.1⟩,⟨blk_below X3.out (two_new w3 _ _).2.2⟩,⟨M3.out.below (two_new w3 _ _).2.2⟩,⟨K3.out.trans (KeepBut.of_below (two_new w3 _ _).2.2 b none) (.inl rfl)⟩,⟨below_step B3.out (two_new w3 _ _).2.2⟩,⟨hw3.out,by have:=hw3.out;omega,G3.out⟩⟩
 case rest =>
  clear M3 K3 B3 X3 HM HB e0 e1 e2 e3 e4 e5 y0 y1 y2 g0 g1 g2 z0 z1 z2 f0 f1 f2 l1 l2
  obtain ⟨L,R,rfl,rfl,XL,XR,XG,HM,HK,HB,HW⟩:=hcut
  obtain ⟨y0,y1,y2,g0,g1,g2⟩:=blk3 XL.out
  go_upto_region 24 with (go_at_call 108;(with_reducible refine (HZ.out _ HB.out).mono ?_);rintro e w6 ⟨rfl,hb6⟩;have n0_:=zk (blk_below XL.out hb6);have n1_:=zk (blk_below XR.out hb6);have n2_:=zk (blk_below XG.out hb6);have n3_:=zk (HM.out.below hb6);have n4_:=zk (HK.out.trans (KeepBut.of_below hb6 b none) (.inl rfl));have n5_:=zk (below_step HB.out hb6);clear XL XR XG HM HK HB hb6 y0 y1 y2 g0 g1 g2;have XL:=n0_;have XR:=n1_;have XG:=n2_;have HM:=n3_;have HK:=n4_;have HB:=n5_;clear n0_ n1_ n2_ n3_ n4_ n5_;obtain ⟨y0,y1,y2,g0,g1,g2⟩:=blk3 XL.out;obtain ⟨x0,x1,x2,h0,h1,h2⟩:=blk3 XR.out;obtain ⟨z0,z1,z2,f0,f1,f2⟩:=blk3 XG.out)
  cases hv:mt s t i j
  ·go_wp2_with (go_at_call 109;(with_reducible refine (HX.out _ HM.out HB.out).mono ?_);rintro e w7 ⟨he,m7,hl7,M7,G7,S7,K7,B7⟩;rw [hv] at he;subst he;have L7:=zk hl7;have D7:=zk (HG.out.next G7 S7);have S7':=zk (Sm3.next (Sm3.refl n m _) S7 HS1.out);have Q7:=zk (HK.out.trans K7 (.inl rfl));have XR7:=zk (K7.blk XR.out za24 (by simp));have B7':=zk B7;have M7':=zk M7;clear hl7 M7 G7 S7 K7 B7 x0 x1 x2 h0 h1 h2 y0 y1 y2 g0 g1 g2 z0 z1 z2 f0 f1 f2;obtain ⟨x0,x1,x2,h0,h1,h2⟩:=blk3 XR7.out)
   go_ret
   exact ⟨by rw [hv];rfl,m7,L7.out,M7'.out,D7.out,S7'.out,Q7.out,B7'.out⟩
  ·go_wp2_with (first|(go_at_call 109;(with_reducible refine (HX.out _ HM.out HB.out).mono ?_);rintro e w7 ⟨he,m7,hl7,M7,G7,S7,K7,B7⟩;rw [hv] at he;subst he;have L7:=zk hl7;have D7:=zk (HG.out.next G7 S7);have S7':=zk (Sm3.next (Sm3.refl n m _) S7 HS1.out);have Q7:=zk (HK.out.trans K7 (.inl rfl));have XR7:=zk (K7.blk XR.out za24 (by simp));have B7':=zk B7;have M7':=zk M7;clear hl7 M7 G7 S7 K7 B7 x0 x1 x2 h0 h1 h2 y0 y1 y2 g0 g1 g2 z0 z1 z2 f0 f1 f2;obtain ⟨x0,x1,x2,h0,h1,h2⟩:=blk3 XR7.out)|(go_at_call 109;(with_reducible refine (HY.out m7 _ L7.out M7'.out D7.out B7'.out).mono ?_);rintro e w8 ⟨rfl,m8,hl8,M8,G8,S8,K8,B8⟩;have L8:=zk (hl8.trans L7.out);have D8:=zk (D7.out.next G8 S8);have S8':=zk (Sm3.next S7'.out S8 HS2.out);have Q8:=zk (Q7.out.trans K8 (.inl rfl));have B8':=zk B8;have M8':=zk M8;clear hl8 M8 G8 S8 K8 B8))
   go_ret
   exact ⟨by rw [hv];rfl,m8,L8.out,M8'.out,D8.out,S8'.out,Q8.out,B8'.out⟩
end
section
variable (w0 : World) (g b : Nat) (hgb : g ≠ b) (hg : w0.heap.size ≤ g) (hb : w0.heap.size ≤ b) (s : ByteArray) (n : Nat) (hn : n ≤ 401) (hsn : s.size + 1 = n) (z : Nat) (hz : z ≤ 16) (T : Nat → Nat → Nat → Bool)
 (bs:ByteArray) (A:Option Addr) (c id i j:Nat) (hij:i≤j) (hj:j < n) (m:List Int) (W:World) (hl:m.length=z * n * n) (hM:MSt g b s n m W) (hB:Below w0.heap.size w0 W)
include hgb hg hb hn hsn hz hij hj hl hM hB
set_option maxHeartbeats 4000000 in
theorem find_cat (x y:S65) (t u:Rx) (hC:Kd.C k65 w0 A 2 [x,y]) (hid:id+1+t.size+u.size≤z)
  (hx:∀ A2 c2,x.f2.length≤c2→Kd.C k65 w0 A2 x.f2.length x.f2→MC w0 g b s n z T t x.f0 x.f1 A2 x.f2.length c2 (id+1) n)
  (hy:∀ A2 c2,y.f2.length≤c2→Kd.C k65 w0 A2 y.f2.length y.f2→MC w0 g b s n z T u y.f0 y.f1 A2 y.f2.length c2 (id+1+t.size) n)
  (hsz:∀ A2 c2 W',x.f2.length≤c2→Kd.C k65 W' A2 x.f2.length x.f2→Calls Tryz.prog 108 #[.agg #[.int .i64 x.f0,.string x.f1,.slice A2 x.f2.length c2]] W' fun e w'=>e = .returned (.int .i64 (t.size:Int))∧Below W'.heap.size W' w')
  (hG:Gd n T m (RgF id (1+t.size+u.size) (j - i))) :
  Calls Tryz.prog 132 #[.pointer (some ⟨g,0,none⟩),.agg #[.int .i64 5,.string bs,.slice A 2 c],.int .i64 (id:Int),.int .i64 (i:Int),.int .i64 (j:Int)] W (MPost w0 W g b s n T m (RgF id (1+t.size+u.size) (j - i)) (exIn (fun k=>mt s t i k && mt s u k j) i j)):=by
 obtain ⟨ad,A2,c2,rfl,e0,e1,e2,h3,h4⟩:=arg0_at hC hB
 obtain ⟨A3,c3,e3,e4,e5,h5,h6⟩:=arg1_at hC hB
 have HM:=zk hM
 have HB:=zk hB
 have HG:=zk hG
 have hs1:∀ l' a' i' j',RgM (id+1) t.size l' a' i' j'→RgF id (1+t.size+u.size) (j - i) a' i' j':=fun l' a' i' j' h=>⟨by have:=h.1;omega,by have:=h.2.1;omega,fun e=>by have:=h.1;omega⟩
 have hs2:∀ l' a' i' j',RgM (id+1+t.size) u.size l' a' i' j'→RgF id (1+t.size+u.size) (j - i) a' i' j':=fun l' a' i' j' h=>⟨by have:=h.1;omega,by have:=h.2.1;omega,fun e=>by have:=h.1;omega⟩
 have HX:=zk (fun (kk:Nat) (m':List Int) (W':World) (h1:i≤kk) (h2:kk≤j) (hl':m'.length=m.length) (hM':MSt g b s n m' W') (hG':Gd n T m' (RgF id (1+t.size+u.size) (j - i))) (hB':Below w0.heap.size w0 W')=>hx A2 c2 h3 h4 i kk ((id:Int)+1) i kk m' W' (by omega) rfl rfl h1 (by omega) (by omega) (hl'.trans hl) hM' (hG'.sub (hs1 _)) hB')
 have HY:=zk (fun (kk:Nat) (m':List Int) (W':World) (h1:i≤kk) (h2:kk≤j) (hl':m'.length=m.length) (hM':MSt g b s n m' W') (hG':Gd n T m' (RgF id (1+t.size+u.size) (j - i))) (hB':Below w0.heap.size w0 W')=>hy A3 c3 h5 h6 kk j ((id:Int)+1+(t.size:Int)) kk j m' W' (by omega) rfl rfl h2 hj (by omega) (hl'.trans hl) hM' (hG'.sub (hs2 _)) hB')
 have HZ:=zk (fun (W':World) (hB':Below w0.heap.size w0 W')=>hsz A2 c2 W' h3 (Kd.C_below h4 hB'))
 have HS1:=zk hs1
 have HS2:=zk hs2
 have ht0:0 < t.size:=t.size_pos
 clear hM hB hG hl hx hy h3 h4 h5 h6 hC hsz hs1 hs2
 go_enter Tryz.func132,Tryz.ntmps132
 go_upto_region 22 with ((with_reducible refine gate_dst (N:=6) rfl ?_);refine zE (N:=6) (cs:=#[.int .i64 5,.string bs,.slice (some ad) 2 c]) (t:=65) ?_;intro gx hgx w3 hbox hb3;have M3:=zk (HM.out.below hb3);have K3:=zk (KeepBut.of_below hb3 b none);have B3:=zk (below_step HB.out hb3:Below w0.heap.size w0 w3);have X3:=zk hbox;have G3:=zk (show W.heap.size≤gx by omega);have N3:=zk (show b < W.heap.size from blk_lt HM.out.hb);have e0:=pw_cell_below hb3 e0;have e1:=pw_cell_below hb3 e1;have e2:=pw_cell_below hb3 e2;have e3:=pw_cell_below hb3 e3;have e4:=pw_cell_below hb3 e4;have e5:=pw_cell_below hb3 e5;clear hb3 hbox hgx;obtain ⟨y0,y1,y2,g0,g1,g2⟩:=blk3 X3.out;obtain ⟨z0,z1,z2,f0,f1,f2⟩:=blk3 M3.out.hm)
 have l1:gx < w3.heap.size:=blk_lt X3.out
 have l2:ad.block < w3.heap.size:=World.block_lt_of_cell? w3 _ e0
 go_cut [12,13] (fun v12 v13 wc=>∃ (L R:Nat),v12 = .pointer (some ⟨L,0,none⟩)∧v13 = .pointer (some ⟨R,0,none⟩)∧Aside0 (wc.heap[L]? = some (.cells #[.int .i64 x.f0,.string x.f1,.slice A2 x.f2.length c2] 65 (0,0)))∧Aside0 (wc.heap[R]? = some (.cells #[.int .i64 y.f0,.string y.f1,.slice A3 y.f2.length c3] 65 (0,0)))∧Aside0 (wc.heap[gx]? = some (.cells #[.int .i64 5,.string bs,.slice (some ad) 2 c] 65 (0,0)))∧Aside0 (MSt g b s n m wc)∧Aside0 (KeepBut W wc b none)∧Aside0 (Below w0.heap.size w0 wc)∧Aside0 (W.heap.size≤L∧W.heap.size≤R∧W.heap.size≤gx))
 case first =>
  have hw3:Aside0 (W.heap.size≤w3.heap.size):=⟨K3.out.1⟩
  go_region
  all_goals
   try go_wp2
   go_meet
   case rel =>
    first
    | exact ⟨_,_,rfl,rfl,⟨(two_new w3 _ _).2.1⟩,⟨(two_new w3 _ _).1⟩,⟨blk_below X3.out (two_new w3 _ _).2.2⟩,⟨M3.out.below (two_new w3 _ _).2.2⟩,⟨K3.out.trans (KeepBut.of_below (two_new w3 _ _).2.2 b none) (.inl rfl)⟩,⟨below_step B3.out (two_new w3 _ _).2.2⟩,⟨by have:=hw3.out;omega,hw3.out,G3.out⟩⟩
    | exact ⟨_,_,rfl,rfl,⟨(two_new w3 _ _).1⟩,⟨(two_new w3 _ _).2.1⟩,⟨blk_below X3.out (two_new w3 _ _).2.2⟩,⟨M3.out.below (two_new w3 _ _).2.2⟩,⟨K3.out.trans (KeepBut.of_below (two_new w3 _ _).2.2 b none) (.inl rfl)⟩,⟨below_step B3.out (two_new w3 _ _).2.2⟩,⟨hw3.out,by have:=hw3.out;omega,G3.out⟩⟩
 case rest =>
  clear M3 K3 B3 X3 HM HB e0 e1 e2 e3 e4 e5 y0 y1 y2 g0 g1 g2 z0 z1 z2 f0 f1 f2 l1 l2
  obtain ⟨L,R,rfl,rfl,XL,XR,XG,HM,HK,HB,HW⟩:=hcut
  obtain ⟨y0,y1,y2,g0,g1,g2⟩:=blk3 XL.out
  go_upto_region 24 with (go_at_call 108;(with_reducible refine (HZ.out _ HB.out).mono ?_);rintro e w6 ⟨rfl,hb6⟩;have n0_:=zk (blk_below XL.out hb6);have n1_:=zk (blk_below XR.out hb6);have n2_:=zk (blk_below XG.out hb6);have n3_:=zk (HM.out.below hb6);have n4_:=zk (HK.out.trans (KeepBut.of_below hb6 b none) (.inl rfl));have n5_:=zk (below_step HB.out hb6);clear XL XR XG HM HK HB hb6 y0 y1 y2 g0 g1 g2;have XL:=n0_;have XR:=n1_;have XG:=n2_;have HM:=n3_;have HK:=n4_;have HB:=n5_;clear n0_ n1_ n2_ n3_ n4_ n5_;obtain ⟨y0,y1,y2,g0,g1,g2⟩:=blk3 XL.out;obtain ⟨x0,x1,x2,h0,h1,h2⟩:=blk3 XR.out;obtain ⟨z0,z1,z2,f0,f1,f2⟩:=blk3 XG.out)
  go_wp2
  clear x0 x1 x2 h0 h1 h2 y0 y1 y2 g0 g1 g2 z0 z1 z2 f0 f1 f2
  go_loopg [15] (j+1 - i) (fun kq v15 w'=>∃ (kk:Nat) (mm:List Int),v15 = .int .i64 (kk:Int)∧Aside0 (kk+kq=j+1)∧Aside0 (i≤kk)∧Aside0 (∀ k',i≤k'→k' < kk→(mt s t i k' && mt s u k' j)=false)∧Aside0 (mm.length=m.length)∧Aside0 (MSt g b s n mm w')∧Aside0 (Gd n T mm (RgF id (1+t.size+u.size) (j - i)))∧Aside0 (Sm3 n m mm (RgF id (1+t.size+u.size) (j - i)))∧Aside0 (KeepBut W w' b none)∧Aside0 (Below w0.heap.size w0 w')∧Aside0 (w'.heap[L]? = some (.cells #[.int .i64 x.f0,.string x.f1,.slice A2 x.f2.length c2] 65 (0,0)))∧Aside0 (w'.heap[R]? = some (.cells #[.int .i64 y.f0,.string y.f1,.slice A3 y.f2.length c3] 65 (0,0))))
  case atStart=>exact ⟨i,m,rfl,⟨by omega⟩,⟨Nat.le_refl _⟩,⟨fun k' h1 h2=>by omega⟩,⟨rfl⟩,HM,HG,⟨Sm3.refl _ _ _⟩,HK,HB,XL,XR⟩
  case round =>
   clear HM HG HK HB XL XR XG
   obtain ⟨kk,mm,rfl,HQ,HK1,HN,HL,HM,HD,HS,HK,HB,XL,XR⟩:=hrel
   obtain ⟨y0,y1,y2,g0,g1,g2⟩:=blk3 XL.out
   obtain ⟨x0,x1,x2,h0,h1,h2⟩:=blk3 XR.out
   by_cases hle:kk≤j
   ·have HK2:=zk hle
    have hd:decide (kk≤j)=true:=decide_eq_true hle
    clear hle
    have hk9:kk≤401:=by have:=HK2.out;omega
    cases gk with
    | zero=>exact absurd HQ.out za39
    | succ k1 =>
     cases hv:mt s t i kk
     ·go_wp2_with (go_at_call 109;(with_reducible refine (HX.out kk mm _ HK1.out HK2.out HL.out HM.out HD.out HB.out).mono ?_);rintro e w7 ⟨he,m7,hl7,M7,G7,S7,K7,B7⟩;rw [hv] at he;subst he;have L7:=zk (hl7.trans HL.out);have D7:=zk (HD.out.next G7 S7);have S7':=zk (Sm3.next HS.out S7 (HS1.out _));have Q7:=zk (HK.out.trans K7 (.inl rfl));have XR7:=zk (K7.blk XR.out za24 (by simp));have XL7:=zk (K7.blk XL.out za24 (by simp));have B7':=zk B7;have M7':=zk M7;clear hl7 M7 G7 S7 K7 B7 x0 x1 x2 h0 h1 h2 y0 y1 y2 g0 g1 g2;obtain ⟨x0,x1,x2,h0,h1,h2⟩:=blk3 XR7.out)
      go_roundg k1
      case measure=>omega
      case rel=>exact ⟨kk+1,m7,za42,⟨za36⟩,⟨za15⟩,⟨fun k' h1 h2=>by
        by_cases e:k'=kk
        ·subst e;rw [hv];rfl
        ·exact HN.out k' h1 (by omega)⟩,L7,M7',D7,S7',Q7,B7',XL7,XR7⟩
     ·cases hv2:mt s u kk j
      ·go_wp2_with (first|(go_at_call 109;(with_reducible refine (HX.out kk mm _ HK1.out HK2.out HL.out HM.out HD.out HB.out).mono ?_);rintro e w7 ⟨he,m7,hl7,M7,G7,S7,K7,B7⟩;rw [hv] at he;subst he;have L7:=zk (hl7.trans HL.out);have D7:=zk (HD.out.next G7 S7);have S7':=zk (Sm3.next HS.out S7 (HS1.out _));have Q7:=zk (HK.out.trans K7 (.inl rfl));have XR7:=zk (K7.blk XR.out za24 (by simp));have XL7:=zk (K7.blk XL.out za24 (by simp));have B7':=zk B7;have M7':=zk M7;clear hl7 M7 G7 S7 K7 B7 x0 x1 x2 h0 h1 h2 y0 y1 y2 g0 g1 g2;obtain ⟨x0,x1,x2,h0,h1,h2⟩:=blk3 XR7.out)|(go_at_call 109;(with_reducible refine (HY.out kk m7 _ HK1.out HK2.out L7.out M7'.out D7.out B7'.out).mono ?_);rintro e w8 ⟨he,m8,hl8,M8,G8,S8,K8,B8⟩;rw [hv2] at he;subst he;have L8:=zk (hl8.trans L7.out);have D8:=zk (D7.out.next G8 S8);have S8':=zk (Sm3.next S7'.out S8 (HS2.out _));have Q8:=zk (Q7.out.trans K8 (.inl rfl));have XR8:=zk (K8.blk XR7.out za24 (by simp));have XL8:=zk (K8.blk XL7.out za24 (by simp));have B8':=zk B8;have M8':=zk M8;clear hl8 M8 G8 S8 K8 B8))
       go_roundg k1
       case measure=>omega
       case rel=>exact ⟨kk+1,m8,za42,⟨za36⟩,⟨za15⟩,⟨fun k' h1 h2=>by
         by_cases e:k'=kk
         ·subst e;rw [hv,hv2];rfl
         ·exact HN.out k' h1 (by omega)⟩,L8,M8',D8,S8',Q8,B8',XL8,XR8⟩
      ·go_wp2_with (first|(go_at_call 109;(with_reducible refine (HX.out kk mm _ HK1.out HK2.out HL.out HM.out HD.out HB.out).mono ?_);rintro e w7 ⟨he,m7,hl7,M7,G7,S7,K7,B7⟩;rw [hv] at he;subst he;have L7:=zk (hl7.trans HL.out);have D7:=zk (HD.out.next G7 S7);have S7':=zk (Sm3.next HS.out S7 (HS1.out _));have Q7:=zk (HK.out.trans K7 (.inl rfl));have XR7:=zk (K7.blk XR.out za24 (by simp));have XL7:=zk (K7.blk XL.out za24 (by simp));have B7':=zk B7;have M7':=zk M7;clear hl7 M7 G7 S7 K7 B7 x0 x1 x2 h0 h1 h2 y0 y1 y2 g0 g1 g2;obtain ⟨x0,x1,x2,h0,h1,h2⟩:=blk3 XR7.out)|(go_at_call 109;(with_reducible refine (HY.out kk m7 _ HK1.out HK2.out L7.out M7'.out D7.out B7'.out).mono ?_);rintro e w8 ⟨he,m8,hl8,M8,G8,S8,K8,B8⟩;rw [hv2] at he;subst he;have L8:=zk (hl8.trans L7.out);have D8:=zk (D7.out.next G8 S8);have S8':=zk (Sm3.next S7'.out S8 (HS2.out _));have Q8:=zk (Q7.out.trans K8 (.inl rfl));have XR8:=zk (K8.blk XR7.out za24 (by simp));have XL8:=zk (K8.blk XL7.out za24 (by simp));have B8':=zk B8;have M8':=zk M8;clear hl8 M8 G8 S8 K8 B8))
       go_ret
       exact ⟨by rw [(exIn_iff _ _ _).2 ⟨kk,HK1.out,HK2.out,by rw [hv,hv2];rfl⟩];rfl,m8,L8.out,M8'.out,D8.out,S8'.out,Q8.out,B8'.out⟩
   ·have hd:decide (kk≤j)=false:=decide_eq_false hle
    have HE:exIn (fun k=>mt s t i k && mt s u k j) i j=false:=by
     rw [Bool.eq_false_iff]
     intro h
     obtain ⟨k',h1,h2,h3⟩:=(exIn_iff _ _ _).1 h
     rw [HN.out k' h1 (by omega)] at h3
     exact absurd h3 (by simp)
    have HE2:=zk HE
    clear hle HE
    go_wp2
    go_ret
    exact ⟨by rw [HE2.out];rfl,mm,HL.out,HM.out,HD.out,HS.out,HK.out,HB.out⟩
end
section
variable (w0 : World) (g b : Nat) (hgb : g ≠ b) (hg : w0.heap.size ≤ g) (hb : w0.heap.size ≤ b) (s : ByteArray) (n : Nat) (hn : n ≤ 401) (hsn : s.size + 1 = n) (z : Nat) (hz : z ≤ 16) (T : Nat → Nat → Nat → Bool)
 (bs:ByteArray) (A:Option Addr) (c id i j:Nat) (hij:i≤j) (hj:j < n) (m:List Int) (W:World) (hl:m.length=z * n * n) (hM:MSt g b s n m W) (hB:Below w0.heap.size w0 W)
include hgb hg hb hn hsn hz hij hj hl hM hB
set_option maxHeartbeats 4000000 in
theorem find_star (x:S65) (u:Rx) (hC:Kd.C k65 w0 A 1 [x]) (hid:id+1+u.size≤z)
  (hx:∀ A2 c2,x.f2.length≤c2→Kd.C k65 w0 A2 x.f2.length x.f2→MC w0 g b s n z T u x.f0 x.f1 A2 x.f2.length c2 (id+1) n)
  (hs:MC w0 g b s n z T (.star u) 8 bs A 1 c id (j - i))
  (hG:Gd n T m (RgF id (1+u.size) (j - i))) :
  Calls Tryz.prog 132 #[.pointer (some ⟨g,0,none⟩),.agg #[.int .i64 8,.string bs,.slice A 1 c],.int .i64 (id:Int),.int .i64 (i:Int),.int .i64 (j:Int)] W (MPost w0 W g b s n T m (RgF id (1+u.size) (j - i)) (mt s (.star u) i j)):=by
 obtain ⟨ad,A2,c2,rfl,e0,e1,e2,h3,h4⟩:=arg0_at hC (Below.refl _ w0)
 have hs1:∀ l' a' i' j',RgM (id+1) u.size l' a' i' j'→RgF id (1+u.size) (j - i) a' i' j':=fun l' a' i' j' h=>⟨by have:=h.1;omega,by have:=h.2.1;omega,fun e=>by have:=h.1;omega⟩
 have hs2:∀ kk,i+1≤kk→kk≤j→∀ a' i' j',RgM id (Rx.star u).size (j - kk) a' i' j'→RgF id (1+u.size) (j - i) a' i' j':=fun kk hk hk2 a' i' j' h=>⟨h.1,h.2.1,fun e=>by have:=h.2.2 e;simp only [Rx.size] at h;omega⟩
 have HX:=zk (fun (kk:Nat) (m':List Int) (W':World) (h1:i+1≤kk) (h2:kk≤j) (hl':m'.length=m.length) (hM':MSt g b s n m' W') (hG':Gd n T m' (RgF id (1+u.size) (j - i))) (hB':Below w0.heap.size w0 W')=>hx A2 c2 h3 h4 i kk ((id:Int)+1) i kk m' W' (by omega) rfl rfl (by omega) (by omega) (by omega) (hl'.trans hl) hM' (hG'.sub (hs1 _)) hB')
 have HY:=zk (fun (kk:Nat) (m':List Int) (W':World) (h1:i+1≤kk) (h2:kk≤j) (hl':m'.length=m.length) (hM':MSt g b s n m' W') (hG':Gd n T m' (RgF id (1+u.size) (j - i))) (hB':Below w0.heap.size w0 W')=>hs kk j (id:Int) kk j m' W' rfl rfl rfl h2 hj (by omega) (hl'.trans hl) hM' (hG'.sub (hs2 kk h1 h2)) hB')
 have HS1:=zk hs1
 have HS2:=zk hs2
 have HM:=zk hM
 have HB:=zk hB
 have HG:=zk hG
 clear hM hB hG hl hx h3 h4 hC hs hs1 hs2
 by_cases hd:i=j
 ·subst hd
  go_enter Tryz.func132,Tryz.ntmps132
  go_wp2_with ((with_reducible refine gate_dst (N:=6) rfl ?_);refine zE (N:=6) (cs:=#[.int .i64 8,.string bs,.slice (some ad) 1 c]) (t:=65) ?_;intro gx hgx w3 hbox hb3;have M3:=zk (HM.out.below hb3);have K3:=zk (KeepBut.of_below hb3 b none);have B3:=zk (below_step HB.out hb3:Below w0.heap.size w0 w3);have X3:=zk hbox;have G3:=zk (show W.heap.size≤gx by omega);have N3:=zk (show b < W.heap.size from blk_lt HM.out.hb);have e0':=pw_cell_below (below_then HB.out HB.out.size hb3) e0;have e1':=pw_cell_below (below_then HB.out HB.out.size hb3) e1;have e2':=pw_cell_below (below_then HB.out HB.out.size hb3) e2;clear hb3 hbox hgx;obtain ⟨y0,y1,y2,g0,g1,g2⟩:=blk3 X3.out;obtain ⟨z0,z1,z2,f0,f1,f2⟩:=blk3 M3.out.hm)
  go_ret
  exact ⟨by rw [star_self];rfl,m,rfl,M3.out,HG.out,Sm3.refl _ _ _,K3.out,B3.out⟩
 ·have hlt:i < j:=by omega
  have HR:=zk (star_first s u i j hlt)
  have hd2:(i == j)=false:=by simpa using hd
  have hd3:((i:Int) == (j:Int))=false:=by simp;omega
  clear hd
  have hi9:i≤401:=by omega
  go_enter Tryz.func132,Tryz.ntmps132
  go_wp2_with ((with_reducible refine gate_dst (N:=6) rfl ?_);refine zE (N:=6) (cs:=#[.int .i64 8,.string bs,.slice (some ad) 1 c]) (t:=65) ?_;intro gx hgx w3 hbox hb3;have M3:=zk (HM.out.below hb3);have K3:=zk (KeepBut.of_below hb3 b none);have B3:=zk (below_step HB.out hb3:Below w0.heap.size w0 w3);have X3:=zk hbox;have G3:=zk (show W.heap.size≤gx by omega);have N3:=zk (show b < W.heap.size from blk_lt HM.out.hb);have e0':=pw_cell_below (below_then HB.out HB.out.size hb3) e0;have e1':=pw_cell_below (below_then HB.out HB.out.size hb3) e1;have e2':=pw_cell_below (below_then HB.out HB.out.size hb3) e2;clear hb3 hbox hgx;obtain ⟨y0,y1,y2,g0,g1,g2⟩:=blk3 X3.out;obtain ⟨z0,z1,z2,f0,f1,f2⟩:=blk3 M3.out.hm)
  clear y0 y1 y2 g0 g1 g2 z0 z1 z2 f0 f1 f2 hd2 hd3
  go_loopg [11] (j - i) (fun kq v11 w'=>∃ (kk:Nat) (mm:List Int),v11 = .int .i64 (kk:Int)∧Aside0 (kk+kq=j+1)∧Aside0 (i+1≤kk)∧Aside0 (∀ k',i+1≤k'→k' < kk→(mt s u i k' && mt s (.star u) k' j)=false)∧Aside0 (mm.length=m.length)∧Aside0 (MSt g b s n mm w')∧Aside0 (Gd n T mm (RgF id (1+u.size) (j - i)))∧Aside0 (Sm3 n m mm (RgF id (1+u.size) (j - i)))∧Aside0 (KeepBut W w' b none)∧Aside0 (Below w0.heap.size w0 w')∧Aside0 (w'.heap[gx]? = some (.cells #[.int .i64 8,.string bs,.slice (some ad) 1 c] 65 (0,0))))
  case atStart=>exact ⟨i+1,m,za42,⟨by omega⟩,⟨Nat.le_refl _⟩,⟨fun k' h1 h2=>by omega⟩,⟨rfl⟩,M3,HG,⟨Sm3.refl _ _ _⟩,K3,B3,X3⟩
  case round =>
   clear HM HG HB M3 K3 B3 X3
   obtain ⟨kk,mm,rfl,HQ,HK1,HN,HL,HM,HD,HS,HK,HB,XG⟩:=hrel
   obtain ⟨y0,y1,y2,g0,g1,g2⟩:=blk3 XG.out
   have e0':=(HB.out.cell (World.block_lt_of_cell? w0 _ e0)).trans e0;have e1':=(HB.out.cell (World.block_lt_of_cell? w0 _ e1)).trans e1;have e2':=(HB.out.cell (World.block_lt_of_cell? w0 _ e2)).trans e2
   by_cases hle:kk≤j
   ·have HK2:=zk hle
    have hd:decide (kk≤j)=true:=decide_eq_true hle
    clear hle
    have hk9:kk≤401:=by have:=HK2.out;omega
    cases gk with
    | zero=>exact absurd HQ.out za39
    | succ k1 =>
     cases hv:mt s u i kk
     ·go_wp2_with (go_at_call 109;(with_reducible refine (HX.out kk mm _ HK1.out HK2.out HL.out HM.out HD.out HB.out).mono ?_);rintro e w7 ⟨he,m7,hl7,M7,G7,S7,K7,B7⟩;rw [hv] at he;subst he;have L7:=zk (hl7.trans HL.out);have D7:=zk (HD.out.next G7 S7);have S7':=zk (Sm3.next HS.out S7 (HS1.out _));have Q7:=zk (HK.out.trans K7 (.inl rfl));have XG7:=zk (K7.blk XG.out za40 (by simp));have B7':=zk B7;have M7':=zk M7;clear hl7 M7 G7 S7 K7 B7 y0 y1 y2 g0 g1 g2 e0' e1' e2';obtain ⟨y0,y1,y2,g0,g1,g2⟩:=blk3 XG7.out)
      go_roundg k1
      case measure=>omega
      case rel=>exact ⟨kk+1,m7,za42,⟨za36⟩,⟨za15⟩,⟨fun k' h1 h2=>by
        by_cases e:k'=kk
        ·subst e;rw [hv];rfl
        ·exact HN.out k' h1 (by omega)⟩,L7,M7',D7,S7',Q7,B7',XG7⟩
     ·cases hv2:mt s (.star u) kk j
      ·go_wp2_with (first|(go_at_call 109;(with_reducible refine (HX.out kk mm _ HK1.out HK2.out HL.out HM.out HD.out HB.out).mono ?_);rintro e w7 ⟨he,m7,hl7,M7,G7,S7,K7,B7⟩;rw [hv] at he;subst he;have L7:=zk (hl7.trans HL.out);have D7:=zk (HD.out.next G7 S7);have S7':=zk (Sm3.next HS.out S7 (HS1.out _));have Q7:=zk (HK.out.trans K7 (.inl rfl));have XG7:=zk (K7.blk XG.out za40 (by simp));have B7':=zk B7;have M7':=zk M7;clear hl7 M7 G7 S7 K7 B7 y0 y1 y2 g0 g1 g2 e0' e1' e2';obtain ⟨y0,y1,y2,g0,g1,g2⟩:=blk3 XG7.out)|(go_at_call 109;(with_reducible refine (HY.out kk m7 _ HK1.out HK2.out L7.out M7'.out D7.out B7'.out).mono ?_);rintro e w8 ⟨he,m8,hl8,M8,G8,S8,K8,B8⟩;rw [hv2] at he;subst he;have L8:=zk (hl8.trans L7.out);have D8:=zk (D7.out.next G8 S8);have S8':=zk (Sm3.next S7'.out S8 (HS2.out kk HK1.out HK2.out));have Q8:=zk (Q7.out.trans K8 (.inl rfl));have XG8:=zk (K8.blk XG7.out za40 (by simp));have B8':=zk B8;have M8':=zk M8;clear hl8 M8 G8 S8 K8 B8))
       go_roundg k1
       case measure=>omega
       case rel=>exact ⟨kk+1,m8,za42,⟨za36⟩,⟨za15⟩,⟨fun k' h1 h2=>by
         by_cases e:k'=kk
         ·subst e;rw [hv,hv2];rfl
         ·exact HN.out k' h1 (by omega)⟩,L8,M8',D8,S8',Q8,B8',XG8⟩
      ·go_wp2_with (first|(go_at_call 109;(with_reducible refine (HX.out kk mm _ HK1.out HK2.out HL.out HM.out HD.out HB.out).mono ?_);rintro e w7 ⟨he,m7,hl7,M7,G7,S7,K7,B7⟩;rw [hv] at he;subst he;have L7:=zk (hl7.trans HL.out);have D7:=zk (HD.out.next G7 S7);have S7':=zk (Sm3.next HS.out S7 (HS1.out _));have Q7:=zk (HK.out.trans K7 (.inl rfl));have XG7:=zk (K7.blk XG.out za40 (by simp));have B7':=zk B7;have M7':=zk M7;clear hl7 M7 G7 S7 K7 B7 y0 y1 y2 g0 g1 g2 e0' e1' e2';obtain ⟨y0,y1,y2,g0,g1,g2⟩:=blk3 XG7.out)|(go_at_call 109;(with_reducible refine (HY.out kk m7 _ HK1.out HK2.out L7.out M7'.out D7.out B7'.out).mono ?_);rintro e w8 ⟨he,m8,hl8,M8,G8,S8,K8,B8⟩;rw [hv2] at he;subst he;have L8:=zk (hl8.trans L7.out);have D8:=zk (D7.out.next G8 S8);have S8':=zk (Sm3.next S7'.out S8 (HS2.out kk HK1.out HK2.out));have Q8:=zk (Q7.out.trans K8 (.inl rfl));have XG8:=zk (K8.blk XG7.out za40 (by simp));have B8':=zk B8;have M8':=zk M8;clear hl8 M8 G8 S8 K8 B8))
       go_ret
       exact ⟨by rw [HR.out,(exIn_iff _ _ _).2 ⟨kk,HK1.out,HK2.out,by rw [hv,hv2];rfl⟩];rfl,m8,L8.out,M8'.out,D8.out,S8'.out,Q8.out,B8'.out⟩
   ·have hd:decide (kk≤j)=false:=decide_eq_false hle
    have HE:exIn (fun k=>mt s u i k && mt s (.star u) k j) (i+1) j=false:=by
     rw [Bool.eq_false_iff]
     intro h
     obtain ⟨k',h1,h2,h3⟩:=(exIn_iff _ _ _).1 h
     rw [HN.out k' h1 (by omega)] at h3
     exact absurd h3 (by simp)
    have HE2:=zk HE
    clear hle HE
    go_wp2
    go_ret
    exact ⟨by rw [HR.out,HE2.out];rfl,mm,HL.out,HM.out,HD.out,HS.out,HK.out,HB.out⟩
end
end Go.Proofs.YtffjfdoghofkdaaGreat.Ext
