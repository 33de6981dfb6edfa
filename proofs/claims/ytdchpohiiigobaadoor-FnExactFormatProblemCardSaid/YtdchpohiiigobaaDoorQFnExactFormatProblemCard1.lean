/- FnExactFormatProblemCard: what its proof needs, put together by this session's program wip/merge.py out of the texts that wip/xp.py printed and of this session's own. -/
import Derived.Test.YtdchpohiiigobaaDoorQFnExactFormatProblemCard0
import Derived.Test.YtdchpohiiigobaaDoorProg
import Derived.Lib.SliceRun
import Derived.Lib.Bytealg
import Derived.Lib.Walk
import Derived.Shelf.Strconv.Itoa3
import Derived.Below
import Derived.Deep.Draws
import Derived.Deep.AppendLies
import Derived.Maps.AppendAt
import Derived.OwnWalk
import Derived.Laws.BytesArg
import Derived.Laws.MakeOwn
import Derived.Laws.OwnMore
import Derived.Deep.OwnRows
import Derived.Tactics
import Derived.Lib.ConvBytes
import Derived.Laws.Slices
import Derived.WalkKit
import Derived.KernelRfl
import Derived.RowKit3
import Derived.Deep.LoopGhost
import Derived.Deep.QuietTactic
import Derived.BigQuiet
import Derived.WideLaws
import Derived.Deep.DeepCutAuto
import Derived.Deep.CutBlock
import Derived.Deep.RegionHeld3
import Derived.Laws.Rows
import Derived.Lib.AppendStr
import Derived.ArgAppend
import Derived.Laws.IdiomCopy
import Derived.OrdersHeld
import Derived.Laws.BitsLemmas
import Derived.RowKit
set_option linter.unusedVariables false
set_option linter.unusedSimpArgs false
set_option linter.unusedSectionVars false
set_option maxHeartbeats 8000000
set_option maxRecDepth 100000
namespace Go.Proofs.YtdchpohiiigobaaDoor
open Go Go.RowKit Go.Proofs.YtdchpohiiigobaaDoorW.PrintWords
theorem zk {P : Prop} (h : P) : Aside0 P := ⟨h⟩
theorem zE {P : Program} {ops : Array Oper} {rest : List Oper} {o : Oper} {a : Act} {Q : Exit → Act → World → Prop} {W : World} {N : Tmp} {cs : Array Value} {t : TypeId} (h : ∀ g, g = W.heap.size → ∀ w1, w1.heap[g]? = some (.cells cs t (0, 0)) → Below W.heap.size W w1 → wpList P ops Q rest (a.put o.dst (.pointer (some ⟨g, 0, none⟩))) w1) (hgd : o.guard = none := by rfl) (hd : o.dst = some N := by rfl) (hr : (execOp a.eval o).run P W = .ok (.value (.pointer (some ⟨W.heap.size, 0, none⟩))) (W.alloc (.cells cs t (0, 0))) := by first | (go_simp; done) | (go_simp; rfl)) : wpList P ops Q (o :: rest) a W := box_event hgd hd hr h
theorem zb {W0 W1 W2 : World} {g : Nat} {o : Obj} (h : W0.heap[g]? = some o) (hb : Below W1.heap.size W1 W2) (f : W0.heap[g]? = some o → W1.heap[g]? = some o := by intro h_; (with_reducible repeat (first | refine blk_drewN ?_ _ | refine blk_drew ?_ | refine blk_alloc ?_ _)); exact h_) : W2.heap[g]? = some o := blk_below (f h) hb
theorem zl {W0 W1 : World} {g : Nat} {o : Obj} (h : W0.heap[g]? = some o) (f : W0.heap[g]? = some o → W1.heap[g]? = some o := by intro h_; (with_reducible repeat (first | refine blk_drewN ?_ _ | refine blk_drew ?_ | refine blk_alloc ?_ _)); exact h_) : g < W1.heap.size := blk_lt (f h)
theorem zo {α β : Type} {o : Option α} {f : α → Option β} {b : β} (h : o.bind f = some b) : ∃ a, o = some a ∧ f a = some b := Option.bind_eq_some_iff.mp h
theorem zi {α : Type} {a b : α} (h : some a = some b) : a = b := Option.some.inj h
theorem zt {α : Type} (l : List α) (i : Nat) (a : α) : l.toArray.setIfInBounds i a = (l.set i a).toArray := List.setIfInBounds_toArray l i a
theorem zu {α : Type} {x : α} {l : List α} {a : α} : (x :: l).set 0 a = a :: l := List.set_cons_zero
theorem zv {α : Type} {x : α} {l : List α} {n : Nat} {a : α} : (x :: l).set (n + 1) a = x :: l.set n a := List.set_cons_succ
theorem zs {w W : World} {g : Nat} (hg : g = W.heap.size) (hb : Below w.heap.size w W) : w.heap.size ≤ g := by
 rw [hg]
 exact below_size hb
theorem zx {w W : World} {a : Addr} {v : Value} (hB : Below w.heap.size w W) (h : w.cell? a = some v) : W.cell? a = some v := (hB.cell (World.block_lt_of_cell? w _ h)).trans h
theorem za0 {P Q : Prop} (h : Q) (f : Q → P := by intro h_; (with_reducible repeat (first | refine blk_drewN ?_ _ | refine blk_drew ?_ | refine blk_alloc ?_ _)); exact h_) : P := f h
theorem za1 {P Q : Prop} (h : Q) (f : Q → P := by intro h_; (with_reducible repeat (first | apply Kd.R_alloc | apply Kd.R_drewN | apply Kd.R_drew)); exact h_) : P := f h
theorem za2 {P : Prop} (h : P := by repeat (first | (with_reducible first | exact HB.out | apply below_alloc | apply pw_below_drewN | apply below_drew1 | refine below_set ?_ (Aside0.out (by assumption))) | exact HB.out)) : P := h
theorem za3 {P : Prop} (h : P := by (try simp only [decide_eq_true_eq, decide_eq_false_iff_not, eq_iff_iff, iff_true, iff_false] at *); (try simp only [ByteArray.size_extract, ByteArray.size_append, show (⟨#[97, 98, 99]⟩ : ByteArray).size = 3 from rfl, show (⟨#[88, 89, 90]⟩ : ByteArray).size = 3 from rfl, show (⟨#[61]⟩ : ByteArray).size = 1 from rfl, show (⟨#[124]⟩ : ByteArray).size = 1 from rfl, show (⟨#[33]⟩ : ByteArray).size = 1 from rfl, show (⟨#[38]⟩ : ByteArray).size = 1 from rfl, show (⟨#[40]⟩ : ByteArray).size = 1 from rfl, show (⟨#[41]⟩ : ByteArray).size = 1 from rfl, show (⟨#[42]⟩ : ByteArray).size = 1 from rfl, show (⟨#[46]⟩ : ByteArray).size = 1 from rfl, show (⟨#[48]⟩ : ByteArray).size = 1 from rfl, show (⟨#[49]⟩ : ByteArray).size = 1 from rfl] at *); omega) : P := h
theorem za4 {P : Prop} (h : P := by (try simp only [decide_eq_true_eq, decide_eq_false_iff_not, eq_iff_iff, iff_true, iff_false] at *); (try simp only [ByteArray.size_extract, ByteArray.size_append, show (⟨#[97, 98, 99]⟩ : ByteArray).size = 3 from rfl, show (⟨#[88, 89, 90]⟩ : ByteArray).size = 3 from rfl, show (⟨#[61]⟩ : ByteArray).size = 1 from rfl, show (⟨#[108, 101, 110]⟩ : ByteArray).size = 3 from rfl, show (⟨#[32]⟩ : ByteArray).size = 1 from rfl, show (⟨#[32, 105, 110, 32]⟩ : ByteArray).size = 4 from rfl, show (⟨#[32, 111, 117, 116, 32]⟩ : ByteArray).size = 5 from rfl, show (⟨#[32, 33, 61, 32]⟩ : ByteArray).size = 4 from rfl, show (⟨#[32, 61, 32]⟩ : ByteArray).size = 3 from rfl] at *); omega) : P := h
theorem za5 {P : Prop} (h : P := by (try simp only [List.map_toArray, List.map_cons, List.map_nil]); first | done | rfl | (simp only [List.length_drop, List.length_take]; rfl)) : P := h
theorem za6 {P : Prop} (h : P := by first | rfl | (simp [errW_none, errW_some] <;> rfl) | (simp [*, errW_none, errW_some] <;> rfl)) : P := h
theorem za7 {P : Prop} (h : P := by first | rfl | (simp; done) | (simp [*]; done)) : P := h
theorem za8 {P : Prop} (h : P := by first | (with_reducible assumption) | assumption) : P := h
theorem za9 {P : Prop} (h : P := by repeat (first | exact Drawn0.refl _ | apply Drawn0.step)) : P := h
theorem za10 {P : Prop} (h : P := by (with_reducible repeat (first | refine blk_drewN ?_ _ | refine blk_drew ?_ | refine blk_alloc ?_ _)); refine blk_put (cs := #[.int .i64 ((rd_T32 l0_2 x38_3).f0), .string ((rd_T32 l0_2 x38_3).f1), .slice none 0 0]) ?_ 2 _ rfl; (with_reducible repeat (first | refine blk_drewN ?_ _ | refine blk_drew ?_ | refine blk_alloc ?_ _)); refine blk_put (cs := #[.int .i64 ((rd_T32 l0_2 x38_3).f0), .string (⟨#[]⟩ : ByteArray), .slice none 0 0]) ?_ 1 _ rfl; (with_reducible repeat (first | refine blk_drewN ?_ _ | refine blk_drew ?_ | refine blk_alloc ?_ _)); refine blk_put (cs := #[.int .i64 0, .string (⟨#[]⟩ : ByteArray), .slice none 0 0]) ?_ 0 _ rfl; (with_reducible repeat (first | refine blk_drewN ?_ _ | refine blk_drew ?_ | refine blk_alloc ?_ _)); exact BK63005.out) : P := h
theorem za11 {P : Prop} (h : P := by repeat (first | (with_reducible first | exact HB.out | apply below_alloc | apply pw_below_drewN | apply below_drew1) | exact HB.out)) : P := h
theorem za12 {P : Prop} (h : P := by (with_reducible repeat (first | refine blk_drewN ?_ _ | refine blk_drew ?_ | refine blk_alloc ?_ _)); refine blk_far ?_ NB63001_63005.out _; (with_reducible repeat (first | refine blk_drewN ?_ _ | refine blk_drew ?_ | refine blk_alloc ?_ _)); refine blk_far ?_ NB63001_63005.out _; (with_reducible repeat (first | refine blk_drewN ?_ _ | refine blk_drew ?_ | refine blk_alloc ?_ _)); refine blk_far ?_ NB63001_63005.out _; (with_reducible repeat (first | refine blk_drewN ?_ _ | refine blk_drew ?_ | refine blk_alloc ?_ _)); exact BK63001.out) : P := h
theorem za13 {P : Prop} (h : P := by have := HK1.out; omega) : P := h
theorem za14 {P : Prop} (h : P := by (with_reducible repeat (first | refine blk_drewN ?_ _ | refine blk_drew ?_ | refine blk_alloc ?_ _)); refine blk_far ?_ NB7002_7003.out _; (with_reducible repeat (first | refine blk_drewN ?_ _ | refine blk_drew ?_ | refine blk_alloc ?_ _)); refine blk_far ?_ NB7002_7003.out _; (with_reducible repeat (first | refine blk_drewN ?_ _ | refine blk_drew ?_ | refine blk_alloc ?_ _)); refine blk_far ?_ NB7002_7003.out _; (with_reducible repeat (first | refine blk_drewN ?_ _ | refine blk_drew ?_ | refine blk_alloc ?_ _)); exact BK7002.out) : P := h
theorem za15 {P : Prop} (h : P := by (with_reducible repeat (first | refine blk_drewN ?_ _ | refine blk_drew ?_ | refine blk_alloc ?_ _)); refine blk_far ?_ NB7001_7003.out _; (with_reducible repeat (first | refine blk_drewN ?_ _ | refine blk_drew ?_ | refine blk_alloc ?_ _)); refine blk_far ?_ NB7001_7003.out _; (with_reducible repeat (first | refine blk_drewN ?_ _ | refine blk_drew ?_ | refine blk_alloc ?_ _)); refine blk_far ?_ NB7001_7003.out _; (with_reducible repeat (first | refine blk_drewN ?_ _ | refine blk_drew ?_ | refine blk_alloc ?_ _)); exact BK7001.out) : P := h
theorem za16 {P : Prop} (h : P := by (with_reducible repeat (first | refine blk_drewN ?_ _ | refine blk_drew ?_ | refine blk_alloc ?_ _)); refine blk_put (cs := #[.int .i64 a0_0, .string (⟨#[]⟩ : ByteArray), .slice none 0 0]) ?_ 1 _ rfl; (with_reducible repeat (first | refine blk_drewN ?_ _ | refine blk_drew ?_ | refine blk_alloc ?_ _)); refine blk_put (cs := #[.int .i64 0, .string (⟨#[]⟩ : ByteArray), .slice none 0 0]) ?_ 0 _ rfl; (with_reducible repeat (first | refine blk_drewN ?_ _ | refine blk_drew ?_ | refine blk_alloc ?_ _)); exact BK21003.out) : P := h
theorem za17 {P : Prop} (h : P := by first | omega | exact Nat.le_refl _) : P := h
theorem za18 {P : Prop} (h : P := by (with_reducible repeat (first | refine blk_drewN ?_ _ | refine blk_drew ?_ | refine blk_alloc ?_ _)); refine blk_far ?_ NB21002_21003.out _; (with_reducible repeat (first | refine blk_drewN ?_ _ | refine blk_drew ?_ | refine blk_alloc ?_ _)); refine blk_far ?_ NB21002_21003.out _; (with_reducible repeat (first | refine blk_drewN ?_ _ | refine blk_drew ?_ | refine blk_alloc ?_ _)); exact BK21002.out) : P := h
theorem za19 {P : Prop} (h : P := by (with_reducible repeat (first | apply Kd.R_alloc | apply Kd.R_drewN | apply Kd.R_drew)); exact (Kd.R_mono (Kd.R_far (p := ⟨gb4010, 0, none⟩) (Kd.R_types HO4009.out BK4010.out (by decide)) (fun _ hk => hk.2) (.slice Ao25 t4007.length co25)) (fun _ h_ => h_.1))) : P := h
theorem za20 {P : Prop} (h : P := by have := HJ1.out; first | omega | exact Nat.le_refl _) : P := h
theorem za21 {P : Prop} (h : P := by have := HJ2.out; have := HJ8.out; have := HK3.out; omega) : P := h
theorem za22 {P : Prop} (h : P := by rw [← add_field _ _ 2 (by omega)]; exact hc 2 _ rfl) : P := h
theorem za23 {P : Prop} (h : P := by rw [← add_field _ _ 1 (by omega)]; exact hc 1 _ rfl) : P := h
theorem zr0 {P : Prop} (h : P := by first | with_reducible rfl | (rw [if_neg (by omega)]; done)) : P := h
theorem zr1 {P : Prop} (h : P := by first | with_reducible rfl | (rw [if_neg (by omega)]; done) | (rw [if_neg za3]; done)) : P := h
theorem zr2 {P : Prop} (h : P := by first | with_reducible rfl | (rw [if_neg (by omega)]; done) | (rw [if_neg za4]; done)) : P := h
end Go.Proofs.YtdchpohiiigobaaDoor
namespace Go.Proofs.YtdchpohiiigobaaDoor.Ext
open Go.RowKit YtdchpohiiigobaaDoorW.PrintWords
theorem blk1 {w:World} {g:Nat} {t:TypeId} {a0:Value} (h:w.heap[g]? = some (.cells #[a0] t (0,0))):w.cell? ⟨g,0,none⟩=some a0∧w.frozen? ⟨g,0,none⟩=false:=⟨(blk_cell h 0).trans rfl,blk_frozen h 0⟩
theorem blk3 {w:World} {g:Nat} {t:TypeId} {a0 a1 a2:Value} (h:w.heap[g]? = some (.cells #[a0,a1,a2] t (0,0))):w.cell? ⟨g,0,none⟩=some a0∧w.cell? ⟨g,1,none⟩=some a1∧w.cell? ⟨g,2,none⟩=some a2∧w.frozen? ⟨g,0,none⟩=false∧w.frozen? ⟨g,1,none⟩=false∧w.frozen? ⟨g,2,none⟩=false:=⟨(blk_cell h 0).trans rfl,(blk_cell h 1).trans rfl,(blk_cell h 2).trans rfl,blk_frozen h 0,blk_frozen h 1,blk_frozen h 2⟩
theorem blk8 {w:World} {g:Nat} {t:TypeId} {a0 a1 a2 a3 a4 a5 a6 a7:Value} (h:w.heap[g]? = some (.cells #[a0,a1,a2,a3,a4,a5,a6,a7] t (0,0))):w.cell? ⟨g,0,none⟩=some a0∧w.cell? ⟨g,1,none⟩=some a1∧w.cell? ⟨g,2,none⟩=some a2∧w.cell? ⟨g,3,none⟩=some a3∧w.cell? ⟨g,4,none⟩=some a4∧w.cell? ⟨g,5,none⟩=some a5∧w.cell? ⟨g,6,none⟩=some a6∧w.cell? ⟨g,7,none⟩=some a7∧w.frozen? ⟨g,0,none⟩=false∧w.frozen? ⟨g,1,none⟩=false∧w.frozen? ⟨g,2,none⟩=false∧w.frozen? ⟨g,3,none⟩=false∧w.frozen? ⟨g,4,none⟩=false∧w.frozen? ⟨g,5,none⟩=false∧w.frozen? ⟨g,6,none⟩=false∧w.frozen? ⟨g,7,none⟩=false:=⟨(blk_cell h 0).trans rfl,(blk_cell h 1).trans rfl,(blk_cell h 2).trans rfl,(blk_cell h 3).trans rfl,(blk_cell h 4).trans rfl,(blk_cell h 5).trans rfl,(blk_cell h 6).trans rfl,(blk_cell h 7).trans rfl,blk_frozen h 0,blk_frozen h 1,blk_frozen h 2,blk_frozen h 3,blk_frozen h 4,blk_frozen h 5,blk_frozen h 6,blk_frozen h 7⟩
end Go.Proofs.YtdchpohiiigobaaDoor.Ext
namespace Go.Proofs.YtdchpohiiigobaaDoor.Ext
open Go Go.RowKit YtdchpohiiigobaaDoorW.PrintWords YtdchpohiiigobaaDoorW.PrintLast
-- EXT slices.Clone[[]int,int] making
def slices_Clone_int_int.f (l0:List Int):Option (List Int):=if l0.length≤17592186044415 then some l0 else none
set_option maxHeartbeats 2000000 in
theorem slices_Clone_int_int.calls (A0:Option Addr) (c0:Nat) (l0:List Int) (r:List Int) (w:World) (hr0:Kd.C (Kd.int .i64) w A0 l0.length l0) (hc0:l0.length≤c0) (h:slices_Clone_int_int.f l0=some r) :
  Calls Tryd.prog 26 #[.slice A0 l0.length c0] w fun e w'=>∃ v0_:Value,e = .returned (v0_)∧Kd.R (Kd.int .i64) 3 w' w.heap.size (fun _=>True) v0_ r∧Below w.heap.size w w':=by
 unfold slices_Clone_int_int.f at h
 split at h
 ·next hl =>
  obtain rfl:=zi h
  have q25:∀ (w:World) (a:Option Addr) (n c n' c':Nat),(binOp .eql 25 (.slice a n c) (.slice none n' c')).run Tryd.prog w = .ok (.bool a.isNone) w:=fun w a n c n' c'=>Lib.run_eql_slice_nil w _ _ a n c n' c' Tryd.underlying25
  have HR:=zk hr0
  have HL:=zk hl
  have HB:=zk (Below.refl w.heap.size w)
  cases A0 with
  | none =>
   have hn:l0 = []:=by
    cases l0 with
    | nil=>rfl
    | cons x l =>
     obtain ⟨ad,e,_⟩:=hr0.2.2 (by simp)
     cases e
   subst hn
   clear hr0 hl hc0
   go_enter Tryd.func26,Tryd.ntmps26
   go_wp2
   go_ret
   exact ⟨_,by first|rfl|(simp;done),Kd.R_nil _ _ _ _ _,HB.out⟩
  | some ad =>
   generalize hn:l0.length=n at *
   have HN:=zk hn
   clear hr0 hl hc0 hn
   go_enter Tryd.func26,Tryd.ntmps26
   go_wp2_with (first
    | ((with_reducible refine gate_dst (N:=5) rfl ?_);refine Kd.R_lit (Kd.int .i64) _ 3 ?hg (N:=5) ?hd (xs:=([]:List Int)) (inner:=[]) (ok:=fun _=>True) (okp:=fun _=>True) ?hr ?hp (fun _ hk=>hk) trivial (Below.refl _ _) (Nat.le_refl _) (by simp) ?_;(case hd=>rfl);(case hg=>rfl);(case hr=>first|(go_simp;done)|(go_simp;rfl));(case hp=>exact (Reps.none _ _));intro v5 w5 ho hb hg_ hnew_;clear hg_ hnew_;have R5:=zk ho;have B5:=zk (below_step HB.out hb);have C5:=zk (Kd.C_below HR.out hb);clear hb ho)
    | (at_builtin;refine Kd.R_append_row (Value.int .i64) (0:Int) (w0:=w) w.heap.size rfl (.tmp 5) (.tmp 6) 25 3 (.int .i64 0) 8 rfl Tryd.underlying25 (by kernel_rfl) rfl (by decide) v5 [] l0 (some ad) n c0 (fun _=>True) rfl rfl (fun _ _=>trivial) R5.out (by have:=C5.out;exact this) B5.out B5.out.size (by have:=HL.out;simp;omega) ?_;intro v7 w7 hr7 hb7 hg7 hat7;have R7:=zk hr7;have B7:=zk hb7;clear hr7 hb7 hg7 hat7))
   go_ret
   exact ⟨_,by first|rfl|(simp;done),by have:=R7.out;rw [List.nil_append] at this;exact this,B7.out⟩
 ·cases h
end Go.Proofs.YtdchpohiiigobaaDoor.Ext
namespace Go.Proofs.YtdchpohiiigobaaDoor.Ext
open Go.RowKit YtdchpohiiigobaaDoorW.PrintWords
-- EXT strings.IndexByte
def strings_IndexByte.f (s:ByteArray) (c:Int):Option Int:=some (Lib.indexByte s.data.toList c.toNat.toUInt8)
theorem stringslite_run (s:ByteArray) (c:Int) (w:World) :
  Calls Tryd.prog 79 #[.string s,.int .u8 c] w fun e w'=>e = .returned (.int .i64 (Lib.indexByte s.data.toList c.toNat.toUInt8))∧w'=w:=by
 go_enter Tryd.func79,Tryd.ntmps79
 go_wp2
 rw [run_callFunc_extern Tryd.func87 (by kernel_rfl) (by kernel_rfl) (by kernel_rfl) (e:=Extern.BytealgIndexByte.indexByte) (by kernel_rfl),Lib.run_indexByteString]
 simp only [Result.andThen]
 rw [Oper.upon_value]
 go_wp2
 go_ret
 exact ⟨rfl,rfl⟩
theorem strings_IndexByte.calls (s:ByteArray) (c:Int) (r:Int) (w:World) (h:strings_IndexByte.f s c=some r) :
  Calls Tryd.prog 73 #[.string s,.int .u8 c] w fun e w'=>e = .returned (.int .i64 r)∧Drawn0 w w':=by
 obtain rfl:=zi h
 go_enter Tryd.func73,Tryd.ntmps73
 go_wp2_with (go_at_call 79;refine (stringslite_run _ _ _).mono ?_;rintro e w' ⟨rfl,rfl⟩)
 go_ret
 exact ⟨rfl,Drawn0.refl _⟩
end Go.Proofs.YtdchpohiiigobaaDoor.Ext
namespace Go.Proofs
open Go.Shelf
def Tryd.lays171_ren:Go.Shelf.Ren:=⟨fun|171=>51|243=>65|246=>76|283=>81|284=>82|285=>83|286=>84|129=>89|317=>88|318=>90|319=>91|320=>92|337=>93|338=>94|n=>n,fun|3=>3|9=>9|2=>2|4=>4|171=>96|0=>0|53=>97|37=>70|5=>5|173=>100|212=>106|51=>107|20=>20|213=>108|46=>109|232=>112|233=>113|n=>n,fun|17=>0|18=>2|19=>3|n=>n⟩
theorem Tryd.lays171:Go.Proofs.LaysM.n171 Tryd.prog Tryd.lays171_ren:={
 mixed:=by kernel_rfl
 f129:=Tryd.func89.trans (congrArg some (by kernel_rfl))
 f171:=Tryd.func51.trans (congrArg some (by kernel_rfl))
 f243:=Tryd.func65.trans (congrArg some (by kernel_rfl))
 f246:=Tryd.func76.trans (congrArg some (by kernel_rfl))
 f283:=Tryd.func81.trans (congrArg some (by kernel_rfl))
 f284:=Tryd.func82.trans (congrArg some (by kernel_rfl))
 f285:=Tryd.func83.trans (congrArg some (by kernel_rfl))
 f286:=Tryd.func84.trans (congrArg some (by kernel_rfl))
 f317:=Tryd.func88.trans (congrArg some (by kernel_rfl))
 f318:=Tryd.func90.trans (congrArg some (by kernel_rfl))
 f319:=Tryd.func91.trans (congrArg some (by kernel_rfl))
 f320:=Tryd.func92.trans (congrArg some (by kernel_rfl))
 f337:=Tryd.func93.trans (congrArg some (by kernel_rfl))
 f338:=Tryd.func94.trans (congrArg some (by kernel_rfl))
 t0:=Tryd.underlying0
 a0:=Tryd.isAgg0
 z0:=Tryd.sizeOf0
 v0:=Tryd.zeroValue0
 t2:=Tryd.underlying2
 a2:=Tryd.isAgg2
 z2:=Tryd.sizeOf2
 v2:=Tryd.zeroValue2
 t3:=Tryd.underlying3
 a3:=Tryd.isAgg3
 z3:=Tryd.sizeOf3
 v3:=Tryd.zeroValue3
 t4:=Tryd.underlying4
 a4:=Tryd.isAgg4
 z4:=Tryd.sizeOf4
 v4:=Tryd.zeroValue4
 t5:=Tryd.underlying5
 a5:=Tryd.isAgg5
 z5:=Tryd.sizeOf5
 v5:=Tryd.zeroValue5
 t9:=Tryd.underlying9
 a9:=Tryd.isAgg9
 z9:=Tryd.sizeOf9
 v9:=Tryd.zeroValue9
 t20:=Tryd.underlying20
 a20:=Tryd.isAgg20
 z20:=Tryd.sizeOf20
 v20:=Tryd.zeroValue20
 t37:=Tryd.underlying70
 a37:=Tryd.isAgg70
 z37:=Tryd.sizeOf70
 v37:=Tryd.zeroValue70
 t46:=Tryd.underlying109
 a46:=Tryd.isAgg109
 z46:=Tryd.sizeOf109
 v46:=Tryd.zeroValue109
 t51:=Tryd.underlying107
 a51:=Tryd.isAgg107
 z51:=Tryd.sizeOf107
 v51:=Tryd.zeroValue107
 t53:=Tryd.underlying97
 a53:=Tryd.isAgg97
 z53:=Tryd.sizeOf97
 v53:=Tryd.zeroValue97
 t171:=Tryd.underlying96
 a171:=Tryd.isAgg96
 z171:=Tryd.sizeOf96
 v171:=Tryd.zeroValue96
 t173:=Tryd.underlying100
 a173:=Tryd.isAgg100
 z173:=Tryd.sizeOf100
 v173:=Tryd.zeroValue100
 t212:=Tryd.underlying106
 a212:=Tryd.isAgg106
 z212:=Tryd.sizeOf106
 v212:=Tryd.zeroValue106
 t213:=Tryd.underlying108
 a213:=Tryd.isAgg108
 z213:=Tryd.sizeOf108
 t232:=Tryd.underlying112
 a232:=Tryd.isAgg112
 z232:=Tryd.sizeOf112
 v232:=Tryd.zeroValue112
 t233:=Tryd.underlying113
 a233:=Tryd.isAgg113
 z233:=Tryd.sizeOf113
 v233:=Tryd.zeroValue113
 g17:=by kernel_rfl
 g18:=by kernel_rfl
 g19:=by kernel_rfl
 i0:=by kernel_rfl
 i2:=by kernel_rfl
 i3:=by kernel_rfl
 i4:=by kernel_rfl
 i5:=by kernel_rfl
 i9:=by kernel_rfl
 i20:=by kernel_rfl
 i37:=by kernel_rfl
 i46:=by kernel_rfl
 i51:=by kernel_rfl
 i53:=by kernel_rfl
 i171:=by kernel_rfl
 i173:=by kernel_rfl
 i212:=by kernel_rfl
 i232:=by kernel_rfl
 i233:=by kernel_rfl
 m17:=by kernel_rfl
 m18:=by kernel_rfl
 m19:=by kernel_rfl }
end Go.Proofs
namespace Go.Proofs.YtdchpohiiigobaaDoor.Ext
open Go Go.RowKit Go.Proofs Go.Sort YtdchpohiiigobaaDoorW.PrintWords YtdchpohiiigobaaDoorW.PrintLast
def Tb (w : World) : Prop := Lib.TabIs Tryd.prog w "internal/strconv.uint64pow10" .u64 Lib.pow10Tab
theorem Tb.below {w w':World} (h:Tb w) (hb:Below w.heap.size w w'):Tb w':=by
 unfold Tb Lib.TabIs World.var? at *
 cases hg : Tryd.prog.globalNamed "internal/strconv.uint64pow10" with
 | none=>simp [hg] at h
 | some g =>
  simp only [hg,Option.bind_some] at h ⊢
  have hlt:g < w.heap.size:=by
   rcases Nat.lt_or_ge g w.heap.size with h'|h'
   ·exact h'
   ·rw [Array.getElem?_eq_none h'] at h;simp at h
  rw [hb.block g hlt]
  exact h
def itoaB (n:Int):ByteArray:=⟨(Lib.itoa n).toArray⟩
theorem itoa_calls (n:Int) (h0 : -9223372036854775808≤n) (h1:n≤9223372036854775807) (w:World) (hT:Tb w) :
  Calls Tryd.prog 51 #[.int .i64 n] w fun e w'=>e = .returned (.string (itoaB n))∧Below w.heap.size w w':=by
 refine (Any.strconv_Itoa Tryd.lays171 n h0 h1 w hT).mono ?_
 rintro e w' ⟨rfl,k,os,rfl⟩
 refine ⟨rfl,rfl,rfl,rfl,?_,fun q hq=>?_⟩
 ·show w.heap.size≤(w.heap ++ os).size
  rw [Array.size_append]
  omega
 ·show (w.heap ++ os)[q]? = w.heap[q]?
  rw [Array.getElem?_append_left hq]
-- EXT strconv.Itoa making premise
def strconv_Itoa_51.f (n:Int):Option ByteArray:=if -9223372036854775808≤n∧n≤9223372036854775807 then some (itoaB n) else none
theorem strconv_Itoa_51.calls (a0:Int) (r:ByteArray) (w:World) (h:strconv_Itoa_51.f a0=some r) (hTb:Tb w) :
  Calls Tryd.prog 51 #[.int .i64 a0] w fun e w'=>e = .returned (.string r)∧Below w.heap.size w w':=by
 unfold strconv_Itoa_51.f at h
 split at h
 ·next hh =>
  obtain rfl:=zi h
  exact itoa_calls a0 hh.1 hh.2 w hTb
 ·cases h
end Go.Proofs.YtdchpohiiigobaaDoor.Ext
namespace Go.Proofs.YtdchpohiiigobaaDoor.A
open Go.RowKit YtdchpohiiigobaaDoor.Ext YtdchpohiiigobaaDoorW.PrintWords YtdchpohiiigobaaDoorW.PrintLast YtdchpohiiigobaaDoorW.PrintMore
attribute [local go_sem] max2_int min2_int max_two min_two max_three min_three max_four min_four
def errW:Option Int→Value
 | none => .nilIface
 | some c => .iface 0 (.int .i64 c)
theorem errW_none:errW none = .nilIface:=rfl
theorem errW_some (c:Int):errW (some c) = .iface 0 (.int .i64 c):=rfl
theorem info3:(Tryd.prog.info? 3).map (fun i=>(i.zero,i.size,i.bytes))=some (some (.int .i64 0),1,8):=by kernel_rfl
theorem info5:(Tryd.prog.info? 5).map (fun i=>(i.zero,i.size,i.bytes))=some (some (.int .u8 0),1,1):=by kernel_rfl
theorem info9:(Tryd.prog.info? 9).map (fun i=>(i.zero,i.size,i.bytes))=some (some (.string ⟨#[]⟩),1,16):=by kernel_rfl
theorem info32:(Tryd.prog.info? 32).map (fun i=>(i.zero,i.size,i.bytes))=some (some (.agg #[(.int .i64 0),(.string ⟨#[]⟩),(.slice none 0 0)]),3,48):=by kernel_rfl
theorem info34:(Tryd.prog.info? 34).map (fun i=>(i.zero,i.size,i.bytes))=some (some (.agg #[(.int .i64 0),(.string ⟨#[]⟩),(.string ⟨#[]⟩),(.int .i64 0),(.string ⟨#[]⟩),(.slice none 0 0),(.slice none 0 0),(.int .i64 0)]),8,120):=by kernel_rfl
-- the values' own types
/-! #### struct type 24, nested in itself -/
structure S24 where
 f0:Int
 f1:ByteArray
 f2:(List S24)
def z24:S24:=⟨(0:Int),(⟨#[]⟩:ByteArray),([]:List S24)⟩
def F24 (d:Kd S24):Kd S24:=Kd.iso (Kd.pair (Kd.int .i64) (Kd.pair Kd.string (Kd.slice 24 d))) (fun x:S24=>(x.f0,x.f1,x.f2))
theorem mono24:Kd.Mono F24:=Kd.mono_iso _ (Kd.mono_pair (Kd.mono_const _) (Kd.mono_pair (Kd.mono_const _) (Kd.mono_slice 24 Kd.mono_id)))
theorem sub24:Kd.Sub F24 [24]:=Kd.sub_iso _ (Kd.sub_pair (Kd.sub_const _ (by decide)) (Kd.sub_pair (Kd.sub_const _ (by decide)) (Kd.sub_slice 24 (by decide) Kd.sub_id)))
theorem sz24:∀ n,(Kd.upto F24 3 [24] n).sz=3:=Kd.upto_sz (fun _=>rfl)
def k24:Kd S24:=Kd.fix F24 3 [24] sz24 (Kd.upto_E sub24)
theorem k24_open {w:World} {x:S24} {cs:List Value} (h:k24.K w x cs):∃ A2 c2,cs = [.int .i64 x.f0,.string x.f1,.slice A2 x.f2.length c2]∧x.f2.length≤c2∧k24.C w A2 x.f2.length x.f2:=by
 obtain ⟨n,h⟩:=h
 cases n with
 | zero=>exact h.elim
 | succ n =>
  obtain ⟨_,_,rfl,rfl,⟨_,_,rfl,rfl,⟨A2,c2,rfl,l2,g2⟩⟩⟩:=h
  exact ⟨A2,c2,rfl,l2,Kd.fix_C g2⟩
theorem k24_openM {w:World} {base:Nat} {ok:Nat→Prop} {x:S24} {cs:List Value} (h:k24.M w base ok x cs):∃ v2,cs = [.int .i64 x.f0,.string x.f1,v2]∧k24.R 24 w base ok v2 x.f2:=by
 obtain ⟨n,h⟩:=h
 cases n with
 | zero=>exact h.elim
 | succ n =>
  obtain ⟨_,_,rfl,rfl,⟨_,_,rfl,rfl,⟨v2,rfl,g2⟩⟩⟩:=h
  exact ⟨v2,rfl,Kd.fix_R g2⟩
theorem k24_mk (w:World) (x:S24) {A2:Option Addr} {c2:Nat} (l2:x.f2.length≤c2) (g2:k24.C w A2 x.f2.length x.f2):k24.K w x [.int .i64 x.f0,.string x.f1,.slice A2 x.f2.length c2]:=by
 obtain ⟨n2,q2⟩:=Kd.fix_C_back mono24 g2
 have r2:=Kd.upto_C_le mono24 sz24 (show n2≤n2 by omega) q2
 exact ⟨n2+1,⟨[.int .i64 x.f0],[.string x.f1,.slice A2 x.f2.length c2],rfl,rfl,⟨[.string x.f1],[.slice A2 x.f2.length c2],rfl,rfl,⟨A2,c2,rfl,l2,r2⟩⟩⟩⟩
theorem k24_mkM (w:World) (base:Nat) (ok:Nat→Prop) (x:S24) {v2:Value} (g2:k24.R 24 w base ok v2 x.f2):k24.M w base ok x [.int .i64 x.f0,.string x.f1,v2]:=by
 obtain ⟨n2,q2⟩:=Kd.fix_R_back mono24 g2
 have r2:=Kd.upto_R_le mono24 sz24 (show n2≤n2 by omega) q2
 exact ⟨n2+1,⟨[.int .i64 x.f0],[.string x.f1,v2],rfl,rfl,⟨[.string x.f1],[v2],rfl,rfl,⟨v2,rfl,r2⟩⟩⟩⟩
def rd_T24 (xs:List S24) (i:Int):S24:=xs.getD i.toNat z24
theorem at_T24 {w:World} {A:Option Addr} {n:Nat} {xs:List S24} (h:Kd.C k24 w A n xs) (i:Int) (h0:0≤i) (h1:i < n):∃ ad A2 c2,A=some ad∧w.cell? (ad.add (i.toNat * 3))=some (.int .i64 (rd_T24 xs i).f0)∧w.cell? ⟨(ad.add (i.toNat * 3)).block,(ad.add (i.toNat * 3)).off+1,none⟩=some (.string (rd_T24 xs i).f1)∧w.cell? ⟨(ad.add (i.toNat * 3)).block,(ad.add (i.toNat * 3)).off+2,none⟩=some (.slice A2 (rd_T24 xs i).f2.length c2)∧(rd_T24 xs i).f2.length≤c2∧k24.C w A2 (rd_T24 xs i).f2.length (rd_T24 xs i).f2:=by
 obtain ⟨ad,c,e,_,hK,hc0⟩:=Kd.C_get h z24 i h0 h1
 have hc:∀ j u,c[j]? = some u→w.cell? (ad.add (i.toNat * 3+j))=some u:=hc0
 obtain ⟨A2,c2,rfl,l2,g2⟩:=k24_open hK
 exact ⟨ad,A2,c2,e,hc 0 _ rfl,za23,za22,l2,g2⟩
/-! #### struct type 32, nested in itself -/
structure S32 where
 f0:Int
 f1:ByteArray
 f2:(List S32)
def z32:S32:=⟨(0:Int),(⟨#[]⟩:ByteArray),([]:List S32)⟩
def F32 (d:Kd S32):Kd S32:=Kd.iso (Kd.pair (Kd.int .i64) (Kd.pair Kd.string (Kd.slice 32 d))) (fun x:S32=>(x.f0,x.f1,x.f2))
theorem mono32:Kd.Mono F32:=Kd.mono_iso _ (Kd.mono_pair (Kd.mono_const _) (Kd.mono_pair (Kd.mono_const _) (Kd.mono_slice 32 Kd.mono_id)))
theorem sub32:Kd.Sub F32 [32]:=Kd.sub_iso _ (Kd.sub_pair (Kd.sub_const _ (by decide)) (Kd.sub_pair (Kd.sub_const _ (by decide)) (Kd.sub_slice 32 (by decide) Kd.sub_id)))
theorem sz32:∀ n,(Kd.upto F32 3 [32] n).sz=3:=Kd.upto_sz (fun _=>rfl)
def k32:Kd S32:=Kd.fix F32 3 [32] sz32 (Kd.upto_E sub32)
theorem k32_open {w:World} {x:S32} {cs:List Value} (h:k32.K w x cs):∃ A2 c2,cs = [.int .i64 x.f0,.string x.f1,.slice A2 x.f2.length c2]∧x.f2.length≤c2∧k32.C w A2 x.f2.length x.f2:=by
 obtain ⟨n,h⟩:=h
 cases n with
 | zero=>exact h.elim
 | succ n =>
  obtain ⟨_,_,rfl,rfl,⟨_,_,rfl,rfl,⟨A2,c2,rfl,l2,g2⟩⟩⟩:=h
  exact ⟨A2,c2,rfl,l2,Kd.fix_C g2⟩
theorem k32_openM {w:World} {base:Nat} {ok:Nat→Prop} {x:S32} {cs:List Value} (h:k32.M w base ok x cs):∃ v2,cs = [.int .i64 x.f0,.string x.f1,v2]∧k32.R 32 w base ok v2 x.f2:=by
 obtain ⟨n,h⟩:=h
 cases n with
 | zero=>exact h.elim
 | succ n =>
  obtain ⟨_,_,rfl,rfl,⟨_,_,rfl,rfl,⟨v2,rfl,g2⟩⟩⟩:=h
  exact ⟨v2,rfl,Kd.fix_R g2⟩
theorem k32_mk (w:World) (x:S32) {A2:Option Addr} {c2:Nat} (l2:x.f2.length≤c2) (g2:k32.C w A2 x.f2.length x.f2):k32.K w x [.int .i64 x.f0,.string x.f1,.slice A2 x.f2.length c2]:=by
 obtain ⟨n2,q2⟩:=Kd.fix_C_back mono32 g2
 have r2:=Kd.upto_C_le mono32 sz32 (show n2≤n2 by omega) q2
 exact ⟨n2+1,⟨[.int .i64 x.f0],[.string x.f1,.slice A2 x.f2.length c2],rfl,rfl,⟨[.string x.f1],[.slice A2 x.f2.length c2],rfl,rfl,⟨A2,c2,rfl,l2,r2⟩⟩⟩⟩
theorem k32_mkM (w:World) (base:Nat) (ok:Nat→Prop) (x:S32) {v2:Value} (g2:k32.R 32 w base ok v2 x.f2):k32.M w base ok x [.int .i64 x.f0,.string x.f1,v2]:=by
 obtain ⟨n2,q2⟩:=Kd.fix_R_back mono32 g2
 have r2:=Kd.upto_R_le mono32 sz32 (show n2≤n2 by omega) q2
 exact ⟨n2+1,⟨[.int .i64 x.f0],[.string x.f1,v2],rfl,rfl,⟨[.string x.f1],[v2],rfl,rfl,⟨v2,rfl,r2⟩⟩⟩⟩
def rd_T32 (xs:List S32) (i:Int):S32:=xs.getD i.toNat z32
theorem at_T32 {w:World} {A:Option Addr} {n:Nat} {xs:List S32} (h:Kd.C k32 w A n xs) (i:Int) (h0:0≤i) (h1:i < n):∃ ad A2 c2,A=some ad∧w.cell? (ad.add (i.toNat * 3))=some (.int .i64 (rd_T32 xs i).f0)∧w.cell? ⟨(ad.add (i.toNat * 3)).block,(ad.add (i.toNat * 3)).off+1,none⟩=some (.string (rd_T32 xs i).f1)∧w.cell? ⟨(ad.add (i.toNat * 3)).block,(ad.add (i.toNat * 3)).off+2,none⟩=some (.slice A2 (rd_T32 xs i).f2.length c2)∧(rd_T32 xs i).f2.length≤c2∧k32.C w A2 (rd_T32 xs i).f2.length (rd_T32 xs i).f2:=by
 obtain ⟨ad,c,e,_,hK,hc0⟩:=Kd.C_get h z32 i h0 h1
 have hc:∀ j u,c[j]? = some u→w.cell? (ad.add (i.toNat * 3+j))=some u:=hc0
 obtain ⟨A2,c2,rfl,l2,g2⟩:=k32_open hK
 exact ⟨ad,A2,c2,e,hc 0 _ rfl,za23,za22,l2,g2⟩
def rd_L5 (xs:List (List Int)) (i:Int):(List Int):=xs.getD i.toNat ([]:List Int)
theorem at_L5 {w:World} {A:Option Addr} {n:Nat} {xs:List (List Int)} (h:Kd.C (Kd.slice 3 (Kd.int .i64)) w A n xs) (i:Int) (h0:0≤i) (h1:i < n):∃ ad A0 c0,A=some ad∧w.cell? (ad.add i.toNat)=some (.slice A0 (rd_L5 xs i).length c0)∧(rd_L5 xs i).length≤c0∧(Kd.int .i64).C w A0 (rd_L5 xs i).length (rd_L5 xs i):=by
 obtain ⟨ad,c,e,_,hK,hc0⟩:=Kd.C_get h ([]:List Int) i h0 h1
 have hc:∀ j u,c[j]? = some u→w.cell? (ad.add (i.toNat * 1+j))=some u:=hc0
 obtain ⟨A0,c0,rfl,l0,g0⟩:=hK
 exact ⟨ad,A0,c0,e,by have hq:=hc 0 _ rfl;rwa [Nat.mul_one,Nat.add_zero] at hq,l0,g0⟩
/-! #### struct type 27 -/
structure S27 where
 f0:Int
 f1:ByteArray
 f2:ByteArray
 f3:S24
 f4:(List Int)
 f5:Int
def z27:S27:=⟨(0:Int),(⟨#[]⟩:ByteArray),(⟨#[]⟩:ByteArray),z24,([]:List Int),(0:Int)⟩
def k27:Kd S27:=Kd.iso (Kd.pair (Kd.int .i64) (Kd.pair Kd.string (Kd.pair Kd.string (Kd.pair k24 (Kd.pair (Kd.slice 3 (Kd.int .i64)) (Kd.int .i64)))))) (fun x:S27=>(x.f0,x.f1,x.f2,x.f3,x.f4,x.f5))
theorem k27_open {w:World} {x:S27} {cs:List Value} (h:k27.K w x cs):∃ A5 c5 A6 c6,cs = [.int .i64 x.f0,.string x.f1,.string x.f2,.int .i64 x.f3.f0,.string x.f3.f1,.slice A5 x.f3.f2.length c5,.slice A6 x.f4.length c6,.int .i64 x.f5]∧x.f3.f2.length≤c5∧k24.C w A5 x.f3.f2.length x.f3.f2∧x.f4.length≤c6∧(Kd.int .i64).C w A6 x.f4.length x.f4:=by
 obtain ⟨_,_,rfl,rfl,⟨_,_,rfl,rfl,⟨_,_,rfl,rfl,⟨_,_,rfl,s3,⟨_,_,rfl,⟨A6,c6,rfl,l6,g6⟩,rfl⟩⟩⟩⟩⟩:=h
 obtain ⟨A5,c5,rfl,l5,g5⟩:=k24_open s3
 exact ⟨A5,c5,A6,c6,rfl,l5,g5,l6,g6⟩
theorem k27_openM {w:World} {base:Nat} {ok:Nat→Prop} {x:S27} {cs:List Value} (h:k27.M w base ok x cs):∃ v5 v6,cs = [.int .i64 x.f0,.string x.f1,.string x.f2,.int .i64 x.f3.f0,.string x.f3.f1,v5,v6,.int .i64 x.f5]∧k24.R 24 w base ok v5 x.f3.f2∧(Kd.int .i64).R 3 w base ok v6 x.f4:=by
 obtain ⟨_,_,rfl,rfl,⟨_,_,rfl,rfl,⟨_,_,rfl,rfl,⟨_,_,rfl,s3,⟨_,_,rfl,⟨v6,rfl,g6⟩,rfl⟩⟩⟩⟩⟩:=h
 obtain ⟨v5,rfl,g5⟩:=k24_openM s3
 exact ⟨v5,v6,rfl,g5,g6⟩
theorem k27_mk (w:World) (x:S27) {A5:Option Addr} {c5:Nat} (l5:x.f3.f2.length≤c5) (g5:k24.C w A5 x.f3.f2.length x.f3.f2) {A6:Option Addr} {c6:Nat} (l6:x.f4.length≤c6) (g6:(Kd.int .i64).C w A6 x.f4.length x.f4):k27.K w x [.int .i64 x.f0,.string x.f1,.string x.f2,.int .i64 x.f3.f0,.string x.f3.f1,.slice A5 x.f3.f2.length c5,.slice A6 x.f4.length c6,.int .i64 x.f5]:=⟨[.int .i64 x.f0],[.string x.f1,.string x.f2,.int .i64 x.f3.f0,.string x.f3.f1,.slice A5 x.f3.f2.length c5,.slice A6 x.f4.length c6,.int .i64 x.f5],rfl,rfl,⟨[.string x.f1],[.string x.f2,.int .i64 x.f3.f0,.string x.f3.f1,.slice A5 x.f3.f2.length c5,.slice A6 x.f4.length c6,.int .i64 x.f5],rfl,rfl,⟨[.string x.f2],[.int .i64 x.f3.f0,.string x.f3.f1,.slice A5 x.f3.f2.length c5,.slice A6 x.f4.length c6,.int .i64 x.f5],rfl,rfl,⟨[.int .i64 x.f3.f0,.string x.f3.f1,.slice A5 x.f3.f2.length c5],[.slice A6 x.f4.length c6,.int .i64 x.f5],rfl,(k24_mk w x.f3 l5 g5),⟨[.slice A6 x.f4.length c6],[.int .i64 x.f5],rfl,⟨A6,c6,rfl,l6,g6⟩,rfl⟩⟩⟩⟩⟩
theorem k27_mkM (w:World) (base:Nat) (ok:Nat→Prop) (x:S27) {v5:Value} (g5:k24.R 24 w base ok v5 x.f3.f2) {v6:Value} (g6:(Kd.int .i64).R 3 w base ok v6 x.f4):k27.M w base ok x [.int .i64 x.f0,.string x.f1,.string x.f2,.int .i64 x.f3.f0,.string x.f3.f1,v5,v6,.int .i64 x.f5]:=⟨[.int .i64 x.f0],[.string x.f1,.string x.f2,.int .i64 x.f3.f0,.string x.f3.f1,v5,v6,.int .i64 x.f5],rfl,rfl,⟨[.string x.f1],[.string x.f2,.int .i64 x.f3.f0,.string x.f3.f1,v5,v6,.int .i64 x.f5],rfl,rfl,⟨[.string x.f2],[.int .i64 x.f3.f0,.string x.f3.f1,v5,v6,.int .i64 x.f5],rfl,rfl,⟨[.int .i64 x.f3.f0,.string x.f3.f1,v5],[v6,.int .i64 x.f5],rfl,(k24_mkM w base ok x.f3 g5),⟨[v6],[.int .i64 x.f5],rfl,⟨v6,rfl,g6⟩,rfl⟩⟩⟩⟩⟩
def rd_T27 (xs:List S27) (i:Int):S27:=xs.getD i.toNat z27
theorem at_T27 {w:World} {A:Option Addr} {n:Nat} {xs:List S27} (h:Kd.C k27 w A n xs) (i:Int) (h0:0≤i) (h1:i < n):∃ ad A5 c5 A6 c6,A=some ad∧w.cell? (ad.add (i.toNat * 8))=some (.int .i64 (rd_T27 xs i).f0)∧w.cell? ⟨(ad.add (i.toNat * 8)).block,(ad.add (i.toNat * 8)).off+1,none⟩=some (.string (rd_T27 xs i).f1)∧w.cell? ⟨(ad.add (i.toNat * 8)).block,(ad.add (i.toNat * 8)).off+2,none⟩=some (.string (rd_T27 xs i).f2)∧w.cell? ⟨(ad.add (i.toNat * 8)).block,(ad.add (i.toNat * 8)).off+3,none⟩=some (.int .i64 (rd_T27 xs i).f3.f0)∧w.cell? ⟨(ad.add (i.toNat * 8)).block,(ad.add (i.toNat * 8)).off+4,none⟩=some (.string (rd_T27 xs i).f3.f1)∧w.cell? ⟨(ad.add (i.toNat * 8)).block,(ad.add (i.toNat * 8)).off+5,none⟩=some (.slice A5 (rd_T27 xs i).f3.f2.length c5)∧w.cell? ⟨(ad.add (i.toNat * 8)).block,(ad.add (i.toNat * 8)).off+6,none⟩=some (.slice A6 (rd_T27 xs i).f4.length c6)∧w.cell? ⟨(ad.add (i.toNat * 8)).block,(ad.add (i.toNat * 8)).off+7,none⟩=some (.int .i64 (rd_T27 xs i).f5)∧(rd_T27 xs i).f3.f2.length≤c5∧k24.C w A5 (rd_T27 xs i).f3.f2.length (rd_T27 xs i).f3.f2∧(rd_T27 xs i).f4.length≤c6∧(Kd.int .i64).C w A6 (rd_T27 xs i).f4.length (rd_T27 xs i).f4:=by
 obtain ⟨ad,c,e,_,hK,hc0⟩:=Kd.C_get h z27 i h0 h1
 have hc:∀ j u,c[j]? = some u→w.cell? (ad.add (i.toNat * 8+j))=some u:=hc0
 obtain ⟨A5,c5,A6,c6,rfl,l5,g5,l6,g6⟩:=k27_open hK
 exact ⟨ad,A5,c5,A6,c6,e,hc 0 _ rfl,za23,za22,by rw [← add_field _ _ 3 (by omega)];exact hc 3 _ rfl,by rw [← add_field _ _ 4 (by omega)];exact hc 4 _ rfl,by rw [← add_field _ _ 5 (by omega)];exact hc 5 _ rfl,by rw [← add_field _ _ 6 (by omega)];exact hc 6 _ rfl,by rw [← add_field _ _ 7 (by omega)];exact hc 7 _ rfl,l5,g5,l6,g6⟩
/-! #### struct type 34 -/
structure S34 where
 f0:Int
 f1:ByteArray
 f2:ByteArray
 f3:S32
 f4:(List Int)
 f5:Int
def z34:S34:=⟨(0:Int),(⟨#[]⟩:ByteArray),(⟨#[]⟩:ByteArray),z32,([]:List Int),(0:Int)⟩
def k34:Kd S34:=Kd.iso (Kd.pair (Kd.int .i64) (Kd.pair Kd.string (Kd.pair Kd.string (Kd.pair k32 (Kd.pair (Kd.slice 3 (Kd.int .i64)) (Kd.int .i64)))))) (fun x:S34=>(x.f0,x.f1,x.f2,x.f3,x.f4,x.f5))
theorem k34_open {w:World} {x:S34} {cs:List Value} (h:k34.K w x cs):∃ A5 c5 A6 c6,cs = [.int .i64 x.f0,.string x.f1,.string x.f2,.int .i64 x.f3.f0,.string x.f3.f1,.slice A5 x.f3.f2.length c5,.slice A6 x.f4.length c6,.int .i64 x.f5]∧x.f3.f2.length≤c5∧k32.C w A5 x.f3.f2.length x.f3.f2∧x.f4.length≤c6∧(Kd.int .i64).C w A6 x.f4.length x.f4:=by
 obtain ⟨_,_,rfl,rfl,⟨_,_,rfl,rfl,⟨_,_,rfl,rfl,⟨_,_,rfl,s3,⟨_,_,rfl,⟨A6,c6,rfl,l6,g6⟩,rfl⟩⟩⟩⟩⟩:=h
 obtain ⟨A5,c5,rfl,l5,g5⟩:=k32_open s3
 exact ⟨A5,c5,A6,c6,rfl,l5,g5,l6,g6⟩
theorem k34_openM {w:World} {base:Nat} {ok:Nat→Prop} {x:S34} {cs:List Value} (h:k34.M w base ok x cs):∃ v5 v6,cs = [.int .i64 x.f0,.string x.f1,.string x.f2,.int .i64 x.f3.f0,.string x.f3.f1,v5,v6,.int .i64 x.f5]∧k32.R 32 w base ok v5 x.f3.f2∧(Kd.int .i64).R 3 w base ok v6 x.f4:=by
 obtain ⟨_,_,rfl,rfl,⟨_,_,rfl,rfl,⟨_,_,rfl,rfl,⟨_,_,rfl,s3,⟨_,_,rfl,⟨v6,rfl,g6⟩,rfl⟩⟩⟩⟩⟩:=h
 obtain ⟨v5,rfl,g5⟩:=k32_openM s3
 exact ⟨v5,v6,rfl,g5,g6⟩
theorem k34_mk (w:World) (x:S34) {A5:Option Addr} {c5:Nat} (l5:x.f3.f2.length≤c5) (g5:k32.C w A5 x.f3.f2.length x.f3.f2) {A6:Option Addr} {c6:Nat} (l6:x.f4.length≤c6) (g6:(Kd.int .i64).C w A6 x.f4.length x.f4):k34.K w x [.int .i64 x.f0,.string x.f1,.string x.f2,.int .i64 x.f3.f0,.string x.f3.f1,.slice A5 x.f3.f2.length c5,.slice A6 x.f4.length c6,.int .i64 x.f5]:=⟨[.int .i64 x.f0],[.string x.f1,.string x.f2,.int .i64 x.f3.f0,.string x.f3.f1,.slice A5 x.f3.f2.length c5,.slice A6 x.f4.length c6,.int .i64 x.f5],rfl,rfl,⟨[.string x.f1],[.string x.f2,.int .i64 x.f3.f0,.string x.f3.f1,.slice A5 x.f3.f2.length c5,.slice A6 x.f4.length c6,.int .i64 x.f5],rfl,rfl,⟨[.string x.f2],[.int .i64 x.f3.f0,.string x.f3.f1,.slice A5 x.f3.f2.length c5,.slice A6 x.f4.length c6,.int .i64 x.f5],rfl,rfl,⟨[.int .i64 x.f3.f0,.string x.f3.f1,.slice A5 x.f3.f2.length c5],[.slice A6 x.f4.length c6,.int .i64 x.f5],rfl,(k32_mk w x.f3 l5 g5),⟨[.slice A6 x.f4.length c6],[.int .i64 x.f5],rfl,⟨A6,c6,rfl,l6,g6⟩,rfl⟩⟩⟩⟩⟩
theorem k34_mkM (w:World) (base:Nat) (ok:Nat→Prop) (x:S34) {v5:Value} (g5:k32.R 32 w base ok v5 x.f3.f2) {v6:Value} (g6:(Kd.int .i64).R 3 w base ok v6 x.f4):k34.M w base ok x [.int .i64 x.f0,.string x.f1,.string x.f2,.int .i64 x.f3.f0,.string x.f3.f1,v5,v6,.int .i64 x.f5]:=⟨[.int .i64 x.f0],[.string x.f1,.string x.f2,.int .i64 x.f3.f0,.string x.f3.f1,v5,v6,.int .i64 x.f5],rfl,rfl,⟨[.string x.f1],[.string x.f2,.int .i64 x.f3.f0,.string x.f3.f1,v5,v6,.int .i64 x.f5],rfl,rfl,⟨[.string x.f2],[.int .i64 x.f3.f0,.string x.f3.f1,v5,v6,.int .i64 x.f5],rfl,rfl,⟨[.int .i64 x.f3.f0,.string x.f3.f1,v5],[v6,.int .i64 x.f5],rfl,(k32_mkM w base ok x.f3 g5),⟨[v6],[.int .i64 x.f5],rfl,⟨v6,rfl,g6⟩,rfl⟩⟩⟩⟩⟩
def rd_T34 (xs:List S34) (i:Int):S34:=xs.getD i.toNat z34
theorem at_T34 {w:World} {A:Option Addr} {n:Nat} {xs:List S34} (h:Kd.C k34 w A n xs) (i:Int) (h0:0≤i) (h1:i < n):∃ ad A5 c5 A6 c6,A=some ad∧w.cell? (ad.add (i.toNat * 8))=some (.int .i64 (rd_T34 xs i).f0)∧w.cell? ⟨(ad.add (i.toNat * 8)).block,(ad.add (i.toNat * 8)).off+1,none⟩=some (.string (rd_T34 xs i).f1)∧w.cell? ⟨(ad.add (i.toNat * 8)).block,(ad.add (i.toNat * 8)).off+2,none⟩=some (.string (rd_T34 xs i).f2)∧w.cell? ⟨(ad.add (i.toNat * 8)).block,(ad.add (i.toNat * 8)).off+3,none⟩=some (.int .i64 (rd_T34 xs i).f3.f0)∧w.cell? ⟨(ad.add (i.toNat * 8)).block,(ad.add (i.toNat * 8)).off+4,none⟩=some (.string (rd_T34 xs i).f3.f1)∧w.cell? ⟨(ad.add (i.toNat * 8)).block,(ad.add (i.toNat * 8)).off+5,none⟩=some (.slice A5 (rd_T34 xs i).f3.f2.length c5)∧w.cell? ⟨(ad.add (i.toNat * 8)).block,(ad.add (i.toNat * 8)).off+6,none⟩=some (.slice A6 (rd_T34 xs i).f4.length c6)∧w.cell? ⟨(ad.add (i.toNat * 8)).block,(ad.add (i.toNat * 8)).off+7,none⟩=some (.int .i64 (rd_T34 xs i).f5)∧(rd_T34 xs i).f3.f2.length≤c5∧k32.C w A5 (rd_T34 xs i).f3.f2.length (rd_T34 xs i).f3.f2∧(rd_T34 xs i).f4.length≤c6∧(Kd.int .i64).C w A6 (rd_T34 xs i).f4.length (rd_T34 xs i).f4:=by
 obtain ⟨ad,c,e,_,hK,hc0⟩:=Kd.C_get h z34 i h0 h1
 have hc:∀ j u,c[j]? = some u→w.cell? (ad.add (i.toNat * 8+j))=some u:=hc0
 obtain ⟨A5,c5,A6,c6,rfl,l5,g5,l6,g6⟩:=k34_open hK
 exact ⟨ad,A5,c5,A6,c6,e,hc 0 _ rfl,za23,za22,by rw [← add_field _ _ 3 (by omega)];exact hc 3 _ rfl,by rw [← add_field _ _ 4 (by omega)];exact hc 4 _ rfl,by rw [← add_field _ _ 5 (by omega)];exact hc 5 _ rfl,by rw [← add_field _ _ 6 (by omega)];exact hc 6 _ rfl,by rw [← add_field _ _ 7 (by omega)];exact hc 7 _ rfl,l5,g5,l6,g6⟩
def laws_szRegexSG.l0 (gF:Nat→Int→ByteArray→List (S24)→Int→Option (Int)):Nat→List (S24)→Int→Int→Option (Int)
 | 0,_,_,_=>none
 | k+1,x0,x1,x5=>if x5 < (x0.length:Int) then (if 0≤x5 then ((gF k ((rd_T24 x0 x5).f0) ((rd_T24 x0 x5).f1) ((rd_T24 x0 x5).f2) x1).bind fun t36002=>(if t36002 < 0 then (some (-1)) else (laws_szRegexSG.l0 gF k x0 t36002 (wrap64 (x5+1))))) else (none)) else (some x1)
def laws_szRegexSG.f (gF:Nat→Int→ByteArray→List (S24)→Int→Option (Int)) (k:Nat) (l0:List (S24)) (a1:Int):Option (Int):=if (wrap64 (a1 - (l0.length:Int))) < 0 then (some (-1)) else (laws_szRegexSG.l0 gF k l0 (wrap64 (a1 - (l0.length:Int))) 0)
theorem laws_szRegexSG.mono_l (gF:Nat→Int→ByteArray→List (S24)→Int→Option (Int)) (gM:∀ a0 a1 a2 a3 k,LeO (gF k a0 a1 a2 a3) (gF (k+1) a0 a1 a2 a3)):∀ k,(∀ y0 y1 y2,LeO (laws_szRegexSG.l0 gF k y0 y1 y2) (laws_szRegexSG.l0 gF (k+1) y0 y1 y2))
 | 0=>fun _ _ _ r h=>by simp [laws_szRegexSG.l0] at h
 | k+1=>by
  have ih0:=laws_szRegexSG.mono_l gF gM k
  ·intro y0 y1 y2
   unfold laws_szRegexSG.l0
   repeat' first
   | with_reducible first|exact ih0 _ _ _|exact gM _ _ _ _ _|exact LeO.refl _|exact LeO.none _|refine LeO.ite ?_ ?_|refine LeO.bind ?_ (fun _=>?_)
theorem laws_szRegexSG.mono (gF:Nat→Int→ByteArray→List (S24)→Int→Option (Int)) (gM:∀ a0 a1 a2 a3 k,LeO (gF k a0 a1 a2 a3) (gF (k+1) a0 a1 a2 a3)):∀ a0 a1 k,LeO (laws_szRegexSG.f gF k a0 a1) (laws_szRegexSG.f gF (k+1) a0 a1):=by
 intro a0 a1 k
 have ih0:=laws_szRegexSG.mono_l gF gM k
 unfold laws_szRegexSG.f
 repeat' first
  | with_reducible first|exact ih0 _ _ _|exact gM _ _ _ _ _|exact LeO.refl _|exact LeO.none _|refine LeO.ite ?_ ?_|refine LeO.bind ?_ (fun _=>?_)
theorem laws_szRegexSG.calls (gF:Nat→Int→ByteArray→List (S24)→Int→Option (Int)) (gC:∀ (k:Nat) (a0_0:Int) (a0_1:ByteArray) (A0_2:Option Addr) (c0_2:Nat) (l0_2:List (S24)) (a1:Int) (r:Int) (w:World) (hr0_2:Kd.C k24 w A0_2 l0_2.length l0_2) (hc0_2:l0_2.length≤c0_2) (h:gF k a0_0 a0_1 l0_2 a1=some r),Calls Tryd.prog 15 #[.agg #[.int .i64 a0_0,.string a0_1,.slice A0_2 l0_2.length c0_2],.int .i64 a1] w fun e w'=>e = .returned (.int .i64 r)∧Below w.heap.size w w') (k:Nat) (A0:Option Addr) (c0:Nat) (l0:List (S24)) (a1:Int) (r:Int) (w:World) (hr0:Kd.C k24 w A0 l0.length l0) (hc0:l0.length≤c0) (h:laws_szRegexSG.f gF k l0 a1=some r) :
  Calls Tryd.prog 36 #[.slice A0 l0.length c0,.int .i64 a1] w fun e w'=>e = .returned (.int .i64 r)∧Below w.heap.size w w':=by
 have hu24:=Tryd.underlying24
 have HR0:=zk hr0
 have HC0:=zk hc0
 clear hr0 hc0
 have HB:=zk (Below.refl w.heap.size w)
 have H:(if (wrap64 (a1 - (l0.length:Int))) < 0 then (some (-1)) else (laws_szRegexSG.l0 gF k l0 (wrap64 (a1 - (l0.length:Int))) 0))=some r:=h
 clear h
 by_cases c3:(wrap64 (a1 - (l0.length:Int))) < 0
 ·rw [if_pos c3] at H
  have c3b0:decide ((wrap64 (a1 - (l0.length:Int))) < 0)=true:=decide_eq_true c3
  have c3w:decide ((IntKind.i64.wrap (a1 - (l0.length:Int))) < 0)=true:=by simp only [i64_w];exact c3b0
  clear c3
  obtain rfl:=zi H
  go_enter Tryd.func36,Tryd.ntmps36
  go_wp2
  go_ret
  exact ⟨za6,za2⟩
 ·rw [if_neg c3] at H
  have c3b0:decide ((wrap64 (a1 - (l0.length:Int))) < 0)=false:=decide_eq_false c3
  have c3w:decide ((IntKind.i64.wrap (a1 - (l0.length:Int))) < 0)=false:=by simp only [i64_w];exact c3b0
  clear c3
  have H':=zk H
  clear H
  go_enter Tryd.func36,Tryd.ntmps36
  go_wp2
  first|go_loopg [1,5] k (fun kq v1 v5 w'=>∃ (x1_1:Int) (x5_1:Int),v1 = .int .i64 x1_1∧v5 = .int .i64 x5_1∧Aside0 (laws_szRegexSG.l0 gF kq l0 x1_1 x5_1=some r)∧Aside0 (kq≤k)∧Aside0 (Below w.heap.size w w'))|(simp only [Act.put,zt,zv,zu];go_loopg [1,5] k (fun kq v1 v5 w'=>∃ (x1_1:Int) (x5_1:Int),v1 = .int .i64 x1_1∧v5 = .int .i64 x5_1∧Aside0 (laws_szRegexSG.l0 gF kq l0 x1_1 x5_1=some r)∧Aside0 (kq≤k)∧Aside0 (Below w.heap.size w w')))
  case atStart=>exact ⟨(wrap64 (a1 - (l0.length:Int))),(0),za7,za7,H',⟨Nat.le_refl _⟩,⟨za2⟩⟩
  case round =>
   clear H'
   try clear c3
   try clear c3b0
   obtain ⟨x1_1,x5_1,rfl,rfl,HA,HK1,HB⟩:=hrel
   cases gk with
   | zero=>exact absurd HA.out (by simp [laws_szRegexSG.l0])
   | succ k1 =>
    have H:=HA.out
    clear HA
    simp only [laws_szRegexSG.l0] at H
    by_cases c4:x5_1 < (l0.length:Int)
    rw [if_pos c4] at H
    have c4b0:decide (x5_1 < (l0.length:Int))=true:=decide_eq_true c4
    clear c4
    by_cases c5:0≤x5_1
    rw [if_pos c5] at H
    have c5b0:decide (0≤x5_1)=true:=decide_eq_true c5
    clear c5
    replace H:=zo H
    obtain ⟨t36002,A60,H⟩:=H
    replace H:(if t36002 < 0 then (some (-1)) else (laws_szRegexSG.l0 gF k1 l0 t36002 (wrap64 (x5_1+1))))=some r:=H
    have A6:=zk A60
    clear A60
    by_cases c7:t36002 < 0
    rw [if_pos c7] at H
    have c7b0:decide (t36002 < 0)=true:=decide_eq_true c7
    clear c7
    obtain rfl:=zi H
    have fin0_:=zk trivial
    rotate_left
    rw [if_neg c7] at H
    have c7b0:decide (t36002 < 0)=false:=decide_eq_false c7
    clear c7
    have H':=zk H
    clear H
    have fin1_:=zk trivial
    rotate_left
    · rw [if_neg c5] at H
      exact absurd H (by simp)
    · rw [if_neg c4] at H
      have c4b0:decide (x5_1 < (l0.length:Int))=false:=decide_eq_false c4
      clear c4
      obtain rfl:=zi H
      go_wp2
      go_ret
      exact ⟨za6,za2⟩
    all_goals
     have p36001:0≤(x5_1:Int):=of_decide_eq_true za8
     have q36001:x5_1 < (l0.length:Int):=of_decide_eq_true za8
     obtain ⟨ad36001,A36001_2,c36001_2,e36001,hx36001_0,hx36001_1,hx36001_2,hl36001_2,hi36001_2⟩:=at_T24 HR0.out x5_1 p36001 q36001
     cases e36001
     replace hx36001_0:=zx HB.out hx36001_0
     replace hx36001_1:=zx HB.out hx36001_1
     replace hx36001_2:=zx HB.out hx36001_2
     have HR36001_2:=zk hi36001_2
     have HC36001_2:=zk hl36001_2
     clear hi36001_2 hl36001_2
     replace p36001:=eq_true p36001
     replace q36001:=eq_true q36001
     go_wp2_with (((with_reducible refine gate_callee (f:=15) rfl ?_);refine goesL_ (some 23) rfl rfl Tryd.func15 (by kernel_rfl) rfl #[.agg #[.int .i64 ((rd_T24 l0 x5_1).f0),.string ((rd_T24 l0 x5_1).f1),.slice A36001_2 ((rd_T24 l0 x5_1).f2).length c36001_2],.int .i64 x1_1] rfl za5 ?_;(with_reducible refine (gC k1 ((rd_T24 l0 x5_1).f0) ((rd_T24 l0 x5_1).f1) _ _ ((rd_T24 l0 x5_1).f2) x1_1 t36002 _ ?side1 ?side2 A6.out).mono ?_);(case side1=>repeat (first|exact (Kd.C_below HR36001_2.out HB.out)|(with_reducible refine Kd.C_alloc ?_ _)|(with_reducible refine Kd.C_drewN ?_ _)|(with_reducible refine Kd.C_drew ?_)));(case side2=>exact HC36001_2.out);rintro e w8 ⟨rfl,hb⟩;refine ⟨_,rfl,?_⟩;have n0_:=zk (below_step za2 hb);clear HB;have HB:=n0_;clear n0_;(try clear hb);(try clear hb2);(try clear hk);(try clear hi)))
     first
     | (
       clear fin0_
       go_ret
       exact ⟨za6,za2⟩)
     | (
       clear fin1_
       go_roundg k1
       case measure=>have:=HK1.out;omega
       case rel=>exact ⟨(t36002),(wrap64 (x5_1+1)),za7,za7,H',⟨za13⟩,⟨za2⟩⟩)
theorem laws_szRegexSG.mono_lg (gF gF2:Nat→Int→ByteArray→List (S24)→Int→Option (Int)) (hg:∀ b0 b1 b2 b3 k,LeO (gF k b0 b1 b2 b3) (gF2 k b0 b1 b2 b3)):∀ k,(∀ y0 y1 y2,LeO (laws_szRegexSG.l0 gF k y0 y1 y2) (laws_szRegexSG.l0 gF2 k y0 y1 y2))
 | 0=>fun _ _ _ r h=>by simp [laws_szRegexSG.l0] at h
 | k+1=>by
  have ih0:=laws_szRegexSG.mono_lg gF gF2 hg k
  ·intro y0 y1 y2
   unfold laws_szRegexSG.l0
   repeat' first
   | (with_reducible exact ih0 _ _ _)
   | (with_reducible exact hg _ _ _ _ _)
   | (with_reducible exact LeO.refl _)
   | (with_reducible exact LeO.none _)
   | (with_reducible refine LeO.ite ?_ ?_)
   | (with_reducible refine LeO.bind ?_ (fun _=>?_))
   | exact hg _ _ _ _ _
theorem laws_szRegexSG.monog (gF gF2:Nat→Int→ByteArray→List (S24)→Int→Option (Int)) (hg:∀ b0 b1 b2 b3 k,LeO (gF k b0 b1 b2 b3) (gF2 k b0 b1 b2 b3)):∀ a0 a1 k,LeO (laws_szRegexSG.f gF k a0 a1) (laws_szRegexSG.f gF2 k a0 a1):=by
 intro a0 a1 k
 have ih0:=laws_szRegexSG.mono_lg gF gF2 hg k
 unfold laws_szRegexSG.f
 repeat' first
  | (with_reducible exact ih0 _ _ _)
  | (with_reducible exact hg _ _ _ _ _)
  | (with_reducible exact LeO.refl _)
  | (with_reducible exact LeO.none _)
  | (with_reducible refine LeO.ite ?_ ?_)
  | (with_reducible refine LeO.bind ?_ (fun _=>?_))
  | exact hg _ _ _ _ _
def laws_szRegexG.f (gF:Nat→Int→ByteArray→List (S24)→Int→Option (Int)) (k:Nat) (a0_0:Int) (a0_1:ByteArray) (l0_2:List (S24)) (a1:Int):Option (Int):=if (wrap64 (a1 - (a0_1.size:Int))) < 0 then (some (-1)) else ((laws_szRegexSG.f gF k l0_2 (wrap64 (a1 - (a0_1.size:Int)))).bind fun t15002=>(if t15002 < 0 then (some (-1)) else (some t15002)))
theorem laws_szRegexG.mono (gF:Nat→Int→ByteArray→List (S24)→Int→Option (Int)) (gM:∀ a0 a1 a2 a3 k,LeO (gF k a0 a1 a2 a3) (gF (k+1) a0 a1 a2 a3)):∀ a0 a1 a2 a3 k,LeO (laws_szRegexG.f gF k a0 a1 a2 a3) (laws_szRegexG.f gF (k+1) a0 a1 a2 a3):=by
 intro a0 a1 a2 a3 k
 unfold laws_szRegexG.f
 repeat' first
  | with_reducible first|exact laws_szRegexSG.mono gF gM _ _ _|exact LeO.refl _|exact LeO.none _|refine LeO.ite ?_ ?_|refine LeO.bind ?_ (fun _=>?_)
theorem laws_szRegexG.calls (gF:Nat→Int→ByteArray→List (S24)→Int→Option (Int)) (gC:∀ (k:Nat) (a0_0:Int) (a0_1:ByteArray) (A0_2:Option Addr) (c0_2:Nat) (l0_2:List (S24)) (a1:Int) (r:Int) (w:World) (hr0_2:Kd.C k24 w A0_2 l0_2.length l0_2) (hc0_2:l0_2.length≤c0_2) (h:gF k a0_0 a0_1 l0_2 a1=some r),Calls Tryd.prog 15 #[.agg #[.int .i64 a0_0,.string a0_1,.slice A0_2 l0_2.length c0_2],.int .i64 a1] w fun e w'=>e = .returned (.int .i64 r)∧Below w.heap.size w w') (k:Nat) (a0_0:Int) (a0_1:ByteArray) (A0_2:Option Addr) (c0_2:Nat) (l0_2:List (S24)) (a1:Int) (r:Int) (w:World) (hr0_2:Kd.C k24 w A0_2 l0_2.length l0_2) (hc0_2:l0_2.length≤c0_2) (h:laws_szRegexG.f gF k a0_0 a0_1 l0_2 a1=some r) :
   Calls Tryd.prog 15 #[.agg #[.int .i64 a0_0,.string a0_1,.slice A0_2 l0_2.length c0_2],.int .i64 a1] w fun e w'=>e = .returned (.int .i64 r)∧Below w.heap.size w w':=by
 have hu24:=Tryd.underlying24
 have HR0_2:=zk hr0_2
 have HC0_2:=zk hc0_2
 clear hr0_2 hc0_2
 have HB:=zk (Below.refl w.heap.size w)
 have H:(if (wrap64 (a1 - (a0_1.size:Int))) < 0 then (some (-1)) else ((laws_szRegexSG.f gF k l0_2 (wrap64 (a1 - (a0_1.size:Int)))).bind fun t15002=>(if t15002 < 0 then (some (-1)) else (some t15002))))=some r:=h
 clear h
 by_cases c3:(wrap64 (a1 - (a0_1.size:Int))) < 0
 rw [if_pos c3] at H
 have c3b0:decide ((wrap64 (a1 - (a0_1.size:Int))) < 0)=true:=decide_eq_true c3
 have c3w:decide ((IntKind.i64.wrap (a1 - (a0_1.size:Int))) < 0)=true:=by simp only [i64_w];exact c3b0
 clear c3
 rotate_left
 rw [if_neg c3] at H
 have c3b0:decide ((wrap64 (a1 - (a0_1.size:Int))) < 0)=false:=decide_eq_false c3
 have c3w:decide ((IntKind.i64.wrap (a1 - (a0_1.size:Int))) < 0)=false:=by simp only [i64_w];exact c3b0
 clear c3
 replace H:=zo H
 obtain ⟨t15002,A60,H⟩:=H
 replace H:(if t15002 < 0 then (some (-1)) else (some t15002))=some r:=H
 have A6:=zk A60
 clear A60
 by_cases c7:t15002 < 0
 rw [if_pos c7] at H
 have c7b0:decide (t15002 < 0)=true:=decide_eq_true c7
 clear c7
 rotate_left
 rw [if_neg c7] at H
 have c7b0:decide (t15002 < 0)=false:=decide_eq_false c7
 clear c7
 rotate_left
 all_goals
  obtain rfl:=zi H
  go_enter Tryd.func15,Tryd.ntmps15
  go_wp2_with (first|((with_reducible refine gate_dst (N:=2) rfl ?_);refine zE (N:=2) (cs:=#[.int .i64 a0_0,.string a0_1,.slice A0_2 l0_2.length c0_2]) (t:=24) ?_;intro gb15001 hg w11 hbox hb;have n0_:=zk (below_step za2 hb);have n1_:=zk (hbox);have n2_:=zk (zs (w:=w) hg za2);have n3_:=zk (zs (w:=w) hg za2);clear HB;have HB:=n0_;have BK15001:=n1_;have GW15001:=n2_;have GE15001:=n3_;clear n0_ n1_ n2_ n3_;clear hb hbox hg;obtain ⟨hcz12_0,hcz12_1,hcz12_2,hfz12_0,hfz12_1,hfz12_2⟩:=blk3 BK15001.out)|((with_reducible refine gate_callee (f:=36) rfl ?_);refine goesL_ (some 15) rfl rfl Tryd.func36 (by kernel_rfl) rfl #[.slice A0_2 l0_2.length c0_2,.int .i64 (wrap64 (a1 - (a0_1.size:Int)))] rfl za5 ?_;(with_reducible refine (laws_szRegexSG.calls gF gC k _ _ l0_2 (wrap64 (a1 - (a0_1.size:Int))) t15002 _ ?side1 ?side2 A6.out).mono ?_);(case side1=>repeat (first|exact (Kd.C_below HR0_2.out HB.out)|(with_reducible refine Kd.C_alloc ?_ _)|(with_reducible refine Kd.C_drewN ?_ _)|(with_reducible refine Kd.C_drew ?_)));(case side2=>exact HC0_2.out);rintro e w13 ⟨rfl,hb⟩;refine ⟨_,rfl,?_⟩;have n0_:=zk (zb BK15001.out hb);have n1_:=zk (below_step za2 hb);clear BK15001;clear HB;have BK15001:=n0_;have HB:=n1_;clear n0_ n1_;(try clear hb);(try clear hb2);(try clear hk);(try clear hi)))
  go_ret
  exact ⟨za6,za2⟩
theorem laws_szRegexG.monog (gF gF2:Nat→Int→ByteArray→List (S24)→Int→Option (Int)) (hg:∀ b0 b1 b2 b3 k,LeO (gF k b0 b1 b2 b3) (gF2 k b0 b1 b2 b3)):∀ a0 a1 a2 a3 k,LeO (laws_szRegexG.f gF k a0 a1 a2 a3) (laws_szRegexG.f gF2 k a0 a1 a2 a3):=by
 intro a0 a1 a2 a3 k
 unfold laws_szRegexG.f
 repeat' first
  | (with_reducible exact laws_szRegexSG.monog gF gF2 hg _ _ _)
  | (with_reducible exact LeO.refl _)
  | (with_reducible exact LeO.none _)
  | (with_reducible refine LeO.ite ?_ ?_)
  | (with_reducible refine LeO.bind ?_ (fun _=>?_))
  | exact laws_szRegexSG.monog gF gF2 hg _ _ _
def laws_szRegex.f:Nat→Int→ByteArray→List (S24)→Int→Option (Int)
 | 0,_,_,_,_=>none
 | K+1,a0_,a1_,a2_,a3_=>laws_szRegexG.f (fun _=>laws_szRegex.f K) K a0_ a1_ a2_ a3_
theorem laws_szRegex.mono:∀ a0 a1 a2 a3 k,LeO (laws_szRegex.f k a0 a1 a2 a3) (laws_szRegex.f (k+1) a0 a1 a2 a3):=by
 intro a0_ a1_ a2_ a3_ k
 induction k generalizing a0_ a1_ a2_ a3_ with
 | zero=>exact LeO.none _
 | succ K ih =>
  intro r h
  have h1:=laws_szRegexG.monog (fun _=>laws_szRegex.f K) (fun _=>laws_szRegex.f (K+1)) (fun a0_ a1_ a2_ a3_ k=>ih a0_ a1_ a2_ a3_) a0_ a1_ a2_ a3_ K r h
  exact laws_szRegexG.mono (fun _=>laws_szRegex.f (K+1)) (fun a0_ a1_ a2_ a3_ k=>LeO.refl _) a0_ a1_ a2_ a3_ K r h1
theorem laws_szRegex.calls (k:Nat) (a0_0:Int) (a0_1:ByteArray) (A0_2:Option Addr) (c0_2:Nat) (l0_2:List (S24)) (a1:Int) (r:Int) (w:World) (hr0_2:Kd.C k24 w A0_2 l0_2.length l0_2) (hc0_2:l0_2.length≤c0_2) (h:laws_szRegex.f k a0_0 a0_1 l0_2 a1=some r) :
  Calls Tryd.prog 15 #[.agg #[.int .i64 a0_0,.string a0_1,.slice A0_2 l0_2.length c0_2],.int .i64 a1] w fun e w'=>e = .returned (.int .i64 r)∧Below w.heap.size w w':=by
 induction k generalizing a0_0 a0_1 A0_2 c0_2 l0_2 a1 r w hr0_2 hc0_2 with
 | zero=>exact absurd h (by simp [laws_szRegex.f])
 | succ K ih=>exact laws_szRegexG.calls (fun _=>laws_szRegex.f K) (fun k a0_0 a0_1 A0_2 c0_2 l0_2 a1 r w hr0_2 hc0_2 h=>ih a0_0 a0_1 A0_2 c0_2 l0_2 a1 r w hr0_2 hc0_2 h) K a0_0 a0_1 A0_2 c0_2 l0_2 a1 r w hr0_2 hc0_2 h
def laws_szRegexS.f (k:Nat) (l0:List (S24)) (a1:Int):Option (Int):=laws_szRegexSG.f laws_szRegex.f k l0 a1
theorem laws_szRegexS.mono:∀ a0 a1 k,LeO (laws_szRegexS.f k a0 a1) (laws_szRegexS.f (k+1) a0 a1):=laws_szRegexSG.mono laws_szRegex.f laws_szRegex.mono
theorem laws_szRegexS.calls (k:Nat) (A0:Option Addr) (c0:Nat) (l0:List (S24)) (a1:Int) (r:Int) (w:World) (hr0:Kd.C k24 w A0 l0.length l0) (hc0:l0.length≤c0) (h:laws_szRegexS.f k l0 a1=some r) :
 Calls Tryd.prog 36 #[.slice A0 l0.length c0,.int .i64 a1] w fun e w'=>e = .returned (.int .i64 r)∧Below w.heap.size w w':=laws_szRegexSG.calls laws_szRegex.f laws_szRegex.calls k A0 c0 l0 a1 r w hr0 hc0 h
def laws_toRegexSG.l0 (gF:Nat→Int→ByteArray→List (S24)→Option (Int × ByteArray × (List (S32)))):Nat→List (S24)→List (S32)→Int→Option ((List (S32)))
 | 0,_,_,_=>none
 | k+1,x0,x3,x4=>if x4 < (x0.length:Int) then (if 0≤x4 then ((gF k ((rd_T24 x0 x4).f0) ((rd_T24 x0 x4).f1) ((rd_T24 x0 x4).f2)).bind fun bt43005=>(if x4 < (x3.length:Int) then (laws_toRegexSG.l0 gF k x0 (x3.set (x4:Int).toNat (⟨bt43005.1,bt43005.2.1,bt43005.2.2⟩:S32)) (wrap64 (x4+1))) else (none))) else (none)) else (some x3)
def laws_toRegexSG.f (gF:Nat→Int→ByteArray→List (S24)→Option (Int × ByteArray × (List (S32)))) (k:Nat) (l0:List (S24)):Option ((List (S32))):=if 0≤(l0.length:Int) then (if ((l0.length:Int):Int).toNat≤5864062014805 then (laws_toRegexSG.l0 gF k l0 (List.replicate ((l0.length:Int):Int).toNat z32) 0) else (none)) else (none)
theorem laws_toRegexSG.mono_l (gF:Nat→Int→ByteArray→List (S24)→Option (Int × ByteArray × (List (S32)))) (gM:∀ a0 a1 a2 k,LeO (gF k a0 a1 a2) (gF (k+1) a0 a1 a2)):∀ k,(∀ y0 y1 y2,LeO (laws_toRegexSG.l0 gF k y0 y1 y2) (laws_toRegexSG.l0 gF (k+1) y0 y1 y2))
 | 0=>fun _ _ _ r h=>by simp [laws_toRegexSG.l0] at h
 | k+1=>by
  have ih0:=laws_toRegexSG.mono_l gF gM k
  ·intro y0 y1 y2
   unfold laws_toRegexSG.l0
   repeat' first
   | with_reducible first|exact ih0 _ _ _|exact gM _ _ _ _|exact LeO.refl _|exact LeO.none _|refine LeO.ite ?_ ?_|refine LeO.bind ?_ (fun _=>?_)
theorem laws_toRegexSG.mono (gF:Nat→Int→ByteArray→List (S24)→Option (Int × ByteArray × (List (S32)))) (gM:∀ a0 a1 a2 k,LeO (gF k a0 a1 a2) (gF (k+1) a0 a1 a2)):∀ a0 k,LeO (laws_toRegexSG.f gF k a0) (laws_toRegexSG.f gF (k+1) a0):=by
 intro a0 k
 have ih0:=laws_toRegexSG.mono_l gF gM k
 unfold laws_toRegexSG.f
 repeat' first
  | with_reducible first|exact ih0 _ _ _|exact gM _ _ _ _|exact LeO.refl _|exact LeO.none _|refine LeO.ite ?_ ?_|refine LeO.bind ?_ (fun _=>?_)
theorem laws_toRegexSG.calls (gF:Nat→Int→ByteArray→List (S24)→Option (Int × ByteArray × (List (S32)))) (gC:∀ (k:Nat) (a0_0:Int) (a0_1:ByteArray) (A0_2:Option Addr) (c0_2:Nat) (l0_2:List (S24)) (r1:Int) (r2:ByteArray) (r3:List (S32)) (w:World) (hr0_2:Kd.C k24 w A0_2 l0_2.length l0_2) (hc0_2:l0_2.length≤c0_2) (h:gF k a0_0 a0_1 l0_2=some (r1,r2,r3)),Calls Tryd.prog 21 #[.agg #[.int .i64 a0_0,.string a0_1,.slice A0_2 l0_2.length c0_2]] w fun e w'=>∃ v2_:Value,e = .returned (.agg #[.int .i64 r1,.string r2,v2_])∧Kd.R k32 32 w' w.heap.size (fun _=>True) v2_ r3∧Below w.heap.size w w') (k:Nat) (A0:Option Addr) (c0:Nat) (l0:List (S24)) (r:List (S32)) (w:World) (hr0:Kd.C k24 w A0 l0.length l0) (hc0:l0.length≤c0) (h:laws_toRegexSG.f gF k l0=some r) :
  Calls Tryd.prog 43 #[.slice A0 l0.length c0] w fun e w'=>∃ v0_:Value,e = .returned (v0_)∧Kd.R k32 32 w' w.heap.size (fun _=>True) v0_ r∧Below w.heap.size w w':=by
 have hu24:=Tryd.underlying24
 have hu32:=Tryd.underlying32
 have HR0:=zk hr0
 have HC0:=zk hc0
 clear hr0 hc0
 have HB:=zk (Below.refl w.heap.size w)
 have H:(if 0≤(l0.length:Int) then (if ((l0.length:Int):Int).toNat≤5864062014805 then (laws_toRegexSG.l0 gF k l0 (List.replicate ((l0.length:Int):Int).toNat z32) 0) else (none)) else (none))=some r:=h
 clear h
 by_cases c2:0≤(l0.length:Int)
 rw [if_pos c2] at H
 have c2b0:=eq_true c2
 have c2b1:decide (0≤(l0.length:Int))=true:=decide_eq_true c2
 clear c2
 by_cases c3:((l0.length:Int):Int).toNat≤5864062014805
 ·rw [if_pos c3] at H
  have c3b0:=eq_true c3
  have c3b1:decide (((l0.length:Int):Int).toNat≤5864062014805)=true:=decide_eq_true c3
  clear c3
  obtain ⟨y43001,hy43001⟩:∃ y_:List (S32),y_=(List.replicate ((l0.length:Int):Int).toNat z32):=⟨_,rfl⟩
  replace H:(laws_toRegexSG.l0 gF k l0 y43001 0)=some r:=by first|(rw [hy43001];with_reducible exact H)|(have H2_:=(Option.bind_some _ _).symm.trans H;rw [hy43001];with_reducible exact H2_)|(have H2_:=(Option.bind_some _ _).symm.trans H;with_reducible exact H2_)|with_reducible exact H|(rw [hy43001];exact H)|exact H
  have Ny43001:=zk hy43001
  clear hy43001
  have H':=zk H
  clear H
  go_enter Tryd.func43,Tryd.ntmps43
  go_wp2_with (first|((with_reducible refine gate_dst (N:=7) rfl ?_);refine Kd.R_make k32 _ 32 rfl (N:=7) rfl 30 _ _ rfl (l0.length:Int) rfl rfl Tryd.underlying30 (.agg #[(.int .i64 0),(.string ⟨#[]⟩),(.slice none 0 0)]) 48 info32 rfl (by decide) (by omega) z32 (ok:=fun _=>True) (okp:=fun _=>True) (k32_mkM _ _ _ z32 (Kd.R_nil _ _ _ _ _)) (fun _ hk=>hk) trivial (of_decide_eq_true za8) (Nat.le_trans (Nat.mul_le_mul_right _ (of_decide_eq_true za8:(l0.length:Int).toNat≤5864062014805)) (by omega)) (Below.refl _ _) (Nat.le_refl _) ?_;intro v43002 w4 ho5 hb hg_ hnew_;clear hg_ hnew_;(first|rw [← Ny43001.out] at ho5|(simp only [Int.reduceToNat] at ho5;rw [← Ny43001.out] at ho5));have n0_:=zk (Kd.R_lower ho5 (below_size za2));have n1_:=zk (below_step za2 hb);clear HB;have HO43003:=n0_;have HB:=n1_;clear n0_ n1_;clear hb ho5))
  first|go_loopg [4] k (fun kq v4 w'=>∃ (x3_1:List (S32)) (x4_1:Int),v4 = .int .i64 x4_1∧Aside0 (laws_toRegexSG.l0 gF kq l0 x3_1 x4_1=some r)∧Aside0 (kq≤k)∧Aside0 (Kd.R k32 32 w' w.heap.size (fun _=>True) v43002 x3_1)∧Aside0 (Below w.heap.size w w'))|(simp only [Act.put,zt,zv,zu];go_loopg [4] k (fun kq v4 w'=>∃ (x3_1:List (S32)) (x4_1:Int),v4 = .int .i64 x4_1∧Aside0 (laws_toRegexSG.l0 gF kq l0 x3_1 x4_1=some r)∧Aside0 (kq≤k)∧Aside0 (Kd.R k32 32 w' w.heap.size (fun _=>True) v43002 x3_1)∧Aside0 (Below w.heap.size w w')))
  case atStart=>exact ⟨(y43001),(0),za7,H',⟨Nat.le_refl _⟩,⟨za1 HO43003.out⟩,⟨za2⟩⟩
  case round =>
   clear H'
   try clear c3
   try clear c3b0
   try clear c3b1
   obtain ⟨x3_1,x4_1,rfl,HA,HK1,HO_3,HB⟩:=hrel
   cases gk with
   | zero=>exact absurd HA.out (by simp [laws_toRegexSG.l0])
   | succ k1 =>
    have H:=HA.out
    clear HA
    simp only [laws_toRegexSG.l0] at H
    by_cases c6:x4_1 < (l0.length:Int)
    rw [if_pos c6] at H
    have c6b0:decide (x4_1 < (l0.length:Int))=true:=decide_eq_true c6
    clear c6
    by_cases c7:0≤x4_1
    rw [if_pos c7] at H
    have c7b0:decide (0≤x4_1)=true:=decide_eq_true c7
    clear c7
    replace H:=zo H
    obtain ⟨⟨t43005,t43006,t43007⟩,A80,H⟩:=H
    replace H:(if x4_1 < (x3_1.length:Int) then (laws_toRegexSG.l0 gF k1 l0 (x3_1.set (x4_1:Int).toNat (⟨t43005,t43006,t43007⟩:S32)) (wrap64 (x4_1+1))) else (none))=some r:=H
    have A8:=zk A80
    clear A80
    by_cases c9:x4_1 < (x3_1.length:Int)
    ·rw [if_pos c9] at H
     have c9b0:decide (x4_1 < (x3_1.length:Int))=true:=decide_eq_true c9
     clear c9
     obtain ⟨y43010,hy43010⟩:∃ y_:List (S32),y_=(x3_1.set (x4_1:Int).toNat (⟨t43005,t43006,t43007⟩:S32)):=⟨_,rfl⟩
     replace H:(laws_toRegexSG.l0 gF k1 l0 y43010 (wrap64 (x4_1+1)))=some r:=by first|(rw [hy43010];with_reducible exact H)|(have H2_:=(Option.bind_some _ _).symm.trans H;rw [hy43010];with_reducible exact H2_)|(have H2_:=(Option.bind_some _ _).symm.trans H;with_reducible exact H2_)|with_reducible exact H|(rw [hy43010];exact H)|exact H
     have Ny43010:=zk hy43010
     clear hy43010
     have H':=zk H
     clear H
     have p43004:0≤(x4_1:Int):=of_decide_eq_true za8
     have q43004:x4_1 < (l0.length:Int):=of_decide_eq_true za8
     obtain ⟨ad43004,A43004_2,c43004_2,e43004,hx43004_0,hx43004_1,hx43004_2,hl43004_2,hi43004_2⟩:=at_T24 HR0.out x4_1 p43004 q43004
     cases e43004
     replace hx43004_0:=zx HB.out hx43004_0
     replace hx43004_1:=zx HB.out hx43004_1
     replace hx43004_2:=zx HB.out hx43004_2
     have HR43004_2:=zk hi43004_2
     have HC43004_2:=zk hl43004_2
     clear hi43004_2 hl43004_2
     replace p43004:=eq_true p43004
     replace q43004:=eq_true q43004
     go_wp2_with (first|((with_reducible refine gate_callee (f:=21) rfl ?_);refine goesL_ (some 20) rfl rfl Tryd.func21 (by kernel_rfl) rfl #[.agg #[.int .i64 ((rd_T24 l0 x4_1).f0),.string ((rd_T24 l0 x4_1).f1),.slice A43004_2 ((rd_T24 l0 x4_1).f2).length c43004_2]] rfl za5 ?_;(with_reducible refine (gC k1 ((rd_T24 l0 x4_1).f0) ((rd_T24 l0 x4_1).f1) _ _ ((rd_T24 l0 x4_1).f2) t43005 t43006 t43007 _ ?side1 ?side2 A8.out).mono ?_);(case side1=>repeat (first|exact (Kd.C_below HR43004_2.out HB.out)|(with_reducible refine Kd.C_alloc ?_ _)|(with_reducible refine Kd.C_drewN ?_ _)|(with_reducible refine Kd.C_drew ?_)));(case side2=>exact HC43004_2.out);rintro e w11 ⟨v43008,rfl,ho0,hb⟩;refine ⟨_,rfl,?_⟩;have n0_:=zk (Kd.R_elder' (za1 HO_3.out) (Kd.R_base ho0) hb);have n1_:=zk (Kd.R_lower (Kd.R_new' ho0 (Kd.R_lt (za1 HO_3.out))) (below_size za2));have n2_:=zk (below_step za2 hb);clear HO_3;clear HB;have HO_3:=n0_;have HO43009:=n1_;have HB:=n2_;clear n0_ n1_ n2_;(try clear hb);(try clear hb2);(try clear hk);(try clear hi);(try clear ho0);have p10:0≤(x4_1:Int):=of_decide_eq_true za8;have q10:(x4_1:Int) < ((x3_1.length:Int):Int):=of_decide_eq_true za8;obtain ⟨go10,co10,eo10,gb10,gl10,cl10,HG10⟩:=Kd.R_form HO_3.out (by omega);(first|cases eo10|(injection eo10 with ea_ en_ ec_;(first|subst ea_|(injection ea_ with ea_;subst ea_));subst ec_;clear en_));have GB10:=zk gb10;have GG10:=zk HG10;clear gb10 gl10 HG10;obtain ⟨ce10,hcl10,hM10,hcc10,hfr10⟩:=Kd.R_elem HO_3.out z32 (x4_1:Int) p10 q10;obtain ⟨ve10_2,rfl,ge10_2⟩:=k32_openM hM10;have hx10_0:w11.cell? ⟨go10,(x4_1:Int).toNat * 3,none⟩=some (.int .i64 ((rd_T32 x3_1 x4_1).f0)):=hcc10 0 _ rfl;have hx10_1:w11.cell? ⟨go10,(x4_1:Int).toNat * 3+1,none⟩=some (.string ((rd_T32 x3_1 x4_1).f1)):=hcc10 1 _ rfl;have hx10_2:w11.cell? ⟨go10,(x4_1:Int).toNat * 3+2,none⟩=some (ve10_2):=hcc10 2 _ rfl;have hf10_0:w11.frozen? ⟨go10,(x4_1:Int).toNat * 3,none⟩=false:=hfr10 0;have hf10_1:w11.frozen? ⟨go10,(x4_1:Int).toNat * 3+1,none⟩=false:=hfr10 1;have hf10_2:w11.frozen? ⟨go10,(x4_1:Int).toNat * 3+2,none⟩=false:=hfr10 2;clear hcl10 hcc10 hfr10;(try clear hM10);replace p10:=eq_true p10;replace q10:=eq_true q10;have n_:=zk (Kd.R_mono (ok':=(fun k_=>some k_ ≠ (v43008:Value).ownBlock)) HO_3.out (fun k_ hk=>hk.2));clear HO_3;have HO_3:=n_;clear n_;have HX12:=zk (show Kd.R k32 32 w11 w.heap.size (fun _=>True) (.slice (some ⟨go10,0,none⟩) x3_1.length co10) x3_1 from (by (with_reducible repeat (first|apply Kd.R_alloc|apply Kd.R_drewN|apply Kd.R_drew));exact Kd.R_mono HO_3.out (fun _ hk=>trivial)));obtain ⟨ce12,hcl12,hM12,hcc12,hfr12⟩:=Kd.R_elem HX12.out z32 (x4_1:Int) (of_decide_eq_true za8) (by have h_:(x4_1:Int) < ((x3_1.length:Int):Int):=of_decide_eq_true za8;first|exact h_|(have e_:=(Kd.R_reads' HO_3.out).1;omega)|simpa using h_);obtain ⟨ve12_2,rfl,ge12_2⟩:=k32_openM hM12;have HP12:=Kd.R_seg HX12.out (x4_1:Int) (of_decide_eq_true za8) (by have h_:(x4_1:Int) < ((x3_1.length:Int):Int):=of_decide_eq_true za8;first|exact h_|(have e_:=(Kd.R_reads' HO_3.out).1;omega)|simpa using h_) (seg:=[.int .i64 t43005,.string t43006,v43008]) (j:=0) hcl12 hcc12 (show 3≤3 from by decide) (x':=(⟨t43005,t43006,t43007⟩:S32)) (k32_mkM _ _ _ (⟨t43005,t43006,t43007⟩:S32) (Kd.R_mono (HO43009.out) (fun k_ hk=>⟨trivial,fun e_=>(hk.2) (by rw [e_];rfl)⟩))) (fun _ hk=>hk);have hx12_0:=hcc12 0 _ rfl;(try simp only [show (k32).sz=3 from rfl,Nat.mul_one,Nat.add_zero] at hx12_0);have hf12_0:=hfr12 0;(try simp only [show (k32).sz=3 from rfl,Nat.mul_one,Nat.add_zero] at hf12_0);have hx12_1:=hcc12 1 _ rfl;(try simp only [show (k32).sz=3 from rfl,Nat.mul_one,Nat.add_zero] at hx12_1);have hf12_1:=hfr12 1;(try simp only [show (k32).sz=3 from rfl,Nat.mul_one,Nat.add_zero] at hf12_1);have hx12_2:=hcc12 2 _ rfl;(try simp only [show (k32).sz=3 from rfl,Nat.mul_one,Nat.add_zero] at hx12_2);have hf12_2:=hfr12 2;(try simp only [show (k32).sz=3 from rfl,Nat.mul_one,Nat.add_zero] at hf12_2);clear hcl12 hcc12 hfr12;(try clear hM12))|((with_reducible refine gate_store (t:=32) (p:=21) rfl ?_);refine store_event (t:=32) (p:=21) (v:=?vo_w13) (w1:=(((w11.setCell ⟨go10,(x4_1:Int).toNat * 3,none⟩ (.int .i64 t43005)).setCell ⟨go10,(x4_1:Int).toNat * 3+1,none⟩ (.string t43006)).setCell ⟨go10,(x4_1:Int).toNat * 3+2,none⟩ (v43008))) ?hg ?ho ?hn ?hr ?_;(case ho=>rfl);(case hg=>rfl);(case hn=>rfl);(case hr=>first|(go_simp;done)|(go_simp;rfl)|(obtain ⟨sA_,sc_,se_⟩:=Kd.R_slice HO43009.out;subst se_;first|(go_simp;done)|(go_simp;rfl)));intro w13 hw;have hg:w11.grownBy w13 (some go10):=(by rw [hw];exact HP12.2);have hp_:Kd.R k32 32 w13 w.heap.size (fun _=>True) (.slice (some ⟨go10,0,none⟩) x3_1.length co10) y43010:=(by rw [hw,Ny43010.out];exact HP12.1);clear HP12;have n0_:=zk (hp_);have n1_:=zk ((by rw [hw];exact below_set (below_set (below_set (HB.out) GB10.out) GB10.out) GB10.out:Below w.heap.size w w13));clear HO_3;clear HB;clear HO43009;have HO_3:=n0_;have HB:=n1_;clear n0_ n1_;clear hg hw hp_))
     go_roundg k1
     case measure=>have:=HK1.out;omega
     case rel=>exact ⟨(y43010),(wrap64 (x4_1+1)),za7,H',⟨za13⟩,⟨za1 HO_3.out⟩,⟨za2⟩⟩
    ·rw [if_neg c9] at H
     exact absurd H (by simp)
    ·rw [if_neg c7] at H
     exact absurd H (by simp)
    ·rw [if_neg c6] at H
     have c6b0:decide (x4_1 < (l0.length:Int))=false:=decide_eq_false c6
     clear c6
     obtain rfl:=zi H
     go_wp2
     go_ret
     exact ⟨_,za6,za1 HO_3.out,za2⟩
 ·rw [if_neg c3] at H
  exact absurd H (by simp)
 ·rw [if_neg c2] at H
  exact absurd H (by simp)
theorem laws_toRegexSG.mono_lg (gF gF2:Nat→Int→ByteArray→List (S24)→Option (Int × ByteArray × (List (S32)))) (hg:∀ b0 b1 b2 k,LeO (gF k b0 b1 b2) (gF2 k b0 b1 b2)):∀ k,(∀ y0 y1 y2,LeO (laws_toRegexSG.l0 gF k y0 y1 y2) (laws_toRegexSG.l0 gF2 k y0 y1 y2))
 | 0=>fun _ _ _ r h=>by simp [laws_toRegexSG.l0] at h
 | k+1=>by
  have ih0:=laws_toRegexSG.mono_lg gF gF2 hg k
  ·intro y0 y1 y2
   unfold laws_toRegexSG.l0
   repeat' first
   | (with_reducible exact ih0 _ _ _)
   | (with_reducible exact hg _ _ _ _)
   | (with_reducible exact LeO.refl _)
   | (with_reducible exact LeO.none _)
   | (with_reducible refine LeO.ite ?_ ?_)
   | (with_reducible refine LeO.bind ?_ (fun _=>?_))
   | exact hg _ _ _ _
theorem laws_toRegexSG.monog (gF gF2:Nat→Int→ByteArray→List (S24)→Option (Int × ByteArray × (List (S32)))) (hg:∀ b0 b1 b2 k,LeO (gF k b0 b1 b2) (gF2 k b0 b1 b2)):∀ a0 k,LeO (laws_toRegexSG.f gF k a0) (laws_toRegexSG.f gF2 k a0):=by
 intro a0 k
 have ih0:=laws_toRegexSG.mono_lg gF gF2 hg k
 unfold laws_toRegexSG.f
 repeat' first
  | (with_reducible exact ih0 _ _ _)
  | (with_reducible exact hg _ _ _ _)
  | (with_reducible exact LeO.refl _)
  | (with_reducible exact LeO.none _)
  | (with_reducible refine LeO.ite ?_ ?_)
  | (with_reducible refine LeO.bind ?_ (fun _=>?_))
  | exact hg _ _ _ _
def laws_toRegexG.f (gF:Nat→Int→ByteArray→List (S24)→Option (Int × ByteArray × (List (S32)))) (k:Nat) (a0_0:Int) (a0_1:ByteArray) (l0_2:List (S24)):Option (Int × ByteArray × (List (S32))):=(laws_toRegexSG.f gF k l0_2).bind fun t21004=>(some (a0_0,a0_1,t21004))
theorem laws_toRegexG.mono (gF:Nat→Int→ByteArray→List (S24)→Option (Int × ByteArray × (List (S32)))) (gM:∀ a0 a1 a2 k,LeO (gF k a0 a1 a2) (gF (k+1) a0 a1 a2)):∀ a0 a1 a2 k,LeO (laws_toRegexG.f gF k a0 a1 a2) (laws_toRegexG.f gF (k+1) a0 a1 a2):=by
 intro a0 a1 a2 k
 unfold laws_toRegexG.f
 repeat' first
  | with_reducible first|exact laws_toRegexSG.mono gF gM _ _|exact LeO.refl _|exact LeO.none _|refine LeO.ite ?_ ?_|refine LeO.bind ?_ (fun _=>?_)
theorem laws_toRegexG.calls (gF:Nat→Int→ByteArray→List (S24)→Option (Int × ByteArray × (List (S32)))) (gC:∀ (k:Nat) (a0_0:Int) (a0_1:ByteArray) (A0_2:Option Addr) (c0_2:Nat) (l0_2:List (S24)) (r1:Int) (r2:ByteArray) (r3:List (S32)) (w:World) (hr0_2:Kd.C k24 w A0_2 l0_2.length l0_2) (hc0_2:l0_2.length≤c0_2) (h:gF k a0_0 a0_1 l0_2=some (r1,r2,r3)),Calls Tryd.prog 21 #[.agg #[.int .i64 a0_0,.string a0_1,.slice A0_2 l0_2.length c0_2]] w fun e w'=>∃ v2_:Value,e = .returned (.agg #[.int .i64 r1,.string r2,v2_])∧Kd.R k32 32 w' w.heap.size (fun _=>True) v2_ r3∧Below w.heap.size w w') (k:Nat) (a0_0:Int) (a0_1:ByteArray) (A0_2:Option Addr) (c0_2:Nat) (l0_2:List (S24)) (r1:Int) (r2:ByteArray) (r3:List (S32)) (w:World) (hr0_2:Kd.C k24 w A0_2 l0_2.length l0_2) (hc0_2:l0_2.length≤c0_2) (h:laws_toRegexG.f gF k a0_0 a0_1 l0_2=some (r1,r2,r3)) :
  Calls Tryd.prog 21 #[.agg #[.int .i64 a0_0,.string a0_1,.slice A0_2 l0_2.length c0_2]] w fun e w'=>∃ v2_:Value,e = .returned (.agg #[.int .i64 r1,.string r2,v2_])∧Kd.R k32 32 w' w.heap.size (fun _=>True) v2_ r3∧Below w.heap.size w w':=by
 have hu24:=Tryd.underlying24
 have hu32:=Tryd.underlying32
 have HR0_2:=zk hr0_2
 have HC0_2:=zk hc0_2
 clear hr0_2 hc0_2
 have HB:=zk (Below.refl w.heap.size w)
 have H:((laws_toRegexSG.f gF k l0_2).bind fun t21004=>(some (a0_0,a0_1,t21004)))=some (r1,r2,r3):=h
 clear h
 replace H:=zo H
 obtain ⟨t21004,A20,H⟩:=H
 replace H:(some (a0_0,a0_1,t21004))=some (r1,r2,r3):=H
 have A2:=zk A20
 clear A20
 simp only [Option.some.injEq,Prod.mk.injEq] at H
 obtain ⟨rfl,rfl,rfl⟩:=H
 go_enter Tryd.func21,Tryd.ntmps21
 go_wp2_with (first|((with_reducible refine gate_dst (N:=1) rfl ?_);refine zE (N:=1) (cs:=#[.int .i64 a0_0,.string a0_1,.slice A0_2 l0_2.length c0_2]) (t:=24) ?_;intro gb21001 hg w3 hbox hb;have n0_:=zk (below_step za2 hb);have n1_:=zk (hbox);have n2_:=zk (zs (w:=w) hg za2);have n3_:=zk (zs (w:=w) hg za2);clear HB;have HB:=n0_;have BK21001:=n1_;have GW21001:=n2_;have GE21001:=n3_;clear n0_ n1_ n2_ n3_;clear hb hbox hg)|((with_reducible refine gate_dst (N:=2) rfl ?_);refine zE (N:=2) (cs:=#[.int .i64 0,.string (⟨#[]⟩:ByteArray),.slice none 0 0]) (t:=32) ?_;intro gb21002 hg w4 hbox hb;have n0_:=zk (zb BK21001.out hb);have n1_:=zk (below_step za2 hb);have n2_:=zk (hbox);have n3_:=zk (zs (w:=w) hg za2);have n4_:=zk (zs (w:=w) hg za2);have n5_:=zk ((by rw [hg];exact Nat.ne_of_lt (zl BK21001.out):gb21001 ≠ gb21002));have n6_:=zk ((by rw [hg];exact Nat.ne_of_gt (zl BK21001.out):gb21002 ≠ gb21001));clear BK21001;clear HB;have BK21001:=n0_;have HB:=n1_;have BK21002:=n2_;have GW21002:=n3_;have GE21002:=n4_;have NB21001_21002:=n5_;have NB21002_21001:=n6_;clear n0_ n1_ n2_ n3_ n4_ n5_ n6_;clear hb hbox hg)|((with_reducible refine gate_dst (N:=3) rfl ?_);refine zE (N:=3) (cs:=#[.int .i64 0,.string (⟨#[]⟩:ByteArray),.slice none 0 0]) (t:=32) ?_;intro gb21003 hg w5 hbox hb;have n0_:=zk (zb BK21001.out hb);have n1_:=zk (zb BK21002.out hb);have n2_:=zk (below_step za2 hb);have n3_:=zk (hbox);have n4_:=zk (zs (w:=w) hg za2);have n5_:=zk (zs (w:=w) hg za2);have n6_:=zk ((by rw [hg];exact Nat.ne_of_lt (zl BK21001.out):gb21001 ≠ gb21003));have n7_:=zk ((by rw [hg];exact Nat.ne_of_gt (zl BK21001.out):gb21003 ≠ gb21001));have n8_:=zk ((by rw [hg];exact Nat.ne_of_lt (zl BK21002.out):gb21002 ≠ gb21003));have n9_:=zk ((by rw [hg];exact Nat.ne_of_gt (zl BK21002.out):gb21003 ≠ gb21002));clear BK21001;clear BK21002;clear HB;have BK21001:=n0_;have BK21002:=n1_;have HB:=n2_;have BK21003:=n3_;have GW21003:=n4_;have GE21003:=n5_;have NB21001_21003:=n6_;have NB21003_21001:=n7_;have NB21002_21003:=n8_;have NB21003_21002:=n9_;clear n0_ n1_ n2_ n3_ n4_ n5_ n6_ n7_ n8_ n9_;clear hb hbox hg;have hnb6:=NB21001_21002.out;have hnc6:=NB21002_21001.out;have hnb7:=NB21001_21003.out;have hnc7:=NB21003_21001.out;obtain ⟨hcz8_0,hcz8_1,hcz8_2,hfz8_0,hfz8_1,hfz8_2⟩:=blk3 BK21001.out;have hnb9:=NB21003_21002.out;have hnc9:=NB21002_21003.out;obtain ⟨hcz10_0,hcz10_1,hcz10_2,hfz10_0,hfz10_1,hfz10_2⟩:=blk3 BK21003.out)|((with_reducible refine gate_callee (f:=43) rfl ?_);refine goesL_ (some 12) rfl rfl Tryd.func43 (by kernel_rfl) rfl #[.slice A0_2 l0_2.length c0_2] rfl za5 ?_;(with_reducible refine (laws_toRegexSG.calls gF gC k _ _ l0_2 t21004 _ ?side1 ?side2 A2.out).mono ?_);(case side1=>exact Kd.C_below HR0_2.out za2);(case side2=>exact HC0_2.out);rintro e w11 ⟨v21005,rfl,ho0,hb⟩;refine ⟨_,rfl,?_⟩;have n0_:=zk (Kd.R_lower (Kd.R_newB (Kd.R_newB ho0 (g:=gb21002) (o:=.cells #[.int .i64 0,.string (⟨#[]⟩:ByteArray),.slice none 0 0] 32 (0,0)) za18) (g:=gb21003) (o:=.cells #[.int .i64 a0_0,.string a0_1,.slice none 0 0] 32 (0,0)) za16) (below_size za2));have n1_:=zk (blk_below (g:=gb21001) (o:=.cells #[.int .i64 a0_0,.string a0_1,.slice A0_2 l0_2.length c0_2] 24 (0,0)) (by (with_reducible repeat (first|refine blk_drewN ?_ _|refine blk_drew ?_|refine blk_alloc ?_ _));refine blk_far ?_ NB21001_21003.out _;(with_reducible repeat (first|refine blk_drewN ?_ _|refine blk_drew ?_|refine blk_alloc ?_ _));refine blk_far ?_ NB21001_21003.out _;(with_reducible repeat (first|refine blk_drewN ?_ _|refine blk_drew ?_|refine blk_alloc ?_ _));exact BK21001.out) hb);have n2_:=zk (blk_below (g:=gb21002) (o:=.cells #[.int .i64 0,.string (⟨#[]⟩:ByteArray),.slice none 0 0] 32 (0,0)) za18 hb);have n3_:=zk (blk_below (g:=gb21003) (o:=.cells #[.int .i64 a0_0,.string a0_1,.slice none 0 0] 32 (0,0)) za16 hb);have n4_:=zk (below_step za2 hb);clear BK21001;clear BK21002;clear BK21003;clear HB;have HO21006:=n0_;have BK21001:=n1_;have BK21002:=n2_;have BK21003:=n3_;have HB:=n4_;clear n0_ n1_ n2_ n3_ n4_;(try clear hb);(try clear hb2);(try clear hk);(try clear hi);(try clear ho0);obtain ⟨Ao12,co12,eo12⟩:=Kd.R_slice HO21006.out;subst eo12;obtain ⟨hcz13_0,hcz13_1,hcz13_2,hfz13_0,hfz13_1,hfz13_2⟩:=blk3 BK21003.out;obtain ⟨hcz14_0,hcz14_1,hcz14_2,hfz14_0,hfz14_1,hfz14_2⟩:=blk3 BK21002.out))
 refine bodyPost_ret (results_cell_row rfl _ _ gb21002 32 #[.int .i64 a0_0,.string a0_1,.slice Ao12 t21004.length co12] (0,0) _ rfl (by (with_reducible repeat (first|refine blk_drewN ?_ _|refine blk_drew ?_|refine blk_alloc ?_ _));refine blk_put (cs:=#[.int .i64 a0_0,.string a0_1,.slice none 0 0]) ?_ 2 _ rfl;(with_reducible repeat (first|refine blk_drewN ?_ _|refine blk_drew ?_|refine blk_alloc ?_ _));refine blk_put (cs:=#[.int .i64 a0_0,.string (⟨#[]⟩:ByteArray),.slice none 0 0]) ?_ 1 _ rfl;(with_reducible repeat (first|refine blk_drewN ?_ _|refine blk_drew ?_|refine blk_alloc ?_ _));refine blk_put (cs:=#[.int .i64 0,.string (⟨#[]⟩:ByteArray),.slice none 0 0]) ?_ 0 _ rfl;(with_reducible repeat (first|refine blk_drewN ?_ _|refine blk_drew ?_|refine blk_alloc ?_ _));refine blk_far ?_ NB21002_21003.out _;(with_reducible repeat (first|refine blk_drewN ?_ _|refine blk_drew ?_|refine blk_alloc ?_ _));exact BK21002.out) Tryd.underlying32 rfl (by kernel_rfl)) rfl ?_
 exact ⟨_,za6,by (with_reducible repeat (first|apply Kd.R_alloc|apply Kd.R_drewN|apply Kd.R_drew));exact Kd.R_mono (Kd.R_far (p:=⟨gb21002,2,none⟩) (Kd.R_far (p:=⟨gb21002,1,none⟩) (Kd.R_far (p:=⟨gb21002,0,none⟩) (Kd.R_far (p:=⟨gb21003,2,none⟩) (Kd.R_mono (Kd.R_mono HO21006.out (fun k_ hk=>(⟨hk,hk.2⟩:_∧k_ ≠ gb21003))) (fun k_ hk=>(⟨hk,hk.1.1.2⟩:_∧k_ ≠ gb21002))) (fun _ hk=>hk.1.2) (.slice Ao12 t21004.length co12)) (fun _ hk=>hk.2) (.int .i64 a0_0)) (fun _ hk=>hk.2) (.string a0_1)) (fun _ hk=>hk.2) (.slice Ao12 t21004.length co12)) (fun _ hk=>trivial),za2⟩
theorem laws_toRegexG.monog (gF gF2:Nat→Int→ByteArray→List (S24)→Option (Int × ByteArray × (List (S32)))) (hg:∀ b0 b1 b2 k,LeO (gF k b0 b1 b2) (gF2 k b0 b1 b2)):∀ a0 a1 a2 k,LeO (laws_toRegexG.f gF k a0 a1 a2) (laws_toRegexG.f gF2 k a0 a1 a2):=by
 intro a0 a1 a2 k
 unfold laws_toRegexG.f
 repeat' first
  | (with_reducible exact laws_toRegexSG.monog gF gF2 hg _ _)
  | (with_reducible exact LeO.refl _)
  | (with_reducible exact LeO.none _)
  | (with_reducible refine LeO.ite ?_ ?_)
  | (with_reducible refine LeO.bind ?_ (fun _=>?_))
  | exact laws_toRegexSG.monog gF gF2 hg _ _
def laws_toRegex.f:Nat→Int→ByteArray→List (S24)→Option (Int × ByteArray × (List (S32)))
 | 0,_,_,_=>none
 | K+1,a0_,a1_,a2_=>laws_toRegexG.f (fun _=>laws_toRegex.f K) K a0_ a1_ a2_
theorem laws_toRegex.mono:∀ a0 a1 a2 k,LeO (laws_toRegex.f k a0 a1 a2) (laws_toRegex.f (k+1) a0 a1 a2):=by
 intro a0_ a1_ a2_ k
 induction k generalizing a0_ a1_ a2_ with
 | zero=>exact LeO.none _
 | succ K ih =>
  intro r h
  have h1:=laws_toRegexG.monog (fun _=>laws_toRegex.f K) (fun _=>laws_toRegex.f (K+1)) (fun a0_ a1_ a2_ k=>ih a0_ a1_ a2_) a0_ a1_ a2_ K r h
  exact laws_toRegexG.mono (fun _=>laws_toRegex.f (K+1)) (fun a0_ a1_ a2_ k=>LeO.refl _) a0_ a1_ a2_ K r h1
theorem laws_toRegex.calls (k:Nat) (a0_0:Int) (a0_1:ByteArray) (A0_2:Option Addr) (c0_2:Nat) (l0_2:List (S24)) (r1:Int) (r2:ByteArray) (r3:List (S32)) (w:World) (hr0_2:Kd.C k24 w A0_2 l0_2.length l0_2) (hc0_2:l0_2.length≤c0_2) (h:laws_toRegex.f k a0_0 a0_1 l0_2=some (r1,r2,r3)) :
  Calls Tryd.prog 21 #[.agg #[.int .i64 a0_0,.string a0_1,.slice A0_2 l0_2.length c0_2]] w fun e w'=>∃ v2_:Value,e = .returned (.agg #[.int .i64 r1,.string r2,v2_])∧Kd.R k32 32 w' w.heap.size (fun _=>True) v2_ r3∧Below w.heap.size w w':=by
 induction k generalizing a0_0 a0_1 A0_2 c0_2 l0_2 r1 r2 r3 w hr0_2 hc0_2 with
 | zero=>exact absurd h (by simp [laws_toRegex.f])
 | succ K ih=>exact laws_toRegexG.calls (fun _=>laws_toRegex.f K) (fun k a0_0 a0_1 A0_2 c0_2 l0_2 r1 r2 r3 w hr0_2 hc0_2 h=>ih a0_0 a0_1 A0_2 c0_2 l0_2 r1 r2 r3 w hr0_2 hc0_2 h) K a0_0 a0_1 A0_2 c0_2 l0_2 r1 r2 r3 w hr0_2 hc0_2 h
def laws_toRegexS.f (k:Nat) (l0:List (S24)):Option ((List (S32))):=laws_toRegexSG.f laws_toRegex.f k l0
theorem laws_toRegexS.mono:∀ a0 k,LeO (laws_toRegexS.f k a0) (laws_toRegexS.f (k+1) a0):=laws_toRegexSG.mono laws_toRegex.f laws_toRegex.mono
theorem laws_toRegexS.calls (k:Nat) (A0:Option Addr) (c0:Nat) (l0:List (S24)) (r:List (S32)) (w:World) (hr0:Kd.C k24 w A0 l0.length l0) (hc0:l0.length≤c0) (h:laws_toRegexS.f k l0=some r) :
 Calls Tryd.prog 43 #[.slice A0 l0.length c0] w fun e w'=>∃ v0_:Value,e = .returned (v0_)∧Kd.R k32 32 w' w.heap.size (fun _=>True) v0_ r∧Below w.heap.size w w':=laws_toRegexSG.calls laws_toRegex.f laws_toRegex.calls k A0 c0 l0 r w hr0 hc0 h
def laws_eqRegexSG.l0 (gF:Nat→Int→ByteArray→List (S32)→Int→ByteArray→List (S32)→Option (Bool)):Nat→List (S32)→List (S32)→Int→Option (Bool)
 | 0,_,_,_=>none
 | k+1,x0,x1,x5=>if x5 < (x0.length:Int) then (if 0≤x5 then (if x5 < (x1.length:Int) then ((gF k ((rd_T32 x0 x5).f0) ((rd_T32 x0 x5).f1) ((rd_T32 x0 x5).f2) ((rd_T32 x1 x5).f0) ((rd_T32 x1 x5).f1) ((rd_T32 x1 x5).f2)).bind fun t53003=>(if t53003=true then (laws_eqRegexSG.l0 gF k x0 x1 (wrap64 (x5+1))) else (some false))) else (none)) else (none)) else (some true)
def laws_eqRegexSG.f (gF:Nat→Int→ByteArray→List (S32)→Int→ByteArray→List (S32)→Option (Bool)) (k:Nat) (l0:List (S32)) (l1:List (S32)):Option (Bool):=if (l0.length:Int)=(l1.length:Int) then (laws_eqRegexSG.l0 gF k l0 l1 0) else (some false)
theorem laws_eqRegexSG.mono_l (gF:Nat→Int→ByteArray→List (S32)→Int→ByteArray→List (S32)→Option (Bool)) (gM:∀ a0 a1 a2 a3 a4 a5 k,LeO (gF k a0 a1 a2 a3 a4 a5) (gF (k+1) a0 a1 a2 a3 a4 a5)):∀ k,(∀ y0 y1 y2,LeO (laws_eqRegexSG.l0 gF k y0 y1 y2) (laws_eqRegexSG.l0 gF (k+1) y0 y1 y2))
 | 0=>fun _ _ _ r h=>by simp [laws_eqRegexSG.l0] at h
 | k+1=>by
  have ih0:=laws_eqRegexSG.mono_l gF gM k
  ·intro y0 y1 y2
   unfold laws_eqRegexSG.l0
   repeat' first
   | with_reducible first|exact ih0 _ _ _|exact gM _ _ _ _ _ _ _|exact LeO.refl _|exact LeO.none _|refine LeO.ite ?_ ?_|refine LeO.bind ?_ (fun _=>?_)
theorem laws_eqRegexSG.mono (gF:Nat→Int→ByteArray→List (S32)→Int→ByteArray→List (S32)→Option (Bool)) (gM:∀ a0 a1 a2 a3 a4 a5 k,LeO (gF k a0 a1 a2 a3 a4 a5) (gF (k+1) a0 a1 a2 a3 a4 a5)):∀ a0 a1 k,LeO (laws_eqRegexSG.f gF k a0 a1) (laws_eqRegexSG.f gF (k+1) a0 a1):=by
 intro a0 a1 k
 have ih0:=laws_eqRegexSG.mono_l gF gM k
 unfold laws_eqRegexSG.f
 repeat' first
  | with_reducible first|exact ih0 _ _ _|exact gM _ _ _ _ _ _ _|exact LeO.refl _|exact LeO.none _|refine LeO.ite ?_ ?_|refine LeO.bind ?_ (fun _=>?_)
def laws_eqRegexSG.T6:Bool × List (List Nat × List Nat):=(true,[([],[]),([],[]),([0,1],[0,1]),([2],[2]),([],[]),([],[]),([4,5],[4,5]),([6],[6]),([3,7],[3,7]),([8],[8])])
def laws_eqRegexSG.B6:List Nat:=[0,0,3,7,0,0,48,112,255,511]
theorem laws_eqRegexSG.tab6:rtab .any (opsOf Tryd.f53 6)=laws_eqRegexSG.T6:=by kernel_rfl
theorem laws_eqRegexSG.bits6:waitsOk laws_eqRegexSG.T6.2 laws_eqRegexSG.B6=true:=by kernel_rfl
theorem laws_eqRegexSG.calls (gF:Nat→Int→ByteArray→List (S32)→Int→ByteArray→List (S32)→Option (Bool)) (gC:∀ (k:Nat) (a0_0:Int) (a0_1:ByteArray) (A0_2:Option Addr) (c0_2:Nat) (l0_2:List (S32)) (a1_0:Int) (a1_1:ByteArray) (A1_2:Option Addr) (c1_2:Nat) (l1_2:List (S32)) (r:Bool) (w:World) (hr0_2:Kd.C k32 w A0_2 l0_2.length l0_2) (hc0_2:l0_2.length≤c0_2) (hr1_2:Kd.C k32 w A1_2 l1_2.length l1_2) (hc1_2:l1_2.length≤c1_2) (h:gF k a0_0 a0_1 l0_2 a1_0 a1_1 l1_2=some r),Calls Tryd.prog 29 #[.agg #[.int .i64 a0_0,.string a0_1,.slice A0_2 l0_2.length c0_2],.agg #[.int .i64 a1_0,.string a1_1,.slice A1_2 l1_2.length c1_2]] w fun e w'=>e = .returned (.bool r)∧Below w.heap.size w w') (k:Nat) (A0:Option Addr) (c0:Nat) (l0:List (S32)) (A1:Option Addr) (c1:Nat) (l1:List (S32)) (r:Bool) (w:World) (hr0:Kd.C k32 w A0 l0.length l0) (hc0:l0.length≤c0) (hr1:Kd.C k32 w A1 l1.length l1) (hc1:l1.length≤c1) (h:laws_eqRegexSG.f gF k l0 l1=some r) :
  Calls Tryd.prog 53 #[.slice A0 l0.length c0,.slice A1 l1.length c1] w fun e w'=>e = .returned (.bool r)∧Below w.heap.size w w':=by
 have hu32:=Tryd.underlying32
 have HR0:=zk hr0
 have HC0:=zk hc0
 clear hr0 hc0
 have HR1:=zk hr1
 have HC1:=zk hc1
 clear hr1 hc1
 have HB:=zk (Below.refl w.heap.size w)
 have H:(if (l0.length:Int)=(l1.length:Int) then (laws_eqRegexSG.l0 gF k l0 l1 0) else (some false))=some r:=h
 clear h
 by_cases c3:(l0.length:Int)=(l1.length:Int)
 ·rw [if_pos c3] at H
  have c3b0:((l0.length:Int) == (l1.length:Int))=true:=beq_iff_eq.mpr c3
  have c3b1:((l0.length:Int) != (l1.length:Int))=false:=bne_eq_false_iff_eq.mpr c3
  have c3b2:(l0.length == l1.length)=true:=by first|simpa using c3|(simp at c3 ⊢;omega)
  clear c3
  have H':=zk H
  clear H
  go_enter Tryd.func53,Tryd.ntmps53
  go_wp2
  first|go_loopg [5] k (fun kq v5 w'=>∃ (x5_1:Int),v5 = .int .i64 x5_1∧Aside0 (laws_eqRegexSG.l0 gF kq l0 l1 x5_1=some r)∧Aside0 (kq≤k)∧Aside0 (Below w.heap.size w w'))|(simp only [Act.put,zt,zv,zu];go_loopg [5] k (fun kq v5 w'=>∃ (x5_1:Int),v5 = .int .i64 x5_1∧Aside0 (laws_eqRegexSG.l0 gF kq l0 l1 x5_1=some r)∧Aside0 (kq≤k)∧Aside0 (Below w.heap.size w w')))
  case atStart=>exact ⟨(0),za7,H',⟨Nat.le_refl _⟩,⟨za2⟩⟩
  case round =>
   clear H'
   try clear c3
   try clear c3b0
   try clear c3b1
   try clear c3b2
   obtain ⟨x5_1,rfl,HA,HK1,HB⟩:=hrel
   cases gk with
   | zero=>exact absurd HA.out (by simp [laws_eqRegexSG.l0])
   | succ k1 =>
    have H:=HA.out
    clear HA
    simp only [laws_eqRegexSG.l0] at H
    by_cases c4:x5_1 < (l0.length:Int)
    rw [if_pos c4] at H
    have c4b0:decide (x5_1 < (l0.length:Int))=true:=decide_eq_true c4
    clear c4
    by_cases c5:0≤x5_1
    rw [if_pos c5] at H
    have c5b0:decide (0≤x5_1)=true:=decide_eq_true c5
    clear c5
    by_cases c6:x5_1 < (l1.length:Int)
    rw [if_pos c6] at H
    have c6b0:decide (x5_1 < (l1.length:Int))=true:=decide_eq_true c6
    clear c6
    replace H:=zo H
    obtain ⟨t53003,A70,H⟩:=H
    replace H:(if t53003=true then (laws_eqRegexSG.l0 gF k1 l0 l1 (wrap64 (x5_1+1))) else (some false))=some r:=H
    have A7:=zk A70
    clear A70
    by_cases c8:t53003=true
    ·subst c8
     have H1:(laws_eqRegexSG.l0 gF k1 l0 l1 (wrap64 (x5_1+1)))=some r:=by rw [if_pos rfl] at H;exact H
     clear H
     have H:=H1
     clear H1
     have H':=zk H
     clear H
     try go_wp2
     have n0_:=zk (below_drew1 HB.out)
     clear HB
     have HB:=n0_
     clear n0_
     have p53001:0≤(x5_1:Int):=of_decide_eq_true za8
     have q53001:x5_1 < (l0.length:Int):=of_decide_eq_true za8
     obtain ⟨ad53001,A53001_2,c53001_2,e53001,hx53001_0,hx53001_1,hx53001_2,hl53001_2,hi53001_2⟩:=at_T32 HR0.out x5_1 p53001 q53001
     have hw53001_2:=hx53001_2
     have hw53001_1:=hx53001_1
     have hw53001_0:=hx53001_0
     cases e53001
     replace hx53001_0:=zx HB.out hx53001_0
     replace hx53001_1:=zx HB.out hx53001_1
     replace hx53001_2:=zx HB.out hx53001_2
     have HR53001_2:=zk hi53001_2
     have HC53001_2:=zk hl53001_2
     clear hi53001_2 hl53001_2
     replace p53001:=eq_true p53001
     replace q53001:=eq_true q53001
     have p53002:0≤(x5_1:Int):=of_decide_eq_true za8
     have q53002:x5_1 < (l1.length:Int):=of_decide_eq_true za8
     obtain ⟨ad53002,A53002_2,c53002_2,e53002,hx53002_0,hx53002_1,hx53002_2,hl53002_2,hi53002_2⟩:=at_T32 HR1.out x5_1 p53002 q53002
     have hw53002_2:=hx53002_2
     have hw53002_1:=hx53002_1
     have hw53002_0:=hx53002_0
     cases e53002
     replace hx53002_0:=zx HB.out hx53002_0
     replace hx53002_1:=zx HB.out hx53002_1
     replace hx53002_2:=zx HB.out hx53002_2
     have HR53002_2:=zk hi53002_2
     have HC53002_2:=zk hl53002_2
     clear hi53002_2 hl53002_2
     replace p53002:=eq_true p53002
     replace q53002:=eq_true q53002
     refine start_ (n:=10) (S:=fun w'=>w'.cell? (ad53001.add ((x5_1).toNat * 3))=some (.int .i64 ((rd_T32 l0 x5_1).f0))∧w'.cell? ⟨(ad53001.add ((x5_1).toNat * 3)).block,(ad53001.add ((x5_1).toNat * 3)).off+1,none⟩=some (.string ((rd_T32 l0 x5_1).f1))∧w'.cell? ⟨(ad53001.add ((x5_1).toNat * 3)).block,(ad53001.add ((x5_1).toNat * 3)).off+2,none⟩=some (.slice A53001_2 ((rd_T32 l0 x5_1).f2).length c53001_2)∧w'.cell? (ad53002.add ((x5_1).toNat * 3))=some (.int .i64 ((rd_T32 l1 x5_1).f0))∧w'.cell? ⟨(ad53002.add ((x5_1).toNat * 3)).block,(ad53002.add ((x5_1).toNat * 3)).off+1,none⟩=some (.string ((rd_T32 l1 x5_1).f1))∧w'.cell? ⟨(ad53002.add ((x5_1).toNat * 3)).block,(ad53002.add ((x5_1).toNat * 3)).off+2,none⟩=some (.slice A53002_2 ((rd_T32 l1 x5_1).f2).length c53002_2)) (ds:=[]) #[false,false,false,false,false,false,false,false,false,false] (by kernel_rfl) rfl rfl ⟨((HB.out.cell (World.block_lt_of_cell? w _ hw53001_0)).trans hw53001_0),((HB.out.cell (World.block_lt_of_cell? w _ hw53001_1)).trans hw53001_1),((HB.out.cell (World.block_lt_of_cell? w _ hw53001_2)).trans hw53001_2),((HB.out.cell (World.block_lt_of_cell? w _ hw53002_0)).trans hw53002_0),((HB.out.cell (World.block_lt_of_cell? w _ hw53002_1)).trans hw53002_1),((HB.out.cell (World.block_lt_of_cell? w _ hw53002_2)).trans hw53002_2)⟩ (fun hHeld=>?_);refine with_tabW laws_eqRegexSG.tab6 laws_eqRegexSG.bits6 (fun HT_ HW_=>?_)
     generalize wr.drew=w9 at HB HR53001_2 HR53002_2 hx53001_0 hx53001_1 hx53001_2 hx53002_0 hx53002_1 hx53002_2 hHeld ⊢
     refine pure_ (i:=0) (N:=some 17) (v:=?_) (a':=?_) #[true,false,false,false,false,false,false,false,false,false] rfl rfl (any_of HT_.out (by kernel_rfl)) (fun _ _ _ h=>h) (Or.inl ⟨by rfl,?_⟩) ?_ ?_
     rotate_left
     ·intro w'
      go_simp
      exact zr0
     rotate_left
     ·simp only [Act.put,zt,zu,zv,i64_w,i32_w]
      rfl
     refine pure_ (i:=1) (N:=some 18) (v:=?_) (a':=?_) #[true,true,false,false,false,false,false,false,false,false] rfl rfl (any_of HT_.out (by kernel_rfl)) (fun _ _ _ h=>h) (Or.inl ⟨by rfl,?_⟩) ?_ ?_
     rotate_left
     ·intro w'
      go_simp
      exact zr0
     rotate_left
     ·simp only [Act.put,zt,zu,zv,i64_w,i32_w]
      rfl
     refine pure_ (i:=2) (N:=some 19) (v:=?_) (a':=?_) #[true,true,true,false,false,false,false,false,false,false] rfl rfl (any_of HT_.out (by kernel_rfl)) (fun _ _ _ h=>h) (Or.inl ⟨by rfl,?_⟩) ?_ ?_
     rotate_left
     ·intro w'
      go_simp
      exact zr0
     rotate_left
     ·simp only [Act.put,zt,zu,zv,i64_w,i32_w]
      rfl
     refine pure_ (i:=4) (N:=some 21) (v:=?_) (a':=?_) #[true,true,true,false,true,false,false,false,false,false] rfl rfl (any_of HT_.out (by kernel_rfl)) (fun _ _ _ h=>h) (Or.inl ⟨by rfl,?_⟩) ?_ ?_
     rotate_left
     ·intro w'
      go_simp
      exact zr0
     rotate_left
     ·simp only [Act.put,zt,zu,zv,i64_w,i32_w]
      rfl
     refine pure_ (i:=5) (N:=some 22) (v:=?_) (a':=?_) #[true,true,true,false,true,true,false,false,false,false] rfl rfl (any_of HT_.out (by kernel_rfl)) (fun _ _ _ h=>h) (Or.inl ⟨by rfl,?_⟩) ?_ ?_
     rotate_left
     ·intro w'
      go_simp
      exact zr0
     rotate_left
     ·simp only [Act.put,zt,zu,zv,i64_w,i32_w]
      rfl
     refine pure_ (i:=6) (N:=some 23) (v:=?_) (a':=?_) #[true,true,true,false,true,true,true,false,false,false] rfl rfl (any_of HT_.out (by kernel_rfl)) (fun _ _ _ h=>h) (Or.inl ⟨by rfl,?_⟩) ?_ ?_
     rotate_left
     ·intro w'
      go_simp
      exact zr0
     rotate_left
     ·simp only [Act.put,zt,zu,zv,i64_w,i32_w]
      rfl
     refine take_ (i:=3) (N:=some 20) (v:=?_) (a':=?_) #[true,true,true,true,true,true,true,false,false,false] rfl rfl (take_ofW HT_.out HW_.out (by kernel_rfl)) (fun _ _ _ h=>h) (Or.inl ⟨by rfl,?_⟩) hHeld ?_ ?_
     rotate_left
     ·rintro w' ⟨s0,s1,s2,s3,s4,s5⟩
      go_simp
      exact zr0
     rotate_left
     ·simp only [Act.put,zt,zu,zv,i64_w,i32_w]
      rfl
     refine take_ (i:=7) (N:=some 24) (v:=?_) (a':=?_) #[true,true,true,true,true,true,true,true,false,false] rfl rfl (take_ofW HT_.out HW_.out (by kernel_rfl)) (fun _ _ _ h=>h) (Or.inl ⟨by rfl,?_⟩) hHeld ?_ ?_
     rotate_left
     ·rintro w' ⟨s0,s1,s2,s3,s4,s5⟩
      go_simp
      exact zr0
     rotate_left
     ·simp only [Act.put,zt,zu,zv,i64_w,i32_w]
      rfl
     refine one_ (i:=8) (N:=some 25) #[true,true,true,true,true,true,true,true,true,false] rfl rfl (one_of HT_.out (by kernel_rfl)) (by decide) (fun K hK=>?_)
     refine goes_ Tryd.func29 (by kernel_rfl) rfl #[.agg #[.int .i64 ((rd_T32 l0 x5_1).f0),.string ((rd_T32 l0 x5_1).f1),.slice A53001_2 ((rd_T32 l0 x5_1).f2).length c53001_2],.agg #[.int .i64 ((rd_T32 l1 x5_1).f0),.string ((rd_T32 l1 x5_1).f1),.slice A53002_2 ((rd_T32 l1 x5_1).f2).length c53002_2]] (by rfl) rfl rfl za5 ?_
     with_reducible refine (gC k1 ((rd_T32 l0 x5_1).f0) ((rd_T32 l0 x5_1).f1) _ _ ((rd_T32 l0 x5_1).f2) ((rd_T32 l1 x5_1).f0) ((rd_T32 l1 x5_1).f1) _ _ ((rd_T32 l1 x5_1).f2) true _ ?side1 ?side2 ?side3 ?side4 A7.out).mono ?_
     (case side1=>repeat (first|exact (Kd.C_below HR53001_2.out HB.out)|(with_reducible refine Kd.C_alloc ?_ _)|(with_reducible refine Kd.C_drewN ?_ _)|(with_reducible refine Kd.C_drew ?_)))
     (case side2=>exact HC53001_2.out)
     (case side3=>repeat (first|exact (Kd.C_below HR53002_2.out HB.out)|(with_reducible refine Kd.C_alloc ?_ _)|(with_reducible refine Kd.C_drewN ?_ _)|(with_reducible refine Kd.C_drew ?_)))
     (case side4=>exact HC53002_2.out)
     rintro e w10 ⟨rfl,hb⟩
     refine ⟨_,rfl,?_⟩
     have n0_:=zk (below_step za2 hb)
     clear HB
     have HB:=n0_
     clear n0_
     (try clear hb)
     (try clear hb2)
     (try clear hk)
     (try clear hi)
     refine hK.out _ _ ⟨((HB.out.cell (World.block_lt_of_cell? w _ hw53001_0)).trans hw53001_0),((HB.out.cell (World.block_lt_of_cell? w _ hw53001_1)).trans hw53001_1),((HB.out.cell (World.block_lt_of_cell? w _ hw53001_2)).trans hw53001_2),((HB.out.cell (World.block_lt_of_cell? w _ hw53002_0)).trans hw53002_0),((HB.out.cell (World.block_lt_of_cell? w _ hw53002_1)).trans hw53002_1),((HB.out.cell (World.block_lt_of_cell? w _ hw53002_2)).trans hw53002_2)⟩ (fun hHeld=>?_)
     clear hK K
     refine norm_ (a':=?_) ?_ ?_
     rotate_left
     ·show Act.put _ (some 25) _=_
      simp only [Act.put,zt,zu,zv,i64_w,i32_w]
      rfl
     refine pure_ (i:=9) (N:=some 26) (v:=?_) (a':=?_) #[true,true,true,true,true,true,true,true,true,true] rfl rfl (any_of HT_.out (by kernel_rfl)) (fun _ _ _ h=>h) (Or.inl ⟨by rfl,?_⟩) ?_ ?_
     rotate_left
     ·intro w'
      go_simp
      exact zr0
     rotate_left
     ·simp only [Act.put,zt,zu,zv,i64_w,i32_w]
      rfl
     refine done_ (done_of HT_.out (by kernel_rfl)) ?_
     try go_wp2
     go_roundg k1
     case measure=>have:=HK1.out;omega
     case rel=>exact ⟨(wrap64 (x5_1+1)),za7,H',⟨za13⟩,⟨za2⟩⟩
    ·replace c8:=Bool.eq_false_iff.mpr c8
     subst c8
     have H1:(some false)=some r:=by rw [if_neg (show ¬ (false=true) by decide)] at H;exact H
     clear H
     have H:=H1
     clear H1
     obtain rfl:=zi H
     try go_wp2
     have n0_:=zk (below_drew1 HB.out)
     clear HB
     have HB:=n0_
     clear n0_
     have p53001:0≤(x5_1:Int):=of_decide_eq_true za8
     have q53001:x5_1 < (l0.length:Int):=of_decide_eq_true za8
     obtain ⟨ad53001,A53001_2,c53001_2,e53001,hx53001_0,hx53001_1,hx53001_2,hl53001_2,hi53001_2⟩:=at_T32 HR0.out x5_1 p53001 q53001
     have hw53001_2:=hx53001_2
     have hw53001_1:=hx53001_1
     have hw53001_0:=hx53001_0
     cases e53001
     replace hx53001_0:=zx HB.out hx53001_0
     replace hx53001_1:=zx HB.out hx53001_1
     replace hx53001_2:=zx HB.out hx53001_2
     have HR53001_2:=zk hi53001_2
     have HC53001_2:=zk hl53001_2
     clear hi53001_2 hl53001_2
     replace p53001:=eq_true p53001
     replace q53001:=eq_true q53001
     have p53002:0≤(x5_1:Int):=of_decide_eq_true za8
     have q53002:x5_1 < (l1.length:Int):=of_decide_eq_true za8
     obtain ⟨ad53002,A53002_2,c53002_2,e53002,hx53002_0,hx53002_1,hx53002_2,hl53002_2,hi53002_2⟩:=at_T32 HR1.out x5_1 p53002 q53002
     have hw53002_2:=hx53002_2
     have hw53002_1:=hx53002_1
     have hw53002_0:=hx53002_0
     cases e53002
     replace hx53002_0:=zx HB.out hx53002_0
     replace hx53002_1:=zx HB.out hx53002_1
     replace hx53002_2:=zx HB.out hx53002_2
     have HR53002_2:=zk hi53002_2
     have HC53002_2:=zk hl53002_2
     clear hi53002_2 hl53002_2
     replace p53002:=eq_true p53002
     replace q53002:=eq_true q53002
     refine start_ (n:=10) (S:=fun w'=>w'.cell? (ad53001.add ((x5_1).toNat * 3))=some (.int .i64 ((rd_T32 l0 x5_1).f0))∧w'.cell? ⟨(ad53001.add ((x5_1).toNat * 3)).block,(ad53001.add ((x5_1).toNat * 3)).off+1,none⟩=some (.string ((rd_T32 l0 x5_1).f1))∧w'.cell? ⟨(ad53001.add ((x5_1).toNat * 3)).block,(ad53001.add ((x5_1).toNat * 3)).off+2,none⟩=some (.slice A53001_2 ((rd_T32 l0 x5_1).f2).length c53001_2)∧w'.cell? (ad53002.add ((x5_1).toNat * 3))=some (.int .i64 ((rd_T32 l1 x5_1).f0))∧w'.cell? ⟨(ad53002.add ((x5_1).toNat * 3)).block,(ad53002.add ((x5_1).toNat * 3)).off+1,none⟩=some (.string ((rd_T32 l1 x5_1).f1))∧w'.cell? ⟨(ad53002.add ((x5_1).toNat * 3)).block,(ad53002.add ((x5_1).toNat * 3)).off+2,none⟩=some (.slice A53002_2 ((rd_T32 l1 x5_1).f2).length c53002_2)) (ds:=[]) #[false,false,false,false,false,false,false,false,false,false] (by kernel_rfl) rfl rfl ⟨((HB.out.cell (World.block_lt_of_cell? w _ hw53001_0)).trans hw53001_0),((HB.out.cell (World.block_lt_of_cell? w _ hw53001_1)).trans hw53001_1),((HB.out.cell (World.block_lt_of_cell? w _ hw53001_2)).trans hw53001_2),((HB.out.cell (World.block_lt_of_cell? w _ hw53002_0)).trans hw53002_0),((HB.out.cell (World.block_lt_of_cell? w _ hw53002_1)).trans hw53002_1),((HB.out.cell (World.block_lt_of_cell? w _ hw53002_2)).trans hw53002_2)⟩ (fun hHeld=>?_);refine with_tabW laws_eqRegexSG.tab6 laws_eqRegexSG.bits6 (fun HT_ HW_=>?_)
     generalize wr.drew=w11 at HB HR53001_2 HR53002_2 hx53001_0 hx53001_1 hx53001_2 hx53002_0 hx53002_1 hx53002_2 hHeld ⊢
     refine pure_ (i:=0) (N:=some 17) (v:=?_) (a':=?_) #[true,false,false,false,false,false,false,false,false,false] rfl rfl (any_of HT_.out (by kernel_rfl)) (fun _ _ _ h=>h) (Or.inl ⟨by rfl,?_⟩) ?_ ?_
     rotate_left
     ·intro w'
      go_simp
      exact zr0
     rotate_left
     ·simp only [Act.put,zt,zu,zv,i64_w,i32_w]
      rfl
     refine pure_ (i:=1) (N:=some 18) (v:=?_) (a':=?_) #[true,true,false,false,false,false,false,false,false,false] rfl rfl (any_of HT_.out (by kernel_rfl)) (fun _ _ _ h=>h) (Or.inl ⟨by rfl,?_⟩) ?_ ?_
     rotate_left
     ·intro w'
      go_simp
      exact zr0
     rotate_left
     ·simp only [Act.put,zt,zu,zv,i64_w,i32_w]
      rfl
     refine pure_ (i:=2) (N:=some 19) (v:=?_) (a':=?_) #[true,true,true,false,false,false,false,false,false,false] rfl rfl (any_of HT_.out (by kernel_rfl)) (fun _ _ _ h=>h) (Or.inl ⟨by rfl,?_⟩) ?_ ?_
     rotate_left
     ·intro w'
      go_simp
      exact zr0
     rotate_left
     ·simp only [Act.put,zt,zu,zv,i64_w,i32_w]
      rfl
     refine pure_ (i:=4) (N:=some 21) (v:=?_) (a':=?_) #[true,true,true,false,true,false,false,false,false,false] rfl rfl (any_of HT_.out (by kernel_rfl)) (fun _ _ _ h=>h) (Or.inl ⟨by rfl,?_⟩) ?_ ?_
     rotate_left
     ·intro w'
      go_simp
      exact zr0
     rotate_left
     ·simp only [Act.put,zt,zu,zv,i64_w,i32_w]
      rfl
     refine pure_ (i:=5) (N:=some 22) (v:=?_) (a':=?_) #[true,true,true,false,true,true,false,false,false,false] rfl rfl (any_of HT_.out (by kernel_rfl)) (fun _ _ _ h=>h) (Or.inl ⟨by rfl,?_⟩) ?_ ?_
     rotate_left
     ·intro w'
      go_simp
      exact zr0
     rotate_left
     ·simp only [Act.put,zt,zu,zv,i64_w,i32_w]
      rfl
     refine pure_ (i:=6) (N:=some 23) (v:=?_) (a':=?_) #[true,true,true,false,true,true,true,false,false,false] rfl rfl (any_of HT_.out (by kernel_rfl)) (fun _ _ _ h=>h) (Or.inl ⟨by rfl,?_⟩) ?_ ?_
     rotate_left
     ·intro w'
      go_simp
      exact zr0
     rotate_left
     ·simp only [Act.put,zt,zu,zv,i64_w,i32_w]
      rfl
     refine take_ (i:=3) (N:=some 20) (v:=?_) (a':=?_) #[true,true,true,true,true,true,true,false,false,false] rfl rfl (take_ofW HT_.out HW_.out (by kernel_rfl)) (fun _ _ _ h=>h) (Or.inl ⟨by rfl,?_⟩) hHeld ?_ ?_
     rotate_left
     ·rintro w' ⟨s0,s1,s2,s3,s4,s5⟩
      go_simp
      exact zr0
     rotate_left
     ·simp only [Act.put,zt,zu,zv,i64_w,i32_w]
      rfl
     refine take_ (i:=7) (N:=some 24) (v:=?_) (a':=?_) #[true,true,true,true,true,true,true,true,false,false] rfl rfl (take_ofW HT_.out HW_.out (by kernel_rfl)) (fun _ _ _ h=>h) (Or.inl ⟨by rfl,?_⟩) hHeld ?_ ?_
     rotate_left
     ·rintro w' ⟨s0,s1,s2,s3,s4,s5⟩
      go_simp
      exact zr0
     rotate_left
     ·simp only [Act.put,zt,zu,zv,i64_w,i32_w]
      rfl
     refine one_ (i:=8) (N:=some 25) #[true,true,true,true,true,true,true,true,true,false] rfl rfl (one_of HT_.out (by kernel_rfl)) (by decide) (fun K hK=>?_)
     refine goes_ Tryd.func29 (by kernel_rfl) rfl #[.agg #[.int .i64 ((rd_T32 l0 x5_1).f0),.string ((rd_T32 l0 x5_1).f1),.slice A53001_2 ((rd_T32 l0 x5_1).f2).length c53001_2],.agg #[.int .i64 ((rd_T32 l1 x5_1).f0),.string ((rd_T32 l1 x5_1).f1),.slice A53002_2 ((rd_T32 l1 x5_1).f2).length c53002_2]] (by rfl) rfl rfl za5 ?_
     with_reducible refine (gC k1 ((rd_T32 l0 x5_1).f0) ((rd_T32 l0 x5_1).f1) _ _ ((rd_T32 l0 x5_1).f2) ((rd_T32 l1 x5_1).f0) ((rd_T32 l1 x5_1).f1) _ _ ((rd_T32 l1 x5_1).f2) false _ ?side1 ?side2 ?side3 ?side4 A7.out).mono ?_
     (case side1=>repeat (first|exact (Kd.C_below HR53001_2.out HB.out)|(with_reducible refine Kd.C_alloc ?_ _)|(with_reducible refine Kd.C_drewN ?_ _)|(with_reducible refine Kd.C_drew ?_)))
     (case side2=>exact HC53001_2.out)
     (case side3=>repeat (first|exact (Kd.C_below HR53002_2.out HB.out)|(with_reducible refine Kd.C_alloc ?_ _)|(with_reducible refine Kd.C_drewN ?_ _)|(with_reducible refine Kd.C_drew ?_)))
     (case side4=>exact HC53002_2.out)
     rintro e w12 ⟨rfl,hb⟩
     refine ⟨_,rfl,?_⟩
     have n0_:=zk (below_step za2 hb)
     clear HB
     have HB:=n0_
     clear n0_
     (try clear hb)
     (try clear hb2)
     (try clear hk)
     (try clear hi)
     refine hK.out _ _ ⟨((HB.out.cell (World.block_lt_of_cell? w _ hw53001_0)).trans hw53001_0),((HB.out.cell (World.block_lt_of_cell? w _ hw53001_1)).trans hw53001_1),((HB.out.cell (World.block_lt_of_cell? w _ hw53001_2)).trans hw53001_2),((HB.out.cell (World.block_lt_of_cell? w _ hw53002_0)).trans hw53002_0),((HB.out.cell (World.block_lt_of_cell? w _ hw53002_1)).trans hw53002_1),((HB.out.cell (World.block_lt_of_cell? w _ hw53002_2)).trans hw53002_2)⟩ (fun hHeld=>?_)
     clear hK K
     refine norm_ (a':=?_) ?_ ?_
     rotate_left
     ·show Act.put _ (some 25) _=_
      simp only [Act.put,zt,zu,zv,i64_w,i32_w]
      rfl
     refine pure_ (i:=9) (N:=some 26) (v:=?_) (a':=?_) #[true,true,true,true,true,true,true,true,true,true] rfl rfl (any_of HT_.out (by kernel_rfl)) (fun _ _ _ h=>h) (Or.inl ⟨by rfl,?_⟩) ?_ ?_
     rotate_left
     ·intro w'
      go_simp
      exact zr0
     rotate_left
     ·simp only [Act.put,zt,zu,zv,i64_w,i32_w]
      rfl
     refine done_ (done_of HT_.out (by kernel_rfl)) ?_
     try go_wp2
     go_ret
     exact ⟨za6,za2⟩
    ·rw [if_neg c6] at H
     exact absurd H (by simp)
    ·rw [if_neg c5] at H
     exact absurd H (by simp)
    ·rw [if_neg c4] at H
     have c4b0:decide (x5_1 < (l0.length:Int))=false:=decide_eq_false c4
     clear c4
     obtain rfl:=zi H
     go_wp2
     go_ret
     exact ⟨za6,za2⟩
 ·rw [if_neg c3] at H
  have c3b0:((l0.length:Int) == (l1.length:Int))=false:=beq_eq_false_iff_ne.mpr c3
  have c3b1:((l0.length:Int) != (l1.length:Int))=true:=bne_iff_ne.mpr c3
  have c3b2:(l0.length == l1.length)=false:=by first|simpa using c3|(simp at c3 ⊢;omega)
  obtain rfl:=zi H
  go_enter Tryd.func53,Tryd.ntmps53
  go_wp2
  go_ret
  exact ⟨za6,za2⟩
theorem laws_eqRegexSG.mono_lg (gF gF2:Nat→Int→ByteArray→List (S32)→Int→ByteArray→List (S32)→Option (Bool)) (hg:∀ b0 b1 b2 b3 b4 b5 k,LeO (gF k b0 b1 b2 b3 b4 b5) (gF2 k b0 b1 b2 b3 b4 b5)):∀ k,(∀ y0 y1 y2,LeO (laws_eqRegexSG.l0 gF k y0 y1 y2) (laws_eqRegexSG.l0 gF2 k y0 y1 y2))
 | 0=>fun _ _ _ r h=>by simp [laws_eqRegexSG.l0] at h
 | k+1=>by
  have ih0:=laws_eqRegexSG.mono_lg gF gF2 hg k
  ·intro y0 y1 y2
   unfold laws_eqRegexSG.l0
   repeat' first
   | (with_reducible exact ih0 _ _ _)
   | (with_reducible exact hg _ _ _ _ _ _ _)
   | (with_reducible exact LeO.refl _)
   | (with_reducible exact LeO.none _)
   | (with_reducible refine LeO.ite ?_ ?_)
   | (with_reducible refine LeO.bind ?_ (fun _=>?_))
   | exact hg _ _ _ _ _ _ _
theorem laws_eqRegexSG.monog (gF gF2:Nat→Int→ByteArray→List (S32)→Int→ByteArray→List (S32)→Option (Bool)) (hg:∀ b0 b1 b2 b3 b4 b5 k,LeO (gF k b0 b1 b2 b3 b4 b5) (gF2 k b0 b1 b2 b3 b4 b5)):∀ a0 a1 k,LeO (laws_eqRegexSG.f gF k a0 a1) (laws_eqRegexSG.f gF2 k a0 a1):=by
 intro a0 a1 k
 have ih0:=laws_eqRegexSG.mono_lg gF gF2 hg k
 unfold laws_eqRegexSG.f
 repeat' first
  | (with_reducible exact ih0 _ _ _)
  | (with_reducible exact hg _ _ _ _ _ _ _)
  | (with_reducible exact LeO.refl _)
  | (with_reducible exact LeO.none _)
  | (with_reducible refine LeO.ite ?_ ?_)
  | (with_reducible refine LeO.bind ?_ (fun _=>?_))
  | exact hg _ _ _ _ _ _ _
def laws_eqRegexG.f (gF:Nat→Int→ByteArray→List (S32)→Int→ByteArray→List (S32)→Option (Bool)) (k:Nat) (a0_0:Int) (a0_1:ByteArray) (l0_2:List (S32)) (a1_0:Int) (a1_1:ByteArray) (l1_2:List (S32)):Option (Bool):=if a0_0=a1_0 then (if a0_1.toList=a1_1.toList then ((laws_eqRegexSG.f gF k l0_2 l1_2).bind fun t29003=>(if t29003=true then (some true) else (some false))) else (some false)) else (some false)
theorem laws_eqRegexG.mono (gF:Nat→Int→ByteArray→List (S32)→Int→ByteArray→List (S32)→Option (Bool)) (gM:∀ a0 a1 a2 a3 a4 a5 k,LeO (gF k a0 a1 a2 a3 a4 a5) (gF (k+1) a0 a1 a2 a3 a4 a5)):∀ a0 a1 a2 a3 a4 a5 k,LeO (laws_eqRegexG.f gF k a0 a1 a2 a3 a4 a5) (laws_eqRegexG.f gF (k+1) a0 a1 a2 a3 a4 a5):=by
 intro a0 a1 a2 a3 a4 a5 k
 unfold laws_eqRegexG.f
 repeat' first
  | with_reducible first|exact laws_eqRegexSG.mono gF gM _ _ _|exact LeO.refl _|exact LeO.none _|refine LeO.ite ?_ ?_|refine LeO.bind ?_ (fun _=>?_)
theorem laws_eqRegexG.calls (gF:Nat→Int→ByteArray→List (S32)→Int→ByteArray→List (S32)→Option (Bool)) (gC:∀ (k:Nat) (a0_0:Int) (a0_1:ByteArray) (A0_2:Option Addr) (c0_2:Nat) (l0_2:List (S32)) (a1_0:Int) (a1_1:ByteArray) (A1_2:Option Addr) (c1_2:Nat) (l1_2:List (S32)) (r:Bool) (w:World) (hr0_2:Kd.C k32 w A0_2 l0_2.length l0_2) (hc0_2:l0_2.length≤c0_2) (hr1_2:Kd.C k32 w A1_2 l1_2.length l1_2) (hc1_2:l1_2.length≤c1_2) (h:gF k a0_0 a0_1 l0_2 a1_0 a1_1 l1_2=some r),Calls Tryd.prog 29 #[.agg #[.int .i64 a0_0,.string a0_1,.slice A0_2 l0_2.length c0_2],.agg #[.int .i64 a1_0,.string a1_1,.slice A1_2 l1_2.length c1_2]] w fun e w'=>e = .returned (.bool r)∧Below w.heap.size w w') (k:Nat) (a0_0:Int) (a0_1:ByteArray) (A0_2:Option Addr) (c0_2:Nat) (l0_2:List (S32)) (a1_0:Int) (a1_1:ByteArray) (A1_2:Option Addr) (c1_2:Nat) (l1_2:List (S32)) (r:Bool) (w:World) (hr0_2:Kd.C k32 w A0_2 l0_2.length l0_2) (hc0_2:l0_2.length≤c0_2) (hr1_2:Kd.C k32 w A1_2 l1_2.length l1_2) (hc1_2:l1_2.length≤c1_2) (h:laws_eqRegexG.f gF k a0_0 a0_1 l0_2 a1_0 a1_1 l1_2=some r) :
   Calls Tryd.prog 29 #[.agg #[.int .i64 a0_0,.string a0_1,.slice A0_2 l0_2.length c0_2],.agg #[.int .i64 a1_0,.string a1_1,.slice A1_2 l1_2.length c1_2]] w fun e w'=>e = .returned (.bool r)∧Below w.heap.size w w':=by
 have hu32:=Tryd.underlying32
 have HR0_2:=zk hr0_2
 have HC0_2:=zk hc0_2
 clear hr0_2 hc0_2
 have HR1_2:=zk hr1_2
 have HC1_2:=zk hc1_2
 clear hr1_2 hc1_2
 have HB:=zk (Below.refl w.heap.size w)
 have H:(if a0_0=a1_0 then (if a0_1.toList=a1_1.toList then ((laws_eqRegexSG.f gF k l0_2 l1_2).bind fun t29003=>(if t29003=true then (some true) else (some false))) else (some false)) else (some false))=some r:=h
 clear h
 by_cases c3:a0_0=a1_0
 rw [if_pos c3] at H
 have c3b0:(a0_0 == a1_0)=true:=beq_iff_eq.mpr c3
 have c3b1:(a0_0 != a1_0)=false:=bne_eq_false_iff_eq.mpr c3
 clear c3
 by_cases c4:a0_1.toList=a1_1.toList
 rw [if_pos c4] at H
 have c4b0:(a0_1.toList == a1_1.toList)=true:=beq_iff_eq.mpr c4
 have c4b1:(a0_1.toList != a1_1.toList)=false:=bne_eq_false_iff_eq.mpr c4
 clear c4
 replace H:=zo H
 obtain ⟨t29003,A50,H⟩:=H
 replace H:(if t29003=true then (some true) else (some false))=some r:=H
 have A5:=zk A50
 clear A50
 by_cases c6:t29003=true
 subst c6
 have H1:(some true)=some r:=by rw [if_pos rfl] at H;exact H
 clear H
 have H:=H1
 clear H1
 rotate_left
 replace c6:=Bool.eq_false_iff.mpr c6
 subst c6
 have H1:(some false)=some r:=by rw [if_neg (show ¬ (false=true) by decide)] at H;exact H
 clear H
 have H:=H1
 clear H1
 rotate_left
 rw [if_neg c4] at H
 have c4b0:(a0_1.toList == a1_1.toList)=false:=beq_eq_false_iff_ne.mpr c4
 have c4b1:(a0_1.toList != a1_1.toList)=true:=bne_iff_ne.mpr c4
 rotate_left
 rw [if_neg c3] at H
 have c3b0:(a0_0 == a1_0)=false:=beq_eq_false_iff_ne.mpr c3
 have c3b1:(a0_0 != a1_0)=true:=bne_iff_ne.mpr c3
 rotate_left
 all_goals
  obtain rfl:=zi H
  go_enter Tryd.func29,Tryd.ntmps29
  go_wp2_with (first|((with_reducible refine gate_dst (N:=2) rfl ?_);refine zE (N:=2) (cs:=#[.int .i64 a0_0,.string a0_1,.slice A0_2 l0_2.length c0_2]) (t:=32) ?_;intro gb29001 hg w13 hbox hb;have n0_:=zk (below_step za2 hb);have n1_:=zk (hbox);have n2_:=zk (zs (w:=w) hg za2);have n3_:=zk (zs (w:=w) hg za2);clear HB;have HB:=n0_;have BK29001:=n1_;have GW29001:=n2_;have GE29001:=n3_;clear n0_ n1_ n2_ n3_;clear hb hbox hg)|((with_reducible refine gate_dst (N:=3) rfl ?_);refine zE (N:=3) (cs:=#[.int .i64 a1_0,.string a1_1,.slice A1_2 l1_2.length c1_2]) (t:=32) ?_;intro gb29002 hg w14 hbox hb;have n0_:=zk (zb BK29001.out hb);have n1_:=zk (below_step za2 hb);have n2_:=zk (hbox);have n3_:=zk (zs (w:=w) hg za2);have n4_:=zk (zs (w:=w) hg za2);have n5_:=zk ((by rw [hg];exact Nat.ne_of_lt (zl BK29001.out):gb29001 ≠ gb29002));have n6_:=zk ((by rw [hg];exact Nat.ne_of_gt (zl BK29001.out):gb29002 ≠ gb29001));clear BK29001;clear HB;have BK29001:=n0_;have HB:=n1_;have BK29002:=n2_;have GW29002:=n3_;have GE29002:=n4_;have NB29001_29002:=n5_;have NB29002_29001:=n6_;clear n0_ n1_ n2_ n3_ n4_ n5_ n6_;clear hb hbox hg;have hnb15:=NB29001_29002.out;have hnc15:=NB29002_29001.out;obtain ⟨hcz16_0,hcz16_1,hcz16_2,hfz16_0,hfz16_1,hfz16_2⟩:=blk3 BK29001.out;obtain ⟨hcz17_0,hcz17_1,hcz17_2,hfz17_0,hfz17_1,hfz17_2⟩:=blk3 BK29002.out)|((with_reducible refine gate_callee (f:=53) rfl ?_);refine goesL_ (some 19) rfl rfl Tryd.func53 (by kernel_rfl) rfl #[.slice A0_2 l0_2.length c0_2,.slice A1_2 l1_2.length c1_2] rfl za5 ?_;(with_reducible refine (laws_eqRegexSG.calls gF gC k _ _ l0_2 _ _ l1_2 _ _ ?side1 ?side2 ?side3 ?side4 A5.out).mono ?_);(case side1=>repeat (first|exact (Kd.C_below HR0_2.out HB.out)|(with_reducible refine Kd.C_alloc ?_ _)|(with_reducible refine Kd.C_drewN ?_ _)|(with_reducible refine Kd.C_drew ?_)));(case side2=>exact HC0_2.out);(case side3=>repeat (first|exact (Kd.C_below HR1_2.out HB.out)|(with_reducible refine Kd.C_alloc ?_ _)|(with_reducible refine Kd.C_drewN ?_ _)|(with_reducible refine Kd.C_drew ?_)));(case side4=>exact HC1_2.out);rintro e w18 ⟨rfl,hb⟩;refine ⟨_,rfl,?_⟩;have n0_:=zk (zb BK29001.out hb);have n1_:=zk (zb BK29002.out hb);have n2_:=zk (below_step za2 hb);clear BK29001;clear BK29002;clear HB;have BK29001:=n0_;have BK29002:=n1_;have HB:=n2_;clear n0_ n1_ n2_;(try clear hb);(try clear hb2);(try clear hk);(try clear hi)))
  go_ret
  exact ⟨za6,za2⟩
theorem laws_eqRegexG.monog (gF gF2:Nat→Int→ByteArray→List (S32)→Int→ByteArray→List (S32)→Option (Bool)) (hg:∀ b0 b1 b2 b3 b4 b5 k,LeO (gF k b0 b1 b2 b3 b4 b5) (gF2 k b0 b1 b2 b3 b4 b5)):∀ a0 a1 a2 a3 a4 a5 k,LeO (laws_eqRegexG.f gF k a0 a1 a2 a3 a4 a5) (laws_eqRegexG.f gF2 k a0 a1 a2 a3 a4 a5):=by
 intro a0 a1 a2 a3 a4 a5 k
 unfold laws_eqRegexG.f
 repeat' first
  | (with_reducible exact laws_eqRegexSG.monog gF gF2 hg _ _ _)
  | (with_reducible exact LeO.refl _)
  | (with_reducible exact LeO.none _)
  | (with_reducible refine LeO.ite ?_ ?_)
  | (with_reducible refine LeO.bind ?_ (fun _=>?_))
  | exact laws_eqRegexSG.monog gF gF2 hg _ _ _
def laws_eqRegex.f:Nat→Int→ByteArray→List (S32)→Int→ByteArray→List (S32)→Option (Bool)
 | 0,_,_,_,_,_,_=>none
 | K+1,a0_,a1_,a2_,a3_,a4_,a5_=>laws_eqRegexG.f (fun _=>laws_eqRegex.f K) K a0_ a1_ a2_ a3_ a4_ a5_
theorem laws_eqRegex.mono:∀ a0 a1 a2 a3 a4 a5 k,LeO (laws_eqRegex.f k a0 a1 a2 a3 a4 a5) (laws_eqRegex.f (k+1) a0 a1 a2 a3 a4 a5):=by
 intro a0_ a1_ a2_ a3_ a4_ a5_ k
 induction k generalizing a0_ a1_ a2_ a3_ a4_ a5_ with
 | zero=>exact LeO.none _
 | succ K ih =>
  intro r h
  have h1:=laws_eqRegexG.monog (fun _=>laws_eqRegex.f K) (fun _=>laws_eqRegex.f (K+1)) (fun a0_ a1_ a2_ a3_ a4_ a5_ k=>ih a0_ a1_ a2_ a3_ a4_ a5_) a0_ a1_ a2_ a3_ a4_ a5_ K r h
  exact laws_eqRegexG.mono (fun _=>laws_eqRegex.f (K+1)) (fun a0_ a1_ a2_ a3_ a4_ a5_ k=>LeO.refl _) a0_ a1_ a2_ a3_ a4_ a5_ K r h1
theorem laws_eqRegex.calls (k:Nat) (a0_0:Int) (a0_1:ByteArray) (A0_2:Option Addr) (c0_2:Nat) (l0_2:List (S32)) (a1_0:Int) (a1_1:ByteArray) (A1_2:Option Addr) (c1_2:Nat) (l1_2:List (S32)) (r:Bool) (w:World) (hr0_2:Kd.C k32 w A0_2 l0_2.length l0_2) (hc0_2:l0_2.length≤c0_2) (hr1_2:Kd.C k32 w A1_2 l1_2.length l1_2) (hc1_2:l1_2.length≤c1_2) (h:laws_eqRegex.f k a0_0 a0_1 l0_2 a1_0 a1_1 l1_2=some r) :
  Calls Tryd.prog 29 #[.agg #[.int .i64 a0_0,.string a0_1,.slice A0_2 l0_2.length c0_2],.agg #[.int .i64 a1_0,.string a1_1,.slice A1_2 l1_2.length c1_2]] w fun e w'=>e = .returned (.bool r)∧Below w.heap.size w w':=by
 induction k generalizing a0_0 a0_1 A0_2 c0_2 l0_2 a1_0 a1_1 A1_2 c1_2 l1_2 r w hr0_2 hc0_2 hr1_2 hc1_2 with
 | zero=>exact absurd h (by simp [laws_eqRegex.f])
 | succ K ih=>exact laws_eqRegexG.calls (fun _=>laws_eqRegex.f K) (fun k a0_0 a0_1 A0_2 c0_2 l0_2 a1_0 a1_1 A1_2 c1_2 l1_2 r w hr0_2 hc0_2 hr1_2 hc1_2 h=>ih a0_0 a0_1 A0_2 c0_2 l0_2 a1_0 a1_1 A1_2 c1_2 l1_2 r w hr0_2 hc0_2 hr1_2 hc1_2 h) K a0_0 a0_1 A0_2 c0_2 l0_2 a1_0 a1_1 A1_2 c1_2 l1_2 r w hr0_2 hc0_2 hr1_2 hc1_2 h
def laws_eqRegexS.f (k:Nat) (l0:List (S32)) (l1:List (S32)):Option (Bool):=laws_eqRegexSG.f laws_eqRegex.f k l0 l1
theorem laws_eqRegexS.mono:∀ a0 a1 k,LeO (laws_eqRegexS.f k a0 a1) (laws_eqRegexS.f (k+1) a0 a1):=laws_eqRegexSG.mono laws_eqRegex.f laws_eqRegex.mono
theorem laws_eqRegexS.calls (k:Nat) (A0:Option Addr) (c0:Nat) (l0:List (S32)) (A1:Option Addr) (c1:Nat) (l1:List (S32)) (r:Bool) (w:World) (hr0:Kd.C k32 w A0 l0.length l0) (hc0:l0.length≤c0) (hr1:Kd.C k32 w A1 l1.length l1) (hc1:l1.length≤c1) (h:laws_eqRegexS.f k l0 l1=some r) :
 Calls Tryd.prog 53 #[.slice A0 l0.length c0,.slice A1 l1.length c1] w fun e w'=>e = .returned (.bool r)∧Below w.heap.size w w':=laws_eqRegexSG.calls laws_eqRegex.f laws_eqRegex.calls k A0 c0 l0 A1 c1 l1 r w hr0 hc0 hr1 hc1 h
def laws_szIntS.f (l0:List Int) (a1:Int):Option (Int):=if (wrap64 (a1 - (l0.length:Int))) < 0 then (some (-1)) else (some (wrap64 (a1 - (l0.length:Int))))
theorem laws_szIntS.calls (A0:Option Addr) (c0:Nat) (l0:List Int) (a1:Int) (r:Int) (w:World) (hr0:Kd.C (Kd.int .i64) w A0 l0.length l0) (hc0:l0.length≤c0) (h:laws_szIntS.f l0 a1=some r) :
   Calls Tryd.prog 16 #[.slice A0 l0.length c0,.int .i64 a1] w fun e w'=>e = .returned (.int .i64 r)∧Drawn0 w w':=by
 have HR0:=zk hr0
 have HC0:=zk hc0
 clear hr0 hc0
 have H:(if (wrap64 (a1 - (l0.length:Int))) < 0 then (some (-1)) else (some (wrap64 (a1 - (l0.length:Int)))))=some r:=h
 clear h
 by_cases c3:(wrap64 (a1 - (l0.length:Int))) < 0
 rw [if_pos c3] at H
 have c3b0:decide ((wrap64 (a1 - (l0.length:Int))) < 0)=true:=decide_eq_true c3
 have c3w:decide ((IntKind.i64.wrap (a1 - (l0.length:Int))) < 0)=true:=by simp only [i64_w];exact c3b0
 rotate_left
 rw [if_neg c3] at H
 have c3b0:decide ((wrap64 (a1 - (l0.length:Int))) < 0)=false:=decide_eq_false c3
 have c3w:decide ((IntKind.i64.wrap (a1 - (l0.length:Int))) < 0)=false:=by simp only [i64_w];exact c3b0
 rotate_left
 all_goals
  clear c3
  obtain rfl:=zi H
  go_enter Tryd.func16,Tryd.ntmps16
  go_wp2
  go_ret
  exact ⟨za7,za9⟩
def laws_toIntS.l0:Nat→List Int→List Int→Int→Option (List Int)
 | 0,_,_,_=>none
 | k+1,x0,x3,x4=>if x4 < (x0.length:Int) then (if 0≤x4 then (if x4 < (x3.length:Int) then (laws_toIntS.l0 k x0 (x3.set (x4:Int).toNat (rd x0 x4)) (wrap64 (x4+1))) else (none)) else (none)) else (some x3)
def laws_toIntS.f (k:Nat) (l0:List Int):Option (List Int):=if 0≤(l0.length:Int) then (if ((l0.length:Int):Int).toNat≤35184372088832 then (laws_toIntS.l0 k l0 (List.replicate ((l0.length:Int):Int).toNat 0) 0) else (none)) else (none)
theorem laws_toIntS.mono_l:∀ k,(∀ y0 y1 y2,LeO (laws_toIntS.l0 k y0 y1 y2) (laws_toIntS.l0 (k+1) y0 y1 y2))
 | 0=>fun _ _ _ r h=>by simp [laws_toIntS.l0] at h
 | k+1=>by
  have ih0:=laws_toIntS.mono_l k
  ·intro y0 y1 y2
   unfold laws_toIntS.l0
   repeat' first
   | with_reducible first|exact ih0 _ _ _|exact LeO.refl _|exact LeO.none _|refine LeO.ite ?_ ?_|refine LeO.bind ?_ (fun _=>?_)
theorem laws_toIntS.mono:∀ a0 k,LeO (laws_toIntS.f k a0) (laws_toIntS.f (k+1) a0):=by
 intro a0 k
 have ih0:=laws_toIntS.mono_l k
 unfold laws_toIntS.f
 repeat' first
  | with_reducible first|exact ih0 _ _ _|exact LeO.refl _|exact LeO.none _|refine LeO.ite ?_ ?_|refine LeO.bind ?_ (fun _=>?_)
theorem laws_toIntS.calls (k:Nat) (A0:Option Addr) (c0:Nat) (l0:List Int) (r:List Int) (w:World) (hr0:Kd.C (Kd.int .i64) w A0 l0.length l0) (hc0:l0.length≤c0) (h:laws_toIntS.f k l0=some r) :
  Calls Tryd.prog 22 #[.slice A0 l0.length c0] w fun e w'=>∃ v0_:Value,e = .returned (v0_)∧Kd.R (Kd.int .i64) 3 w' w.heap.size (fun _=>True) v0_ r∧Below w.heap.size w w':=by
 have HR0:=zk hr0
 have HC0:=zk hc0
 clear hr0 hc0
 have HB:=zk (Below.refl w.heap.size w)
 have H:(if 0≤(l0.length:Int) then (if ((l0.length:Int):Int).toNat≤35184372088832 then (laws_toIntS.l0 k l0 (List.replicate ((l0.length:Int):Int).toNat 0) 0) else (none)) else (none))=some r:=h
 clear h
 by_cases c2:0≤(l0.length:Int)
 rw [if_pos c2] at H
 have c2b0:=eq_true c2
 have c2b1:decide (0≤(l0.length:Int))=true:=decide_eq_true c2
 clear c2
 by_cases c3:((l0.length:Int):Int).toNat≤35184372088832
 ·rw [if_pos c3] at H
  have c3b0:=eq_true c3
  have c3b1:decide (((l0.length:Int):Int).toNat≤35184372088832)=true:=decide_eq_true c3
  clear c3
  obtain ⟨y22001,hy22001⟩:∃ y_:List Int,y_=(List.replicate ((l0.length:Int):Int).toNat 0):=⟨_,rfl⟩
  replace H:(laws_toIntS.l0 k l0 y22001 0)=some r:=by first|(rw [hy22001];with_reducible exact H)|(have H2_:=(Option.bind_some _ _).symm.trans H;rw [hy22001];with_reducible exact H2_)|(have H2_:=(Option.bind_some _ _).symm.trans H;with_reducible exact H2_)|with_reducible exact H|(rw [hy22001];exact H)|exact H
  have Ny22001:=zk hy22001
  clear hy22001
  have H':=zk H
  clear H
  go_enter Tryd.func22,Tryd.ntmps22
  go_wp2_with (first|((with_reducible refine gate_dst (N:=7) rfl ?_);refine Kd.R_make (Kd.int .i64) _ 3 rfl (N:=7) rfl 25 _ _ rfl (l0.length:Int) rfl rfl Tryd.underlying25 (.int .i64 0) 8 info3 rfl (by decide) (by omega) 0 (ok:=fun _=>True) (okp:=fun _=>True) rfl (fun _ hk=>hk) trivial (of_decide_eq_true za8) (Nat.le_trans (Nat.mul_le_mul_right _ (of_decide_eq_true za8:(l0.length:Int).toNat≤35184372088832)) (by omega)) (Below.refl _ _) (Nat.le_refl _) ?_;intro v22002 w4 ho5 hb hg_ hnew_;clear hg_ hnew_;(first|rw [← Ny22001.out] at ho5|(simp only [Int.reduceToNat] at ho5;rw [← Ny22001.out] at ho5));have n0_:=zk (Kd.R_lower ho5 (below_size za2));have n1_:=zk (below_step za2 hb);clear HB;have HO22003:=n0_;have HB:=n1_;clear n0_ n1_;clear hb ho5))
  first|go_loopg [4] k (fun kq v4 w'=>∃ (x3_1:List Int) (x4_1:Int),v4 = .int .i64 x4_1∧Aside0 (laws_toIntS.l0 kq l0 x3_1 x4_1=some r)∧Aside0 (kq≤k)∧Aside0 (Kd.R (Kd.int .i64) 3 w' w.heap.size (fun _=>True) v22002 x3_1)∧Aside0 (Below w.heap.size w w'))|(simp only [Act.put,zt,zv,zu];go_loopg [4] k (fun kq v4 w'=>∃ (x3_1:List Int) (x4_1:Int),v4 = .int .i64 x4_1∧Aside0 (laws_toIntS.l0 kq l0 x3_1 x4_1=some r)∧Aside0 (kq≤k)∧Aside0 (Kd.R (Kd.int .i64) 3 w' w.heap.size (fun _=>True) v22002 x3_1)∧Aside0 (Below w.heap.size w w')))
  case atStart=>exact ⟨(y22001),(0),za7,H',⟨Nat.le_refl _⟩,⟨za1 HO22003.out⟩,⟨za2⟩⟩
  case round =>
   clear H'
   try clear c3
   try clear c3b0
   try clear c3b1
   obtain ⟨x3_1,x4_1,rfl,HA,HK1,HO_3,HB⟩:=hrel
   cases gk with
   | zero=>exact absurd HA.out (by simp [laws_toIntS.l0])
   | succ k1 =>
    have H:=HA.out
    clear HA
    simp only [laws_toIntS.l0] at H
    by_cases c6:x4_1 < (l0.length:Int)
    rw [if_pos c6] at H
    have c6b0:decide (x4_1 < (l0.length:Int))=true:=decide_eq_true c6
    clear c6
    by_cases c7:0≤x4_1
    rw [if_pos c7] at H
    have c7b0:decide (0≤x4_1)=true:=decide_eq_true c7
    clear c7
    by_cases c8:x4_1 < (x3_1.length:Int)
    ·rw [if_pos c8] at H
     have c8b0:decide (x4_1 < (x3_1.length:Int))=true:=decide_eq_true c8
     clear c8
     obtain ⟨y22005,hy22005⟩:∃ y_:List Int,y_=(x3_1.set (x4_1:Int).toNat (rd l0 x4_1)):=⟨_,rfl⟩
     replace H:(laws_toIntS.l0 k1 l0 y22005 (wrap64 (x4_1+1)))=some r:=by first|(rw [hy22005];with_reducible exact H)|(have H2_:=(Option.bind_some _ _).symm.trans H;rw [hy22005];with_reducible exact H2_)|(have H2_:=(Option.bind_some _ _).symm.trans H;with_reducible exact H2_)|with_reducible exact H|(rw [hy22005];exact H)|exact H
     have Ny22005:=zk hy22005
     clear hy22005
     have H':=zk H
     clear H
     have p22004:0≤(x4_1:Int):=of_decide_eq_true za8
     have q22004:x4_1 < (l0.length:Int):=of_decide_eq_true za8
     obtain ⟨ad22004,e22004,hx22004_0⟩:=Kd.at_int HR0.out x4_1 p22004 q22004
     cases e22004
     replace hx22004_0:=zx HB.out hx22004_0
     replace p22004:=eq_true p22004
     replace q22004:=eq_true q22004
     have p9:0≤(x4_1:Int):=of_decide_eq_true za8
     have q9:(x4_1:Int) < ((x3_1.length:Int):Int):=of_decide_eq_true za8
     obtain ⟨go9,co9,eo9,gb9,gl9,cl9,HG9⟩:=Kd.R_form HO_3.out (by omega)
     (first|cases eo9|(injection eo9 with ea_ en_ ec_;(first|subst ea_|(injection ea_ with ea_;subst ea_));subst ec_;clear en_))
     have GB9:=zk gb9
     have GG9:=zk HG9
     clear gb9 gl9 HG9
     obtain ⟨hx9_0,hf9_0⟩:=Kd.R_celln 0 HO_3.out (x4_1:Int) p9 q9
     replace p9:=eq_true p9
     replace q9:=eq_true q9
     have HP10:=Kd.R_putg HO_3.out (x4_1:Int) (rd l0 x4_1)
     go_wp2_with (first|((with_reducible refine gate_store (t:=3) (p:=20) rfl ?_);refine store_event (t:=3) (p:=20) (v:=?vo_w11) (w1:=(wr.setCell ⟨go9,(x4_1:Int).toNat,none⟩ (.int .i64 (rd l0 x4_1)))) ?hg ?ho ?hn ?hr ?_;(case ho=>rfl);(case hg=>rfl);(case hn=>rfl);(case hr=>first|(go_simp;done)|(go_simp;rfl));intro w11 hw;have hg:wr.grownBy w11 (some go9):=(by rw [hw];exact HP10.2);have hp_:Kd.R (Kd.int .i64) 3 w11 w.heap.size (fun _=>True) (.slice (some ⟨go9,0,none⟩) x3_1.length co9) y22005:=(by rw [hw,Ny22005.out];exact HP10.1);clear HP10;have n0_:=zk (hp_);have n1_:=zk ((by rw [hw];exact below_set (HB.out) GB9.out:Below w.heap.size w w11));clear HO_3;clear HB;have HO_3:=n0_;have HB:=n1_;clear n0_ n1_;clear hg hw hp_))
     go_roundg k1
     case measure=>have:=HK1.out;omega
     case rel=>exact ⟨(y22005),(wrap64 (x4_1+1)),za7,H',⟨za13⟩,⟨za1 HO_3.out⟩,⟨za2⟩⟩
    ·rw [if_neg c8] at H
     exact absurd H (by simp)
    ·rw [if_neg c7] at H
     exact absurd H (by simp)
    ·rw [if_neg c6] at H
     have c6b0:decide (x4_1 < (l0.length:Int))=false:=decide_eq_false c6
     clear c6
     obtain rfl:=zi H
     go_wp2
     go_ret
     exact ⟨_,za6,za1 HO_3.out,za2⟩
 ·rw [if_neg c3] at H
  exact absurd H (by simp)
 ·rw [if_neg c2] at H
  exact absurd H (by simp)
def laws_eqIntS.l0:Nat→List Int→List Int→Int→Option (Bool)
 | 0,_,_,_=>none
 | k+1,x0,x1,x5=>if x5 < (x0.length:Int) then (if 0≤x5 then (if x5 < (x1.length:Int) then (if (rd x0 x5)=(rd x1 x5) then (laws_eqIntS.l0 k x0 x1 (wrap64 (x5+1))) else (some false)) else (none)) else (none)) else (some true)
def laws_eqIntS.f (k:Nat) (l0:List Int) (l1:List Int):Option (Bool):=if (l0.length:Int)=(l1.length:Int) then (laws_eqIntS.l0 k l0 l1 0) else (some false)
theorem laws_eqIntS.mono_l:∀ k,(∀ y0 y1 y2,LeO (laws_eqIntS.l0 k y0 y1 y2) (laws_eqIntS.l0 (k+1) y0 y1 y2))
 | 0=>fun _ _ _ r h=>by simp [laws_eqIntS.l0] at h
 | k+1=>by
  have ih0:=laws_eqIntS.mono_l k
  ·intro y0 y1 y2
   unfold laws_eqIntS.l0
   repeat' first
   | with_reducible first|exact ih0 _ _ _|exact LeO.refl _|exact LeO.none _|refine LeO.ite ?_ ?_|refine LeO.bind ?_ (fun _=>?_)
theorem laws_eqIntS.mono:∀ a0 a1 k,LeO (laws_eqIntS.f k a0 a1) (laws_eqIntS.f (k+1) a0 a1):=by
 intro a0 a1 k
 have ih0:=laws_eqIntS.mono_l k
 unfold laws_eqIntS.f
 repeat' first
  | with_reducible first|exact ih0 _ _ _|exact LeO.refl _|exact LeO.none _|refine LeO.ite ?_ ?_|refine LeO.bind ?_ (fun _=>?_)
theorem laws_eqIntS.calls (k:Nat) (A0:Option Addr) (c0:Nat) (l0:List Int) (A1:Option Addr) (c1:Nat) (l1:List Int) (r:Bool) (w:World) (hr0:Kd.C (Kd.int .i64) w A0 l0.length l0) (hc0:l0.length≤c0) (hr1:Kd.C (Kd.int .i64) w A1 l1.length l1) (hc1:l1.length≤c1) (h:laws_eqIntS.f k l0 l1=some r) :
  Calls Tryd.prog 30 #[.slice A0 l0.length c0,.slice A1 l1.length c1] w fun e w'=>e = .returned (.bool r)∧Drawn0 w w':=by
 have HR0:=zk hr0
 have HC0:=zk hc0
 clear hr0 hc0
 have HR1:=zk hr1
 have HC1:=zk hc1
 clear hr1 hc1
 have H:(if (l0.length:Int)=(l1.length:Int) then (laws_eqIntS.l0 k l0 l1 0) else (some false))=some r:=h
 clear h
 by_cases c3:(l0.length:Int)=(l1.length:Int)
 ·rw [if_pos c3] at H
  have c3b0:((l0.length:Int) == (l1.length:Int))=true:=beq_iff_eq.mpr c3
  have c3b1:((l0.length:Int) != (l1.length:Int))=false:=bne_eq_false_iff_eq.mpr c3
  have c3b2:(l0.length == l1.length)=true:=by first|simpa using c3|(simp at c3 ⊢;omega)
  clear c3
  have H':=zk H
  clear H
  go_enter Tryd.func30,Tryd.ntmps30
  go_wp2
  repeat (go_quiet (fail);try go_wp2)
  first|go_loopg [5] k (fun kq v5 w'=>∃ (x5_1:Int),v5 = .int .i64 x5_1∧Aside0 (laws_eqIntS.l0 kq l0 l1 x5_1=some r)∧Aside0 (kq≤k)∧Drawn0 w w')|(simp only [Act.put,zt,zv,zu];go_loopg [5] k (fun kq v5 w'=>∃ (x5_1:Int),v5 = .int .i64 x5_1∧Aside0 (laws_eqIntS.l0 kq l0 l1 x5_1=some r)∧Aside0 (kq≤k)∧Drawn0 w w'))
  case atStart=>exact ⟨(0),za7,H',⟨Nat.le_refl _⟩,za9⟩
  case round =>
   clear H'
   try clear c3
   try clear c3b0
   try clear c3b1
   try clear c3b2
   obtain ⟨x5_1,rfl,HA,HK1,⟨m1,rfl⟩⟩:=hrel
   cases gk with
   | zero=>exact absurd HA.out (by simp [laws_eqIntS.l0])
   | succ k1 =>
    have H:=HA.out
    clear HA
    simp only [laws_eqIntS.l0] at H
    by_cases c4:x5_1 < (l0.length:Int)
    rw [if_pos c4] at H
    have c4b0:decide (x5_1 < (l0.length:Int))=true:=decide_eq_true c4
    clear c4
    by_cases c5:0≤x5_1
    rw [if_pos c5] at H
    have c5b0:decide (0≤x5_1)=true:=decide_eq_true c5
    clear c5
    by_cases c6:x5_1 < (l1.length:Int)
    rw [if_pos c6] at H
    have c6b0:decide (x5_1 < (l1.length:Int))=true:=decide_eq_true c6
    clear c6
    by_cases c7:(rd l0 x5_1)=(rd l1 x5_1)
    rw [if_pos c7] at H
    have c7b0:((rd l0 x5_1) == (rd l1 x5_1))=true:=beq_iff_eq.mpr c7
    have c7b1:((rd l0 x5_1) != (rd l1 x5_1))=false:=bne_eq_false_iff_eq.mpr c7
    clear c7
    have H':=zk H
    clear H
    have fin0_:=zk trivial
    rotate_left
    rw [if_neg c7] at H
    have c7b0:((rd l0 x5_1) == (rd l1 x5_1))=false:=beq_eq_false_iff_ne.mpr c7
    have c7b1:((rd l0 x5_1) != (rd l1 x5_1))=true:=bne_iff_ne.mpr c7
    obtain rfl:=zi H
    have fin1_:=zk trivial
    rotate_left
    · rw [if_neg c6] at H
      exact absurd H (by simp)
    · rw [if_neg c5] at H
      exact absurd H (by simp)
    · rw [if_neg c4] at H
      have c4b0:decide (x5_1 < (l0.length:Int))=false:=decide_eq_false c4
      clear c4
      obtain rfl:=zi H
      go_wp2
      repeat (go_quiet (fail);try go_wp2)
      go_ret
      exact ⟨za7,za9⟩
    all_goals
     have p30001:0≤(x5_1:Int):=of_decide_eq_true za8
     have q30001:x5_1 < (l0.length:Int):=of_decide_eq_true za8
     obtain ⟨ad30001,e30001,hx30001_0⟩:=Kd.at_int HR0.out x5_1 p30001 q30001
     cases e30001
     replace p30001:=eq_true p30001
     replace q30001:=eq_true q30001
     have p30002:0≤(x5_1:Int):=of_decide_eq_true za8
     have q30002:x5_1 < (l1.length:Int):=of_decide_eq_true za8
     obtain ⟨ad30002,e30002,hx30002_0⟩:=Kd.at_int HR1.out x5_1 p30002 q30002
     cases e30002
     replace p30002:=eq_true p30002
     replace q30002:=eq_true q30002
     go_wp2
     repeat (go_quiet (fail);try go_wp2)
     first
     | (
       clear fin0_
       go_roundg k1
       case measure=>have:=HK1.out;omega
       case rel=>exact ⟨(wrap64 (x5_1+1)),za7,H',⟨za13⟩,za9⟩)
     | (
       clear fin1_
       go_ret
       exact ⟨za7,za9⟩)
 ·rw [if_neg c3] at H
  have c3b0:((l0.length:Int) == (l1.length:Int))=false:=beq_eq_false_iff_ne.mpr c3
  have c3b1:((l0.length:Int) != (l1.length:Int))=true:=bne_iff_ne.mpr c3
  have c3b2:(l0.length == l1.length)=false:=by first|simpa using c3|(simp at c3 ⊢;omega)
  obtain rfl:=zi H
  go_enter Tryd.func30,Tryd.ntmps30
  go_wp2
  repeat (go_quiet (fail);try go_wp2)
  go_ret
  exact ⟨za7,za9⟩
def laws_szConstraint.f (k:Nat) (a0_0:Int) (a0_1:ByteArray) (a0_2:ByteArray) (a0_3:Int) (a0_4:ByteArray) (l0_5:List (S24)) (l0_6:List Int) (a0_7:Int) (a1:Int):Option (Int):=if (wrap64 (a1 - (a0_1.size:Int))) < 0 then (some (-1)) else (if (wrap64 ((wrap64 (a1 - (a0_1.size:Int))) - (a0_2.size:Int))) < 0 then (some (-1)) else ((laws_szRegex.f k a0_3 a0_4 l0_5 (wrap64 ((wrap64 (a1 - (a0_1.size:Int))) - (a0_2.size:Int)))).bind fun t5002=>(if t5002 < 0 then (some (-1)) else ((laws_szIntS.f l0_6 t5002).bind fun t5003=>(if t5003 < 0 then (some (-1)) else (some t5003))))))
theorem laws_szConstraint.mono:∀ a0 a1 a2 a3 a4 a5 a6 a7 a8 k,LeO (laws_szConstraint.f k a0 a1 a2 a3 a4 a5 a6 a7 a8) (laws_szConstraint.f (k+1) a0 a1 a2 a3 a4 a5 a6 a7 a8):=by
 intro a0 a1 a2 a3 a4 a5 a6 a7 a8 k
 unfold laws_szConstraint.f
 repeat' first
  | with_reducible first|exact laws_szRegex.mono _ _ _ _ _|exact LeO.refl _|exact LeO.none _|refine LeO.ite ?_ ?_|refine LeO.bind ?_ (fun _=>?_)
theorem laws_szConstraint.calls (k:Nat) (a0_0:Int) (a0_1:ByteArray) (a0_2:ByteArray) (a0_3:Int) (a0_4:ByteArray) (A0_5:Option Addr) (c0_5:Nat) (l0_5:List (S24)) (A0_6:Option Addr) (c0_6:Nat) (l0_6:List Int) (a0_7:Int) (a1:Int) (r:Int) (w:World) (hr0_5:Kd.C k24 w A0_5 l0_5.length l0_5) (hc0_5:l0_5.length≤c0_5) (hr0_6:Kd.C (Kd.int .i64) w A0_6 l0_6.length l0_6) (hc0_6:l0_6.length≤c0_6) (h:laws_szConstraint.f k a0_0 a0_1 a0_2 a0_3 a0_4 l0_5 l0_6 a0_7 a1=some r) :
   Calls Tryd.prog 5 #[.agg #[.int .i64 a0_0,.string a0_1,.string a0_2,.int .i64 a0_3,.string a0_4,.slice A0_5 l0_5.length c0_5,.slice A0_6 l0_6.length c0_6,.int .i64 a0_7],.int .i64 a1] w fun e w'=>e = .returned (.int .i64 r)∧Below w.heap.size w w':=by
 have hu27:=Tryd.underlying27
 have hu24:=Tryd.underlying24
 have HR0_5:=zk hr0_5
 have HC0_5:=zk hc0_5
 clear hr0_5 hc0_5
 have HR0_6:=zk hr0_6
 have HC0_6:=zk hc0_6
 clear hr0_6 hc0_6
 have HB:=zk (Below.refl w.heap.size w)
 have H:(if (wrap64 (a1 - (a0_1.size:Int))) < 0 then (some (-1)) else (if (wrap64 ((wrap64 (a1 - (a0_1.size:Int))) - (a0_2.size:Int))) < 0 then (some (-1)) else ((laws_szRegex.f k a0_3 a0_4 l0_5 (wrap64 ((wrap64 (a1 - (a0_1.size:Int))) - (a0_2.size:Int)))).bind fun t5002=>(if t5002 < 0 then (some (-1)) else ((laws_szIntS.f l0_6 t5002).bind fun t5003=>(if t5003 < 0 then (some (-1)) else (some t5003)))))))=some r:=h
 clear h
 by_cases c3:(wrap64 (a1 - (a0_1.size:Int))) < 0
 rw [if_pos c3] at H
 have c3b0:decide ((wrap64 (a1 - (a0_1.size:Int))) < 0)=true:=decide_eq_true c3
 have c3w:decide ((IntKind.i64.wrap (a1 - (a0_1.size:Int))) < 0)=true:=by simp only [i64_w];exact c3b0
 clear c3
 rotate_left
 rw [if_neg c3] at H
 have c3b0:decide ((wrap64 (a1 - (a0_1.size:Int))) < 0)=false:=decide_eq_false c3
 have c3w:decide ((IntKind.i64.wrap (a1 - (a0_1.size:Int))) < 0)=false:=by simp only [i64_w];exact c3b0
 clear c3
 by_cases c6:(wrap64 ((wrap64 (a1 - (a0_1.size:Int))) - (a0_2.size:Int))) < 0
 rw [if_pos c6] at H
 have c6b0:decide ((wrap64 ((wrap64 (a1 - (a0_1.size:Int))) - (a0_2.size:Int))) < 0)=true:=decide_eq_true c6
 have c6w:decide ((IntKind.i64.wrap ((IntKind.i64.wrap (a1 - (a0_1.size:Int))) - (a0_2.size:Int))) < 0)=true:=by simp only [i64_w];exact c6b0
 clear c6
 rotate_left
 rw [if_neg c6] at H
 have c6b0:decide ((wrap64 ((wrap64 (a1 - (a0_1.size:Int))) - (a0_2.size:Int))) < 0)=false:=decide_eq_false c6
 have c6w:decide ((IntKind.i64.wrap ((IntKind.i64.wrap (a1 - (a0_1.size:Int))) - (a0_2.size:Int))) < 0)=false:=by simp only [i64_w];exact c6b0
 clear c6
 replace H:=zo H
 obtain ⟨t5002,A90,H⟩:=H
 replace H:(if t5002 < 0 then (some (-1)) else ((laws_szIntS.f l0_6 t5002).bind fun t5003=>(if t5003 < 0 then (some (-1)) else (some t5003))))=some r:=H
 have A9:=zk A90
 clear A90
 by_cases c10:t5002 < 0
 rw [if_pos c10] at H
 have c10b0:decide (t5002 < 0)=true:=decide_eq_true c10
 clear c10
 rotate_left
 rw [if_neg c10] at H
 have c10b0:decide (t5002 < 0)=false:=decide_eq_false c10
 clear c10
 replace H:=zo H
 obtain ⟨t5003,A140,H⟩:=H
 replace H:(if t5003 < 0 then (some (-1)) else (some t5003))=some r:=H
 have A14:=zk A140
 clear A140
 by_cases c15:t5003 < 0
 rw [if_pos c15] at H
 have c15b0:decide (t5003 < 0)=true:=decide_eq_true c15
 clear c15
 rotate_left
 rw [if_neg c15] at H
 have c15b0:decide (t5003 < 0)=false:=decide_eq_false c15
 clear c15
 rotate_left
 all_goals
  obtain rfl:=zi H
  go_enter Tryd.func5,Tryd.ntmps5
  go_wp2_with (first|((with_reducible refine gate_dst (N:=2) rfl ?_);refine zE (N:=2) (cs:=#[.int .i64 a0_0,.string a0_1,.string a0_2,.int .i64 a0_3,.string a0_4,.slice A0_5 l0_5.length c0_5,.slice A0_6 l0_6.length c0_6,.int .i64 a0_7]) (t:=27) ?_;intro gb5001 hg w16 hbox hb;have n0_:=zk (below_step za2 hb);have n1_:=zk (hbox);have n2_:=zk (zs (w:=w) hg za2);have n3_:=zk (zs (w:=w) hg za2);clear HB;have HB:=n0_;have BK5001:=n1_;have GW5001:=n2_;have GE5001:=n3_;clear n0_ n1_ n2_ n3_;clear hb hbox hg;obtain ⟨hcz17_0,hcz17_1,hcz17_2,hcz17_3,hcz17_4,hcz17_5,hcz17_6,hcz17_7,hfz17_0,hfz17_1,hfz17_2,hfz17_3,hfz17_4,hfz17_5,hfz17_6,hfz17_7⟩:=blk8 BK5001.out)|((with_reducible refine gate_callee (f:=15) rfl ?_);refine goesL_ (some 22) rfl rfl Tryd.func15 (by kernel_rfl) rfl #[.agg #[.int .i64 a0_3,.string a0_4,.slice A0_5 l0_5.length c0_5],.int .i64 (wrap64 ((wrap64 (a1 - (a0_1.size:Int))) - (a0_2.size:Int)))] rfl za5 ?_;(with_reducible refine (laws_szRegex.calls k a0_3 a0_4 _ _ l0_5 (wrap64 ((wrap64 (a1 - (a0_1.size:Int))) - (a0_2.size:Int))) t5002 _ ?side1 ?side2 A9.out).mono ?_);(case side1=>repeat (first|exact (Kd.C_below HR0_5.out HB.out)|(with_reducible refine Kd.C_alloc ?_ _)|(with_reducible refine Kd.C_drewN ?_ _)|(with_reducible refine Kd.C_drew ?_)));(case side2=>exact HC0_5.out);rintro e w18 ⟨rfl,hb⟩;refine ⟨_,rfl,?_⟩;have n0_:=zk (zb BK5001.out hb);have n1_:=zk (below_step za2 hb);clear BK5001;clear HB;have BK5001:=n0_;have HB:=n1_;clear n0_ n1_;(try clear hb);(try clear hb2);(try clear hk);(try clear hi);obtain ⟨hcz19_0,hcz19_1,hcz19_2,hcz19_3,hcz19_4,hcz19_5,hcz19_6,hcz19_7,hfz19_0,hfz19_1,hfz19_2,hfz19_3,hfz19_4,hfz19_5,hfz19_6,hfz19_7⟩:=blk8 BK5001.out)|((with_reducible refine gate_callee (f:=16) rfl ?_);refine goesL_ (some 28) rfl rfl Tryd.func16 (by kernel_rfl) rfl #[.slice A0_6 l0_6.length c0_6,.int .i64 t5002] rfl za5 ?_;(with_reducible refine (laws_szIntS.calls _ _ l0_6 t5002 t5003 _ ?side1 ?side2 A14.out).mono ?_);(case side1=>repeat (first|exact (Kd.C_below HR0_6.out HB.out)|(with_reducible refine Kd.C_alloc ?_ _)|(with_reducible refine Kd.C_drewN ?_ _)|(with_reducible refine Kd.C_drew ?_)));(case side2=>exact HC0_6.out);rintro e w' ⟨rfl,⟨nd,rfl⟩⟩;refine ⟨_,rfl,?_⟩))
  go_ret
  exact ⟨za6,za2⟩
def laws_toConstraint.f (k:Nat) (a0_0:Int) (a0_1:ByteArray) (a0_2:ByteArray) (a0_3:Int) (a0_4:ByteArray) (l0_5:List (S24)) (l0_6:List Int) (a0_7:Int):Option (Int × ByteArray × ByteArray × Int × ByteArray × (List (S32)) × List Int × Int):=(laws_toRegex.f k a0_3 a0_4 l0_5).bind fun bt7004=>((laws_toIntS.f k l0_6).bind fun t7009=>(some (a0_0,a0_1,a0_2,bt7004.1,bt7004.2.1,bt7004.2.2,t7009,a0_7)))
theorem laws_toConstraint.mono:∀ a0 a1 a2 a3 a4 a5 a6 a7 k,LeO (laws_toConstraint.f k a0 a1 a2 a3 a4 a5 a6 a7) (laws_toConstraint.f (k+1) a0 a1 a2 a3 a4 a5 a6 a7):=by
 intro a0 a1 a2 a3 a4 a5 a6 a7 k
 unfold laws_toConstraint.f
 repeat' first
  | with_reducible first|exact laws_toIntS.mono _ _|exact laws_toRegex.mono _ _ _ _|exact LeO.refl _|exact LeO.none _|refine LeO.ite ?_ ?_|refine LeO.bind ?_ (fun _=>?_)
theorem laws_toConstraint.calls (k:Nat) (a0_0:Int) (a0_1:ByteArray) (a0_2:ByteArray) (a0_3:Int) (a0_4:ByteArray) (A0_5:Option Addr) (c0_5:Nat) (l0_5:List (S24)) (A0_6:Option Addr) (c0_6:Nat) (l0_6:List Int) (a0_7:Int) (r1:Int) (r2:ByteArray) (r3:ByteArray) (r4:Int) (r5:ByteArray) (r6:List (S32)) (r7:List Int) (r8:Int) (w:World) (hr0_5:Kd.C k24 w A0_5 l0_5.length l0_5) (hc0_5:l0_5.length≤c0_5) (hr0_6:Kd.C (Kd.int .i64) w A0_6 l0_6.length l0_6) (hc0_6:l0_6.length≤c0_6) (h:laws_toConstraint.f k a0_0 a0_1 a0_2 a0_3 a0_4 l0_5 l0_6 a0_7=some (r1,r2,r3,r4,r5,r6,r7,r8)) :
  Calls Tryd.prog 7 #[.agg #[.int .i64 a0_0,.string a0_1,.string a0_2,.int .i64 a0_3,.string a0_4,.slice A0_5 l0_5.length c0_5,.slice A0_6 l0_6.length c0_6,.int .i64 a0_7]] w fun e w'=>∃ v5_ v6_:Value,e = .returned (.agg #[.int .i64 r1,.string r2,.string r3,.int .i64 r4,.string r5,v5_,v6_,.int .i64 r8])∧Kd.R k32 32 w' w.heap.size (fun _=>True) v5_ r6∧Kd.R (Kd.int .i64) 3 w' w.heap.size (fun _=>True) v6_ r7∧Below w.heap.size w w':=by
 have hu27:=Tryd.underlying27
 have hu34:=Tryd.underlying34
 have hu24:=Tryd.underlying24
 have hu32:=Tryd.underlying32
 have HR0_5:=zk hr0_5
 have HC0_5:=zk hc0_5
 clear hr0_5 hc0_5
 have HR0_6:=zk hr0_6
 have HC0_6:=zk hc0_6
 clear hr0_6 hc0_6
 have HB:=zk (Below.refl w.heap.size w)
 have H:((laws_toRegex.f k a0_3 a0_4 l0_5).bind fun bt7004=>((laws_toIntS.f k l0_6).bind fun t7009=>(some (a0_0,a0_1,a0_2,bt7004.1,bt7004.2.1,bt7004.2.2,t7009,a0_7))))=some (r1,r2,r3,r4,r5,r6,r7,r8):=h
 clear h
 replace H:=zo H
 obtain ⟨⟨t7004,t7005,t7006⟩,A20,H⟩:=H
 replace H:((laws_toIntS.f k l0_6).bind fun t7009=>(some (a0_0,a0_1,a0_2,t7004,t7005,t7006,t7009,a0_7)))=some (r1,r2,r3,r4,r5,r6,r7,r8):=H
 have A2:=zk A20
 clear A20
 replace H:=zo H
 obtain ⟨t7009,A30,H⟩:=H
 replace H:(some (a0_0,a0_1,a0_2,t7004,t7005,t7006,t7009,a0_7))=some (r1,r2,r3,r4,r5,r6,r7,r8):=H
 have A3:=zk A30
 clear A30
 simp only [Option.some.injEq,Prod.mk.injEq] at H
 obtain ⟨rfl,rfl,rfl,rfl,rfl,rfl,rfl,rfl⟩:=H
 go_enter Tryd.func7,Tryd.ntmps7
 go_wp2_with (first|((with_reducible refine gate_dst (N:=1) rfl ?_);refine zE (N:=1) (cs:=#[.int .i64 a0_0,.string a0_1,.string a0_2,.int .i64 a0_3,.string a0_4,.slice A0_5 l0_5.length c0_5,.slice A0_6 l0_6.length c0_6,.int .i64 a0_7]) (t:=27) ?_;intro gb7001 hg w4 hbox hb;have n0_:=zk (below_step za2 hb);have n1_:=zk (hbox);have n2_:=zk (zs (w:=w) hg za2);have n3_:=zk (zs (w:=w) hg za2);clear HB;have HB:=n0_;have BK7001:=n1_;have GW7001:=n2_;have GE7001:=n3_;clear n0_ n1_ n2_ n3_;clear hb hbox hg)|((with_reducible refine gate_dst (N:=2) rfl ?_);refine zE (N:=2) (cs:=#[.int .i64 0,.string (⟨#[]⟩:ByteArray),.string (⟨#[]⟩:ByteArray),.int .i64 0,.string (⟨#[]⟩:ByteArray),.slice none 0 0,.slice none 0 0,.int .i64 0]) (t:=34) ?_;intro gb7002 hg w5 hbox hb;have n0_:=zk (zb BK7001.out hb);have n1_:=zk (below_step za2 hb);have n2_:=zk (hbox);have n3_:=zk (zs (w:=w) hg za2);have n4_:=zk (zs (w:=w) hg za2);have n5_:=zk ((by rw [hg];exact Nat.ne_of_lt (zl BK7001.out):gb7001 ≠ gb7002));have n6_:=zk ((by rw [hg];exact Nat.ne_of_gt (zl BK7001.out):gb7002 ≠ gb7001));clear BK7001;clear HB;have BK7001:=n0_;have HB:=n1_;have BK7002:=n2_;have GW7002:=n3_;have GE7002:=n4_;have NB7001_7002:=n5_;have NB7002_7001:=n6_;clear n0_ n1_ n2_ n3_ n4_ n5_ n6_;clear hb hbox hg)|((with_reducible refine gate_dst (N:=3) rfl ?_);refine zE (N:=3) (cs:=#[.int .i64 0,.string (⟨#[]⟩:ByteArray),.string (⟨#[]⟩:ByteArray),.int .i64 0,.string (⟨#[]⟩:ByteArray),.slice none 0 0,.slice none 0 0,.int .i64 0]) (t:=34) ?_;intro gb7003 hg w6 hbox hb;have n0_:=zk (zb BK7001.out hb);have n1_:=zk (zb BK7002.out hb);have n2_:=zk (below_step za2 hb);have n3_:=zk (hbox);have n4_:=zk (zs (w:=w) hg za2);have n5_:=zk (zs (w:=w) hg za2);have n6_:=zk ((by rw [hg];exact Nat.ne_of_lt (zl BK7001.out):gb7001 ≠ gb7003));have n7_:=zk ((by rw [hg];exact Nat.ne_of_gt (zl BK7001.out):gb7003 ≠ gb7001));have n8_:=zk ((by rw [hg];exact Nat.ne_of_lt (zl BK7002.out):gb7002 ≠ gb7003));have n9_:=zk ((by rw [hg];exact Nat.ne_of_gt (zl BK7002.out):gb7003 ≠ gb7002));clear BK7001;clear BK7002;clear HB;have BK7001:=n0_;have BK7002:=n1_;have HB:=n2_;have BK7003:=n3_;have GW7003:=n4_;have GE7003:=n5_;have NB7001_7003:=n6_;have NB7003_7001:=n7_;have NB7002_7003:=n8_;have NB7003_7002:=n9_;clear n0_ n1_ n2_ n3_ n4_ n5_ n6_ n7_ n8_ n9_;clear hb hbox hg;have hnb7:=NB7001_7002.out;have hnc7:=NB7002_7001.out;have hnb8:=NB7001_7003.out;have hnc8:=NB7003_7001.out;obtain ⟨hcz9_0,hcz9_1,hcz9_2,hcz9_3,hcz9_4,hcz9_5,hcz9_6,hcz9_7,hfz9_0,hfz9_1,hfz9_2,hfz9_3,hfz9_4,hfz9_5,hfz9_6,hfz9_7⟩:=blk8 BK7001.out;have hnb10:=NB7003_7002.out;have hnc10:=NB7002_7003.out;obtain ⟨hcz11_0,hcz11_1,hcz11_2,hcz11_3,hcz11_4,hcz11_5,hcz11_6,hcz11_7,hfz11_0,hfz11_1,hfz11_2,hfz11_3,hfz11_4,hfz11_5,hfz11_6,hfz11_7⟩:=blk8 BK7003.out)|((with_reducible refine gate_callee (f:=21) rfl ?_);refine goesL_ (some 15) rfl rfl Tryd.func21 (by kernel_rfl) rfl #[.agg #[.int .i64 a0_3,.string a0_4,.slice A0_5 l0_5.length c0_5]] rfl za5 ?_;(with_reducible refine (laws_toRegex.calls k a0_3 a0_4 _ _ l0_5 t7004 t7005 t7006 _ ?side1 ?side2 A2.out).mono ?_);(case side1=>exact Kd.C_below HR0_5.out za2);(case side2=>exact HC0_5.out);rintro e w12 ⟨v7007,rfl,ho0,hb⟩;refine ⟨_,rfl,?_⟩;have n0_:=zk (Kd.R_lower ho0 (below_size za2));have n1_:=zk (blk_below (g:=gb7001) (o:=.cells #[.int .i64 a0_0,.string a0_1,.string a0_2,.int .i64 a0_3,.string a0_4,.slice A0_5 l0_5.length c0_5,.slice A0_6 l0_6.length c0_6,.int .i64 a0_7] 27 (0,0)) za15 hb);have n2_:=zk (blk_below (g:=gb7002) (o:=.cells #[.int .i64 0,.string (⟨#[]⟩:ByteArray),.string (⟨#[]⟩:ByteArray),.int .i64 0,.string (⟨#[]⟩:ByteArray),.slice none 0 0,.slice none 0 0,.int .i64 0] 34 (0,0)) za14 hb);have n3_:=zk (blk_below (g:=gb7003) (o:=.cells #[.int .i64 a0_0,.string a0_1,.string a0_2,.int .i64 0,.string (⟨#[]⟩:ByteArray),.slice none 0 0,.slice none 0 0,.int .i64 0] 34 (0,0)) (by (with_reducible repeat (first|refine blk_drewN ?_ _|refine blk_drew ?_|refine blk_alloc ?_ _));refine blk_put (cs:=#[.int .i64 a0_0,.string a0_1,.string (⟨#[]⟩:ByteArray),.int .i64 0,.string (⟨#[]⟩:ByteArray),.slice none 0 0,.slice none 0 0,.int .i64 0]) ?_ 2 _ rfl;(with_reducible repeat (first|refine blk_drewN ?_ _|refine blk_drew ?_|refine blk_alloc ?_ _));refine blk_put (cs:=#[.int .i64 a0_0,.string (⟨#[]⟩:ByteArray),.string (⟨#[]⟩:ByteArray),.int .i64 0,.string (⟨#[]⟩:ByteArray),.slice none 0 0,.slice none 0 0,.int .i64 0]) ?_ 1 _ rfl;(with_reducible repeat (first|refine blk_drewN ?_ _|refine blk_drew ?_|refine blk_alloc ?_ _));refine blk_put (cs:=#[.int .i64 0,.string (⟨#[]⟩:ByteArray),.string (⟨#[]⟩:ByteArray),.int .i64 0,.string (⟨#[]⟩:ByteArray),.slice none 0 0,.slice none 0 0,.int .i64 0]) ?_ 0 _ rfl;(with_reducible repeat (first|refine blk_drewN ?_ _|refine blk_drew ?_|refine blk_alloc ?_ _));exact BK7003.out) hb);have n4_:=zk (below_step za2 hb);clear BK7001;clear BK7002;clear BK7003;clear HB;have HO7008:=n0_;have BK7001:=n1_;have BK7002:=n2_;have BK7003:=n3_;have HB:=n4_;clear n0_ n1_ n2_ n3_ n4_;(try clear hb);(try clear hb2);(try clear hk);(try clear hi);(try clear ho0);obtain ⟨hcz13_0,hcz13_1,hcz13_2,hcz13_3,hcz13_4,hcz13_5,hcz13_6,hcz13_7,hfz13_0,hfz13_1,hfz13_2,hfz13_3,hfz13_4,hfz13_5,hfz13_6,hfz13_7⟩:=blk8 BK7003.out;obtain ⟨Ao14,co14,eo14⟩:=Kd.R_slice HO7008.out;subst eo14;obtain ⟨hcz15_0,hcz15_1,hcz15_2,hcz15_3,hcz15_4,hcz15_5,hcz15_6,hcz15_7,hfz15_0,hfz15_1,hfz15_2,hfz15_3,hfz15_4,hfz15_5,hfz15_6,hfz15_7⟩:=blk8 BK7001.out)|((with_reducible refine gate_callee (f:=22) rfl ?_);refine goesL_ (some 19) rfl rfl Tryd.func22 (by kernel_rfl) rfl #[.slice A0_6 l0_6.length c0_6] rfl za5 ?_;(with_reducible refine (laws_toIntS.calls k _ _ l0_6 t7009 _ ?side1 ?side2 A3.out).mono ?_);(case side1=>exact Kd.C_below HR0_6.out za2);(case side2=>exact HC0_6.out);rintro e w16 ⟨v7010,rfl,ho0,hb⟩;refine ⟨_,rfl,?_⟩;have n0_:=zk (Kd.R_below (by (with_reducible repeat (first|apply Kd.R_alloc|apply Kd.R_drewN|apply Kd.R_drew));exact (Kd.R_mono (Kd.R_far (p:=⟨gb7003,5,none⟩) (Kd.R_far (p:=⟨gb7003,4,none⟩) (Kd.R_far (p:=⟨gb7003,3,none⟩) (Kd.R_types HO7008.out BK7003.out (by decide)) (fun _ hk=>hk.2) (.int .i64 t7004)) (fun _ hk=>hk.2) (.string t7005)) (fun _ hk=>hk.2) (.slice Ao14 t7006.length co14)) (fun _ h_=>h_.1))) hb);have n1_:=zk (Kd.R_lower ho0 (below_size za2));have n2_:=zk (blk_below (g:=gb7001) (o:=.cells #[.int .i64 a0_0,.string a0_1,.string a0_2,.int .i64 a0_3,.string a0_4,.slice A0_5 l0_5.length c0_5,.slice A0_6 l0_6.length c0_6,.int .i64 a0_7] 27 (0,0)) za15 hb);have n3_:=zk (blk_below (g:=gb7002) (o:=.cells #[.int .i64 0,.string (⟨#[]⟩:ByteArray),.string (⟨#[]⟩:ByteArray),.int .i64 0,.string (⟨#[]⟩:ByteArray),.slice none 0 0,.slice none 0 0,.int .i64 0] 34 (0,0)) za14 hb);have n4_:=zk (blk_below (g:=gb7003) (o:=.cells #[.int .i64 a0_0,.string a0_1,.string a0_2,.int .i64 t7004,.string t7005,.slice Ao14 t7006.length co14,.slice none 0 0,.int .i64 0] 34 (0,0)) (by (with_reducible repeat (first|refine blk_drewN ?_ _|refine blk_drew ?_|refine blk_alloc ?_ _));refine blk_put (cs:=#[.int .i64 a0_0,.string a0_1,.string a0_2,.int .i64 t7004,.string t7005,.slice none 0 0,.slice none 0 0,.int .i64 0]) ?_ 5 _ rfl;(with_reducible repeat (first|refine blk_drewN ?_ _|refine blk_drew ?_|refine blk_alloc ?_ _));refine blk_put (cs:=#[.int .i64 a0_0,.string a0_1,.string a0_2,.int .i64 t7004,.string (⟨#[]⟩:ByteArray),.slice none 0 0,.slice none 0 0,.int .i64 0]) ?_ 4 _ rfl;(with_reducible repeat (first|refine blk_drewN ?_ _|refine blk_drew ?_|refine blk_alloc ?_ _));refine blk_put (cs:=#[.int .i64 a0_0,.string a0_1,.string a0_2,.int .i64 0,.string (⟨#[]⟩:ByteArray),.slice none 0 0,.slice none 0 0,.int .i64 0]) ?_ 3 _ rfl;(with_reducible repeat (first|refine blk_drewN ?_ _|refine blk_drew ?_|refine blk_alloc ?_ _));exact BK7003.out) hb);have n5_:=zk (below_step za2 hb);clear HO7008;clear BK7001;clear BK7002;clear BK7003;clear HB;have HO7008:=n0_;have HO7011:=n1_;have BK7001:=n2_;have BK7002:=n3_;have BK7003:=n4_;have HB:=n5_;clear n0_ n1_ n2_ n3_ n4_ n5_;(try clear hb);(try clear hb2);(try clear hk);(try clear hi);(try clear ho0);obtain ⟨Ao17,co17,eo17⟩:=Kd.R_slice HO7011.out;subst eo17;obtain ⟨hcz18_0,hcz18_1,hcz18_2,hcz18_3,hcz18_4,hcz18_5,hcz18_6,hcz18_7,hfz18_0,hfz18_1,hfz18_2,hfz18_3,hfz18_4,hfz18_5,hfz18_6,hfz18_7⟩:=blk8 BK7003.out;obtain ⟨hcz19_0,hcz19_1,hcz19_2,hcz19_3,hcz19_4,hcz19_5,hcz19_6,hcz19_7,hfz19_0,hfz19_1,hfz19_2,hfz19_3,hfz19_4,hfz19_5,hfz19_6,hfz19_7⟩:=blk8 BK7001.out;obtain ⟨hcz20_0,hcz20_1,hcz20_2,hcz20_3,hcz20_4,hcz20_5,hcz20_6,hcz20_7,hfz20_0,hfz20_1,hfz20_2,hfz20_3,hfz20_4,hfz20_5,hfz20_6,hfz20_7⟩:=blk8 BK7002.out))
 refine bodyPost_ret (results_cell_row rfl _ _ gb7002 34 #[.int .i64 a0_0,.string a0_1,.string a0_2,.int .i64 t7004,.string t7005,.slice Ao14 t7006.length co14,.slice Ao17 t7009.length co17,.int .i64 a0_7] (0,0) _ rfl (by (with_reducible repeat (first|refine blk_drewN ?_ _|refine blk_drew ?_|refine blk_alloc ?_ _));refine blk_put (cs:=#[.int .i64 a0_0,.string a0_1,.string a0_2,.int .i64 t7004,.string t7005,.slice Ao14 t7006.length co14,.slice Ao17 t7009.length co17,.int .i64 0]) ?_ 7 _ rfl;(with_reducible repeat (first|refine blk_drewN ?_ _|refine blk_drew ?_|refine blk_alloc ?_ _));refine blk_put (cs:=#[.int .i64 a0_0,.string a0_1,.string a0_2,.int .i64 t7004,.string t7005,.slice Ao14 t7006.length co14,.slice none 0 0,.int .i64 0]) ?_ 6 _ rfl;(with_reducible repeat (first|refine blk_drewN ?_ _|refine blk_drew ?_|refine blk_alloc ?_ _));refine blk_put (cs:=#[.int .i64 a0_0,.string a0_1,.string a0_2,.int .i64 t7004,.string t7005,.slice none 0 0,.slice none 0 0,.int .i64 0]) ?_ 5 _ rfl;(with_reducible repeat (first|refine blk_drewN ?_ _|refine blk_drew ?_|refine blk_alloc ?_ _));refine blk_put (cs:=#[.int .i64 a0_0,.string a0_1,.string a0_2,.int .i64 t7004,.string (⟨#[]⟩:ByteArray),.slice none 0 0,.slice none 0 0,.int .i64 0]) ?_ 4 _ rfl;(with_reducible repeat (first|refine blk_drewN ?_ _|refine blk_drew ?_|refine blk_alloc ?_ _));refine blk_put (cs:=#[.int .i64 a0_0,.string a0_1,.string a0_2,.int .i64 0,.string (⟨#[]⟩:ByteArray),.slice none 0 0,.slice none 0 0,.int .i64 0]) ?_ 3 _ rfl;(with_reducible repeat (first|refine blk_drewN ?_ _|refine blk_drew ?_|refine blk_alloc ?_ _));refine blk_put (cs:=#[.int .i64 a0_0,.string a0_1,.string (⟨#[]⟩:ByteArray),.int .i64 0,.string (⟨#[]⟩:ByteArray),.slice none 0 0,.slice none 0 0,.int .i64 0]) ?_ 2 _ rfl;(with_reducible repeat (first|refine blk_drewN ?_ _|refine blk_drew ?_|refine blk_alloc ?_ _));refine blk_put (cs:=#[.int .i64 a0_0,.string (⟨#[]⟩:ByteArray),.string (⟨#[]⟩:ByteArray),.int .i64 0,.string (⟨#[]⟩:ByteArray),.slice none 0 0,.slice none 0 0,.int .i64 0]) ?_ 1 _ rfl;(with_reducible repeat (first|refine blk_drewN ?_ _|refine blk_drew ?_|refine blk_alloc ?_ _));refine blk_put (cs:=#[.int .i64 0,.string (⟨#[]⟩:ByteArray),.string (⟨#[]⟩:ByteArray),.int .i64 0,.string (⟨#[]⟩:ByteArray),.slice none 0 0,.slice none 0 0,.int .i64 0]) ?_ 0 _ rfl;(with_reducible repeat (first|refine blk_drewN ?_ _|refine blk_drew ?_|refine blk_alloc ?_ _));refine blk_far ?_ NB7002_7003.out _;(with_reducible repeat (first|refine blk_drewN ?_ _|refine blk_drew ?_|refine blk_alloc ?_ _));refine blk_far ?_ NB7002_7003.out _;(with_reducible repeat (first|refine blk_drewN ?_ _|refine blk_drew ?_|refine blk_alloc ?_ _));exact BK7002.out) Tryd.underlying34 rfl (by kernel_rfl)) rfl ?_
 exact ⟨_,_,za6,by (with_reducible repeat (first|apply Kd.R_alloc|apply Kd.R_drewN|apply Kd.R_drew));exact Kd.R_mono (Kd.R_far (p:=⟨gb7002,7,none⟩) (Kd.R_far (p:=⟨gb7002,6,none⟩) (Kd.R_far (p:=⟨gb7002,5,none⟩) (Kd.R_far (p:=⟨gb7002,4,none⟩) (Kd.R_far (p:=⟨gb7002,3,none⟩) (Kd.R_far (p:=⟨gb7002,2,none⟩) (Kd.R_far (p:=⟨gb7002,1,none⟩) (Kd.R_far (p:=⟨gb7002,0,none⟩) (Kd.R_far (p:=⟨gb7003,7,none⟩) (Kd.R_far (p:=⟨gb7003,6,none⟩) (Kd.R_types (Kd.R_types HO7008.out BK7003.out (by decide)) BK7002.out (by decide)) (fun _ hk=>hk.1.2) (.slice Ao17 t7009.length co17)) (fun _ hk=>hk.1.2) (.int .i64 a0_7)) (fun _ hk=>hk.2) (.int .i64 a0_0)) (fun _ hk=>hk.2) (.string a0_1)) (fun _ hk=>hk.2) (.string a0_2)) (fun _ hk=>hk.2) (.int .i64 t7004)) (fun _ hk=>hk.2) (.string t7005)) (fun _ hk=>hk.2) (.slice Ao14 t7006.length co14)) (fun _ hk=>hk.2) (.slice Ao17 t7009.length co17)) (fun _ hk=>hk.2) (.int .i64 a0_7)) (fun _ hk=>trivial),by (with_reducible repeat (first|apply Kd.R_alloc|apply Kd.R_drewN|apply Kd.R_drew));exact Kd.R_mono (Kd.R_far (p:=⟨gb7002,7,none⟩) (Kd.R_far (p:=⟨gb7002,6,none⟩) (Kd.R_far (p:=⟨gb7002,5,none⟩) (Kd.R_far (p:=⟨gb7002,4,none⟩) (Kd.R_far (p:=⟨gb7002,3,none⟩) (Kd.R_far (p:=⟨gb7002,2,none⟩) (Kd.R_far (p:=⟨gb7002,1,none⟩) (Kd.R_far (p:=⟨gb7002,0,none⟩) (Kd.R_far (p:=⟨gb7003,7,none⟩) (Kd.R_far (p:=⟨gb7003,6,none⟩) (Kd.R_types (Kd.R_types HO7011.out BK7003.out (by decide)) BK7002.out (by decide)) (fun _ hk=>hk.1.2) (.slice Ao17 t7009.length co17)) (fun _ hk=>hk.1.2) (.int .i64 a0_7)) (fun _ hk=>hk.2) (.int .i64 a0_0)) (fun _ hk=>hk.2) (.string a0_1)) (fun _ hk=>hk.2) (.string a0_2)) (fun _ hk=>hk.2) (.int .i64 t7004)) (fun _ hk=>hk.2) (.string t7005)) (fun _ hk=>hk.2) (.slice Ao14 t7006.length co14)) (fun _ hk=>hk.2) (.slice Ao17 t7009.length co17)) (fun _ hk=>hk.2) (.int .i64 a0_7)) (fun _ hk=>trivial),za2⟩
def laws_eqConstraint.f (k:Nat) (a0_0:Int) (a0_1:ByteArray) (a0_2:ByteArray) (a0_3:Int) (a0_4:ByteArray) (l0_5:List (S32)) (l0_6:List Int) (a0_7:Int) (a1_0:Int) (a1_1:ByteArray) (a1_2:ByteArray) (a1_3:Int) (a1_4:ByteArray) (l1_5:List (S32)) (l1_6:List Int) (a1_7:Int):Option (Bool):=if a0_0=a1_0 then (if a0_1.toList=a1_1.toList then (if a0_2.toList=a1_2.toList then ((laws_eqRegex.f k a0_3 a0_4 l0_5 a1_3 a1_4 l1_5).bind fun t9003=>(if t9003=true then ((laws_eqIntS.f k l0_6 l1_6).bind fun t9004=>(if t9004=true then (if a0_7=a1_7 then (some true) else (some false)) else (some false))) else (some false))) else (some false)) else (some false)) else (some false)
theorem laws_eqConstraint.mono:∀ a0 a1 a2 a3 a4 a5 a6 a7 a8 a9 a10 a11 a12 a13 a14 a15 k,LeO (laws_eqConstraint.f k a0 a1 a2 a3 a4 a5 a6 a7 a8 a9 a10 a11 a12 a13 a14 a15) (laws_eqConstraint.f (k+1) a0 a1 a2 a3 a4 a5 a6 a7 a8 a9 a10 a11 a12 a13 a14 a15):=by
 intro a0 a1 a2 a3 a4 a5 a6 a7 a8 a9 a10 a11 a12 a13 a14 a15 k
 unfold laws_eqConstraint.f
 repeat' first
  | with_reducible first|exact laws_eqIntS.mono _ _ _|exact laws_eqRegex.mono _ _ _ _ _ _ _|exact LeO.refl _|exact LeO.none _|refine LeO.ite ?_ ?_|refine LeO.bind ?_ (fun _=>?_)
theorem laws_eqConstraint.calls (k:Nat) (a0_0:Int) (a0_1:ByteArray) (a0_2:ByteArray) (a0_3:Int) (a0_4:ByteArray) (A0_5:Option Addr) (c0_5:Nat) (l0_5:List (S32)) (A0_6:Option Addr) (c0_6:Nat) (l0_6:List Int) (a0_7:Int) (a1_0:Int) (a1_1:ByteArray) (a1_2:ByteArray) (a1_3:Int) (a1_4:ByteArray) (A1_5:Option Addr) (c1_5:Nat) (l1_5:List (S32)) (A1_6:Option Addr) (c1_6:Nat) (l1_6:List Int) (a1_7:Int) (r:Bool) (w:World) (hr0_5:Kd.C k32 w A0_5 l0_5.length l0_5) (hc0_5:l0_5.length≤c0_5) (hr0_6:Kd.C (Kd.int .i64) w A0_6 l0_6.length l0_6) (hc0_6:l0_6.length≤c0_6) (hr1_5:Kd.C k32 w A1_5 l1_5.length l1_5) (hc1_5:l1_5.length≤c1_5) (hr1_6:Kd.C (Kd.int .i64) w A1_6 l1_6.length l1_6) (hc1_6:l1_6.length≤c1_6) (h:laws_eqConstraint.f k a0_0 a0_1 a0_2 a0_3 a0_4 l0_5 l0_6 a0_7 a1_0 a1_1 a1_2 a1_3 a1_4 l1_5 l1_6 a1_7=some r) :
   Calls Tryd.prog 9 #[.agg #[.int .i64 a0_0,.string a0_1,.string a0_2,.int .i64 a0_3,.string a0_4,.slice A0_5 l0_5.length c0_5,.slice A0_6 l0_6.length c0_6,.int .i64 a0_7],.agg #[.int .i64 a1_0,.string a1_1,.string a1_2,.int .i64 a1_3,.string a1_4,.slice A1_5 l1_5.length c1_5,.slice A1_6 l1_6.length c1_6,.int .i64 a1_7]] w fun e w'=>e = .returned (.bool r)∧Below w.heap.size w w':=by
 have hu34:=Tryd.underlying34
 have hu32:=Tryd.underlying32
 have HR0_5:=zk hr0_5
 have HC0_5:=zk hc0_5
 clear hr0_5 hc0_5
 have HR0_6:=zk hr0_6
 have HC0_6:=zk hc0_6
 clear hr0_6 hc0_6
 have HR1_5:=zk hr1_5
 have HC1_5:=zk hc1_5
 clear hr1_5 hc1_5
 have HR1_6:=zk hr1_6
 have HC1_6:=zk hc1_6
 clear hr1_6 hc1_6
 have HB:=zk (Below.refl w.heap.size w)
 have H:(if a0_0=a1_0 then (if a0_1.toList=a1_1.toList then (if a0_2.toList=a1_2.toList then ((laws_eqRegex.f k a0_3 a0_4 l0_5 a1_3 a1_4 l1_5).bind fun t9003=>(if t9003=true then ((laws_eqIntS.f k l0_6 l1_6).bind fun t9004=>(if t9004=true then (if a0_7=a1_7 then (some true) else (some false)) else (some false))) else (some false))) else (some false)) else (some false)) else (some false))=some r:=h
 clear h
 by_cases c3:a0_0=a1_0
 rw [if_pos c3] at H
 have c3b0:(a0_0 == a1_0)=true:=beq_iff_eq.mpr c3
 have c3b1:(a0_0 != a1_0)=false:=bne_eq_false_iff_eq.mpr c3
 clear c3
 by_cases c4:a0_1.toList=a1_1.toList
 rw [if_pos c4] at H
 have c4b0:(a0_1.toList == a1_1.toList)=true:=beq_iff_eq.mpr c4
 have c4b1:(a0_1.toList != a1_1.toList)=false:=bne_eq_false_iff_eq.mpr c4
 clear c4
 by_cases c5:a0_2.toList=a1_2.toList
 rw [if_pos c5] at H
 have c5b0:(a0_2.toList == a1_2.toList)=true:=beq_iff_eq.mpr c5
 have c5b1:(a0_2.toList != a1_2.toList)=false:=bne_eq_false_iff_eq.mpr c5
 clear c5
 replace H:=zo H
 obtain ⟨t9003,A60,H⟩:=H
 replace H:(if t9003=true then ((laws_eqIntS.f k l0_6 l1_6).bind fun t9004=>(if t9004=true then (if a0_7=a1_7 then (some true) else (some false)) else (some false))) else (some false))=some r:=H
 have A6:=zk A60
 clear A60
 by_cases c7:t9003=true
 subst c7
 have H1:((laws_eqIntS.f k l0_6 l1_6).bind fun t9004=>(if t9004=true then (if a0_7=a1_7 then (some true) else (some false)) else (some false)))=some r:=by rw [if_pos rfl] at H;exact H
 clear H
 have H:=H1
 clear H1
 replace H:=zo H
 obtain ⟨t9004,A80,H⟩:=H
 replace H:(if t9004=true then (if a0_7=a1_7 then (some true) else (some false)) else (some false))=some r:=H
 have A8:=zk A80
 clear A80
 by_cases c9:t9004=true
 subst c9
 have H1:(if a0_7=a1_7 then (some true) else (some false))=some r:=by rw [if_pos rfl] at H;exact H
 clear H
 have H:=H1
 clear H1
 by_cases c10:a0_7=a1_7
 rw [if_pos c10] at H
 have c10b0:(a0_7 == a1_7)=true:=beq_iff_eq.mpr c10
 have c10b1:(a0_7 != a1_7)=false:=bne_eq_false_iff_eq.mpr c10
 clear c10
 rotate_left
 rw [if_neg c10] at H
 have c10b0:(a0_7 == a1_7)=false:=beq_eq_false_iff_ne.mpr c10
 have c10b1:(a0_7 != a1_7)=true:=bne_iff_ne.mpr c10
 rotate_left
 replace c9:=Bool.eq_false_iff.mpr c9
 subst c9
 have H1:(some false)=some r:=by rw [if_neg (show ¬ (false=true) by decide)] at H;exact H
 clear H
 have H:=H1
 clear H1
 rotate_left
 replace c7:=Bool.eq_false_iff.mpr c7
 subst c7
 have H1:(some false)=some r:=by rw [if_neg (show ¬ (false=true) by decide)] at H;exact H
 clear H
 have H:=H1
 clear H1
 rotate_left
 rw [if_neg c5] at H
 have c5b0:(a0_2.toList == a1_2.toList)=false:=beq_eq_false_iff_ne.mpr c5
 have c5b1:(a0_2.toList != a1_2.toList)=true:=bne_iff_ne.mpr c5
 rotate_left
 rw [if_neg c4] at H
 have c4b0:(a0_1.toList == a1_1.toList)=false:=beq_eq_false_iff_ne.mpr c4
 have c4b1:(a0_1.toList != a1_1.toList)=true:=bne_iff_ne.mpr c4
 rotate_left
 rw [if_neg c3] at H
 have c3b0:(a0_0 == a1_0)=false:=beq_eq_false_iff_ne.mpr c3
 have c3b1:(a0_0 != a1_0)=true:=bne_iff_ne.mpr c3
 rotate_left
 all_goals
  obtain rfl:=zi H
  go_enter Tryd.func9,Tryd.ntmps9
  go_wp2_with (first|((with_reducible refine gate_dst (N:=2) rfl ?_);refine zE (N:=2) (cs:=#[.int .i64 a0_0,.string a0_1,.string a0_2,.int .i64 a0_3,.string a0_4,.slice A0_5 l0_5.length c0_5,.slice A0_6 l0_6.length c0_6,.int .i64 a0_7]) (t:=34) ?_;intro gb9001 hg w11 hbox hb;have n0_:=zk (below_step za2 hb);have n1_:=zk (hbox);have n2_:=zk (zs (w:=w) hg za2);have n3_:=zk (zs (w:=w) hg za2);clear HB;have HB:=n0_;have BK9001:=n1_;have GW9001:=n2_;have GE9001:=n3_;clear n0_ n1_ n2_ n3_;clear hb hbox hg)|((with_reducible refine gate_dst (N:=3) rfl ?_);refine zE (N:=3) (cs:=#[.int .i64 a1_0,.string a1_1,.string a1_2,.int .i64 a1_3,.string a1_4,.slice A1_5 l1_5.length c1_5,.slice A1_6 l1_6.length c1_6,.int .i64 a1_7]) (t:=34) ?_;intro gb9002 hg w12 hbox hb;have n0_:=zk (zb BK9001.out hb);have n1_:=zk (below_step za2 hb);have n2_:=zk (hbox);have n3_:=zk (zs (w:=w) hg za2);have n4_:=zk (zs (w:=w) hg za2);have n5_:=zk ((by rw [hg];exact Nat.ne_of_lt (zl BK9001.out):gb9001 ≠ gb9002));have n6_:=zk ((by rw [hg];exact Nat.ne_of_gt (zl BK9001.out):gb9002 ≠ gb9001));clear BK9001;clear HB;have BK9001:=n0_;have HB:=n1_;have BK9002:=n2_;have GW9002:=n3_;have GE9002:=n4_;have NB9001_9002:=n5_;have NB9002_9001:=n6_;clear n0_ n1_ n2_ n3_ n4_ n5_ n6_;clear hb hbox hg;have hnb13:=NB9001_9002.out;have hnc13:=NB9002_9001.out;obtain ⟨hcz14_0,hcz14_1,hcz14_2,hcz14_3,hcz14_4,hcz14_5,hcz14_6,hcz14_7,hfz14_0,hfz14_1,hfz14_2,hfz14_3,hfz14_4,hfz14_5,hfz14_6,hfz14_7⟩:=blk8 BK9001.out;obtain ⟨hcz15_0,hcz15_1,hcz15_2,hcz15_3,hcz15_4,hcz15_5,hcz15_6,hcz15_7,hfz15_0,hfz15_1,hfz15_2,hfz15_3,hfz15_4,hfz15_5,hfz15_6,hfz15_7⟩:=blk8 BK9002.out)|((with_reducible refine gate_callee (f:=29) rfl ?_);refine goesL_ (some 24) rfl rfl Tryd.func29 (by kernel_rfl) rfl #[.agg #[.int .i64 a0_3,.string a0_4,.slice A0_5 l0_5.length c0_5],.agg #[.int .i64 a1_3,.string a1_4,.slice A1_5 l1_5.length c1_5]] rfl za5 ?_;(with_reducible refine (laws_eqRegex.calls k a0_3 a0_4 _ _ l0_5 a1_3 a1_4 _ _ l1_5 _ _ ?side1 ?side2 ?side3 ?side4 A6.out).mono ?_);(case side1=>repeat (first|exact (Kd.C_below HR0_5.out HB.out)|(with_reducible refine Kd.C_alloc ?_ _)|(with_reducible refine Kd.C_drewN ?_ _)|(with_reducible refine Kd.C_drew ?_)));(case side2=>exact HC0_5.out);(case side3=>repeat (first|exact (Kd.C_below HR1_5.out HB.out)|(with_reducible refine Kd.C_alloc ?_ _)|(with_reducible refine Kd.C_drewN ?_ _)|(with_reducible refine Kd.C_drew ?_)));(case side4=>exact HC1_5.out);rintro e w16 ⟨rfl,hb⟩;refine ⟨_,rfl,?_⟩;have n0_:=zk (zb BK9001.out hb);have n1_:=zk (zb BK9002.out hb);have n2_:=zk (below_step za2 hb);clear BK9001;clear BK9002;clear HB;have BK9001:=n0_;have BK9002:=n1_;have HB:=n2_;clear n0_ n1_ n2_;(try clear hb);(try clear hb2);(try clear hk);(try clear hi);obtain ⟨hcz17_0,hcz17_1,hcz17_2,hcz17_3,hcz17_4,hcz17_5,hcz17_6,hcz17_7,hfz17_0,hfz17_1,hfz17_2,hfz17_3,hfz17_4,hfz17_5,hfz17_6,hfz17_7⟩:=blk8 BK9001.out;obtain ⟨hcz18_0,hcz18_1,hcz18_2,hcz18_3,hcz18_4,hcz18_5,hcz18_6,hcz18_7,hfz18_0,hfz18_1,hfz18_2,hfz18_3,hfz18_4,hfz18_5,hfz18_6,hfz18_7⟩:=blk8 BK9002.out)|((with_reducible refine gate_callee (f:=30) rfl ?_);refine goesL_ (some 30) rfl rfl Tryd.func30 (by kernel_rfl) rfl #[.slice A0_6 l0_6.length c0_6,.slice A1_6 l1_6.length c1_6] rfl za5 ?_;(with_reducible refine (laws_eqIntS.calls k _ _ l0_6 _ _ l1_6 _ _ ?side1 ?side2 ?side3 ?side4 A8.out).mono ?_);(case side1=>repeat (first|exact (Kd.C_below HR0_6.out HB.out)|(with_reducible refine Kd.C_alloc ?_ _)|(with_reducible refine Kd.C_drewN ?_ _)|(with_reducible refine Kd.C_drew ?_)));(case side2=>exact HC0_6.out);(case side3=>repeat (first|exact (Kd.C_below HR1_6.out HB.out)|(with_reducible refine Kd.C_alloc ?_ _)|(with_reducible refine Kd.C_drewN ?_ _)|(with_reducible refine Kd.C_drew ?_)));(case side4=>exact HC1_6.out);rintro e w' ⟨rfl,⟨nd,rfl⟩⟩;refine ⟨_,rfl,?_⟩))
  go_ret
  exact ⟨za6,za2⟩
def laws_szConstraintS.l0:Nat→List (S27)→Int→Int→Option (Int)
 | 0,_,_,_=>none
 | k+1,x0,x1,x5=>if x5 < (x0.length:Int) then (if 0≤x5 then ((laws_szConstraint.f k ((rd_T27 x0 x5).f0) ((rd_T27 x0 x5).f1) ((rd_T27 x0 x5).f2) ((rd_T27 x0 x5).f3.f0) ((rd_T27 x0 x5).f3.f1) ((rd_T27 x0 x5).f3.f2) ((rd_T27 x0 x5).f4) ((rd_T27 x0 x5).f5) x1).bind fun t31002=>(if t31002 < 0 then (some (-1)) else (laws_szConstraintS.l0 k x0 t31002 (wrap64 (x5+1))))) else (none)) else (some x1)
def laws_szConstraintS.f (k:Nat) (l0:List (S27)) (a1:Int):Option (Int):=if (wrap64 (a1 - (l0.length:Int))) < 0 then (some (-1)) else (laws_szConstraintS.l0 k l0 (wrap64 (a1 - (l0.length:Int))) 0)
theorem laws_szConstraintS.mono_l:∀ k,(∀ y0 y1 y2,LeO (laws_szConstraintS.l0 k y0 y1 y2) (laws_szConstraintS.l0 (k+1) y0 y1 y2))
 | 0=>fun _ _ _ r h=>by simp [laws_szConstraintS.l0] at h
 | k+1=>by
  have ih0:=laws_szConstraintS.mono_l k
  ·intro y0 y1 y2
   unfold laws_szConstraintS.l0
   repeat' first
   | with_reducible first|exact ih0 _ _ _|exact laws_szConstraint.mono _ _ _ _ _ _ _ _ _ _|exact LeO.refl _|exact LeO.none _|refine LeO.ite ?_ ?_|refine LeO.bind ?_ (fun _=>?_)
theorem laws_szConstraintS.mono:∀ a0 a1 k,LeO (laws_szConstraintS.f k a0 a1) (laws_szConstraintS.f (k+1) a0 a1):=by
 intro a0 a1 k
 have ih0:=laws_szConstraintS.mono_l k
 unfold laws_szConstraintS.f
 repeat' first
  | with_reducible first|exact ih0 _ _ _|exact laws_szConstraint.mono _ _ _ _ _ _ _ _ _ _|exact LeO.refl _|exact LeO.none _|refine LeO.ite ?_ ?_|refine LeO.bind ?_ (fun _=>?_)
theorem laws_szConstraintS.calls (k:Nat) (A0:Option Addr) (c0:Nat) (l0:List (S27)) (a1:Int) (r:Int) (w:World) (hr0:Kd.C k27 w A0 l0.length l0) (hc0:l0.length≤c0) (h:laws_szConstraintS.f k l0 a1=some r) :
  Calls Tryd.prog 31 #[.slice A0 l0.length c0,.int .i64 a1] w fun e w'=>e = .returned (.int .i64 r)∧Below w.heap.size w w':=by
 have hu27:=Tryd.underlying27
 have HR0:=zk hr0
 have HC0:=zk hc0
 clear hr0 hc0
 have HB:=zk (Below.refl w.heap.size w)
 have H:(if (wrap64 (a1 - (l0.length:Int))) < 0 then (some (-1)) else (laws_szConstraintS.l0 k l0 (wrap64 (a1 - (l0.length:Int))) 0))=some r:=h
 clear h
 by_cases c3:(wrap64 (a1 - (l0.length:Int))) < 0
 ·rw [if_pos c3] at H
  have c3b0:decide ((wrap64 (a1 - (l0.length:Int))) < 0)=true:=decide_eq_true c3
  have c3w:decide ((IntKind.i64.wrap (a1 - (l0.length:Int))) < 0)=true:=by simp only [i64_w];exact c3b0
  clear c3
  obtain rfl:=zi H
  go_enter Tryd.func31,Tryd.ntmps31
  go_wp2
  go_ret
  exact ⟨za6,za2⟩
 ·rw [if_neg c3] at H
  have c3b0:decide ((wrap64 (a1 - (l0.length:Int))) < 0)=false:=decide_eq_false c3
  have c3w:decide ((IntKind.i64.wrap (a1 - (l0.length:Int))) < 0)=false:=by simp only [i64_w];exact c3b0
  clear c3
  have H':=zk H
  clear H
  go_enter Tryd.func31,Tryd.ntmps31
  go_wp2
  first|go_loopg [1,5] k (fun kq v1 v5 w'=>∃ (x1_1:Int) (x5_1:Int),v1 = .int .i64 x1_1∧v5 = .int .i64 x5_1∧Aside0 (laws_szConstraintS.l0 kq l0 x1_1 x5_1=some r)∧Aside0 (kq≤k)∧Aside0 (Below w.heap.size w w'))|(simp only [Act.put,zt,zv,zu];go_loopg [1,5] k (fun kq v1 v5 w'=>∃ (x1_1:Int) (x5_1:Int),v1 = .int .i64 x1_1∧v5 = .int .i64 x5_1∧Aside0 (laws_szConstraintS.l0 kq l0 x1_1 x5_1=some r)∧Aside0 (kq≤k)∧Aside0 (Below w.heap.size w w')))
  case atStart=>exact ⟨(wrap64 (a1 - (l0.length:Int))),(0),za7,za7,H',⟨Nat.le_refl _⟩,⟨za2⟩⟩
  case round =>
   clear H'
   try clear c3
   try clear c3b0
   obtain ⟨x1_1,x5_1,rfl,rfl,HA,HK1,HB⟩:=hrel
   cases gk with
   | zero=>exact absurd HA.out (by simp [laws_szConstraintS.l0])
   | succ k1 =>
    have H:=HA.out
    clear HA
    simp only [laws_szConstraintS.l0] at H
    by_cases c4:x5_1 < (l0.length:Int)
    rw [if_pos c4] at H
    have c4b0:decide (x5_1 < (l0.length:Int))=true:=decide_eq_true c4
    clear c4
    by_cases c5:0≤x5_1
    rw [if_pos c5] at H
    have c5b0:decide (0≤x5_1)=true:=decide_eq_true c5
    clear c5
    replace H:=zo H
    obtain ⟨t31002,A60,H⟩:=H
    replace H:(if t31002 < 0 then (some (-1)) else (laws_szConstraintS.l0 k1 l0 t31002 (wrap64 (x5_1+1))))=some r:=H
    have A6:=zk A60
    clear A60
    by_cases c7:t31002 < 0
    rw [if_pos c7] at H
    have c7b0:decide (t31002 < 0)=true:=decide_eq_true c7
    clear c7
    obtain rfl:=zi H
    have fin0_:=zk trivial
    rotate_left
    rw [if_neg c7] at H
    have c7b0:decide (t31002 < 0)=false:=decide_eq_false c7
    clear c7
    have H':=zk H
    clear H
    have fin1_:=zk trivial
    rotate_left
    · rw [if_neg c5] at H
      exact absurd H (by simp)
    · rw [if_neg c4] at H
      have c4b0:decide (x5_1 < (l0.length:Int))=false:=decide_eq_false c4
      clear c4
      obtain rfl:=zi H
      go_wp2
      go_ret
      exact ⟨za6,za2⟩
    all_goals
     have p31001:0≤(x5_1:Int):=of_decide_eq_true za8
     have q31001:x5_1 < (l0.length:Int):=of_decide_eq_true za8
     obtain ⟨ad31001,A31001_5,c31001_5,A31001_6,c31001_6,e31001,hx31001_0,hx31001_1,hx31001_2,hx31001_3,hx31001_4,hx31001_5,hx31001_6,hx31001_7,hl31001_5,hi31001_5,hl31001_6,hi31001_6⟩:=at_T27 HR0.out x5_1 p31001 q31001
     cases e31001
     replace hx31001_0:=zx HB.out hx31001_0
     replace hx31001_1:=zx HB.out hx31001_1
     replace hx31001_2:=zx HB.out hx31001_2
     replace hx31001_3:=zx HB.out hx31001_3
     replace hx31001_4:=zx HB.out hx31001_4
     replace hx31001_5:=zx HB.out hx31001_5
     replace hx31001_6:=zx HB.out hx31001_6
     replace hx31001_7:=zx HB.out hx31001_7
     have HR31001_5:=zk hi31001_5
     have HC31001_5:=zk hl31001_5
     clear hi31001_5 hl31001_5
     have HR31001_6:=zk hi31001_6
     have HC31001_6:=zk hl31001_6
     clear hi31001_6 hl31001_6
     replace p31001:=eq_true p31001
     replace q31001:=eq_true q31001
     go_wp2_with (((with_reducible refine gate_callee (f:=5) rfl ?_);refine goesL_ (some 23) rfl rfl Tryd.func5 (by kernel_rfl) rfl #[.agg #[.int .i64 ((rd_T27 l0 x5_1).f0),.string ((rd_T27 l0 x5_1).f1),.string ((rd_T27 l0 x5_1).f2),.int .i64 ((rd_T27 l0 x5_1).f3.f0),.string ((rd_T27 l0 x5_1).f3.f1),.slice A31001_5 ((rd_T27 l0 x5_1).f3.f2).length c31001_5,.slice A31001_6 ((rd_T27 l0 x5_1).f4).length c31001_6,.int .i64 ((rd_T27 l0 x5_1).f5)],.int .i64 x1_1] rfl za5 ?_;(with_reducible refine (laws_szConstraint.calls k1 ((rd_T27 l0 x5_1).f0) ((rd_T27 l0 x5_1).f1) ((rd_T27 l0 x5_1).f2) ((rd_T27 l0 x5_1).f3.f0) ((rd_T27 l0 x5_1).f3.f1) _ _ ((rd_T27 l0 x5_1).f3.f2) _ _ ((rd_T27 l0 x5_1).f4) ((rd_T27 l0 x5_1).f5) x1_1 t31002 _ ?side1 ?side2 ?side3 ?side4 A6.out).mono ?_);(case side1=>repeat (first|exact (Kd.C_below HR31001_5.out HB.out)|(with_reducible refine Kd.C_alloc ?_ _)|(with_reducible refine Kd.C_drewN ?_ _)|(with_reducible refine Kd.C_drew ?_)));(case side2=>exact HC31001_5.out);(case side3=>repeat (first|exact (Kd.C_below HR31001_6.out HB.out)|(with_reducible refine Kd.C_alloc ?_ _)|(with_reducible refine Kd.C_drewN ?_ _)|(with_reducible refine Kd.C_drew ?_)));(case side4=>exact HC31001_6.out);rintro e w8 ⟨rfl,hb⟩;refine ⟨_,rfl,?_⟩;have n0_:=zk (below_step za2 hb);clear HB;have HB:=n0_;clear n0_;(try clear hb);(try clear hb2);(try clear hk);(try clear hi)))
     first
     | (
       clear fin0_
       go_ret
       exact ⟨za6,za2⟩)
     | (
       clear fin1_
       go_roundg k1
       case measure=>have:=HK1.out;omega
       case rel=>exact ⟨(t31002),(wrap64 (x5_1+1)),za7,za7,H',⟨za13⟩,⟨za2⟩⟩)
def laws_toConstraintS.l0:Nat→List (S27)→List (S34)→Int→Option ((List (S34)))
 | 0,_,_,_=>none
 | k+1,x0,x3,x4=>if x4 < (x0.length:Int) then (if 0≤x4 then ((laws_toConstraint.f k ((rd_T27 x0 x4).f0) ((rd_T27 x0 x4).f1) ((rd_T27 x0 x4).f2) ((rd_T27 x0 x4).f3.f0) ((rd_T27 x0 x4).f3.f1) ((rd_T27 x0 x4).f3.f2) ((rd_T27 x0 x4).f4) ((rd_T27 x0 x4).f5)).bind fun bt33005=>(if x4 < (x3.length:Int) then (laws_toConstraintS.l0 k x0 (x3.set (x4:Int).toNat (⟨bt33005.1,bt33005.2.1,bt33005.2.2.1,(⟨bt33005.2.2.2.1,bt33005.2.2.2.2.1,bt33005.2.2.2.2.2.1⟩:S32),bt33005.2.2.2.2.2.2.1,bt33005.2.2.2.2.2.2.2⟩:S34)) (wrap64 (x4+1))) else (none))) else (none)) else (some x3)
def laws_toConstraintS.f (k:Nat) (l0:List (S27)):Option ((List (S34))):=if 0≤(l0.length:Int) then (if ((l0.length:Int):Int).toNat≤2345624805922 then (laws_toConstraintS.l0 k l0 (List.replicate ((l0.length:Int):Int).toNat z34) 0) else (none)) else (none)
theorem laws_toConstraintS.mono_l:∀ k,(∀ y0 y1 y2,LeO (laws_toConstraintS.l0 k y0 y1 y2) (laws_toConstraintS.l0 (k+1) y0 y1 y2))
 | 0=>fun _ _ _ r h=>by simp [laws_toConstraintS.l0] at h
 | k+1=>by
  have ih0:=laws_toConstraintS.mono_l k
  ·intro y0 y1 y2
   unfold laws_toConstraintS.l0
   repeat' first
   | with_reducible first|exact ih0 _ _ _|exact laws_toConstraint.mono _ _ _ _ _ _ _ _ _|exact LeO.refl _|exact LeO.none _|refine LeO.ite ?_ ?_|refine LeO.bind ?_ (fun _=>?_)
theorem laws_toConstraintS.mono:∀ a0 k,LeO (laws_toConstraintS.f k a0) (laws_toConstraintS.f (k+1) a0):=by
 intro a0 k
 have ih0:=laws_toConstraintS.mono_l k
 unfold laws_toConstraintS.f
 repeat' first
  | with_reducible first|exact ih0 _ _ _|exact laws_toConstraint.mono _ _ _ _ _ _ _ _ _|exact LeO.refl _|exact LeO.none _|refine LeO.ite ?_ ?_|refine LeO.bind ?_ (fun _=>?_)
theorem laws_toConstraintS.calls (k:Nat) (A0:Option Addr) (c0:Nat) (l0:List (S27)) (r:List (S34)) (w:World) (hr0:Kd.C k27 w A0 l0.length l0) (hc0:l0.length≤c0) (h:laws_toConstraintS.f k l0=some r) :
  Calls Tryd.prog 33 #[.slice A0 l0.length c0] w fun e w'=>∃ v0_:Value,e = .returned (v0_)∧Kd.R k34 34 w' w.heap.size (fun _=>True) v0_ r∧Below w.heap.size w w':=by
 have hu27:=Tryd.underlying27
 have hu34:=Tryd.underlying34
 have HR0:=zk hr0
 have HC0:=zk hc0
 clear hr0 hc0
 have HB:=zk (Below.refl w.heap.size w)
 have H:(if 0≤(l0.length:Int) then (if ((l0.length:Int):Int).toNat≤2345624805922 then (laws_toConstraintS.l0 k l0 (List.replicate ((l0.length:Int):Int).toNat z34) 0) else (none)) else (none))=some r:=h
 clear h
 by_cases c2:0≤(l0.length:Int)
 rw [if_pos c2] at H
 have c2b0:=eq_true c2
 have c2b1:decide (0≤(l0.length:Int))=true:=decide_eq_true c2
 clear c2
 by_cases c3:((l0.length:Int):Int).toNat≤2345624805922
 ·rw [if_pos c3] at H
  have c3b0:=eq_true c3
  have c3b1:decide (((l0.length:Int):Int).toNat≤2345624805922)=true:=decide_eq_true c3
  clear c3
  obtain ⟨y33001,hy33001⟩:∃ y_:List (S34),y_=(List.replicate ((l0.length:Int):Int).toNat z34):=⟨_,rfl⟩
  replace H:(laws_toConstraintS.l0 k l0 y33001 0)=some r:=by first|(rw [hy33001];with_reducible exact H)|(have H2_:=(Option.bind_some _ _).symm.trans H;rw [hy33001];with_reducible exact H2_)|(have H2_:=(Option.bind_some _ _).symm.trans H;with_reducible exact H2_)|with_reducible exact H|(rw [hy33001];exact H)|exact H
  have Ny33001:=zk hy33001
  clear hy33001
  have H':=zk H
  clear H
  go_enter Tryd.func33,Tryd.ntmps33
  go_wp2_with (first|((with_reducible refine gate_dst (N:=7) rfl ?_);refine Kd.R_make k34 _ 34 rfl (N:=7) rfl 43 _ _ rfl (l0.length:Int) rfl rfl Tryd.underlying43 (.agg #[(.int .i64 0),(.string ⟨#[]⟩),(.string ⟨#[]⟩),(.int .i64 0),(.string ⟨#[]⟩),(.slice none 0 0),(.slice none 0 0),(.int .i64 0)]) 120 info34 rfl (by decide) (by omega) z34 (ok:=fun _=>True) (okp:=fun _=>True) (k34_mkM _ _ _ z34 (Kd.R_nil _ _ _ _ _) (Kd.R_nil _ _ _ _ _)) (fun _ hk=>hk) trivial (of_decide_eq_true za8) (Nat.le_trans (Nat.mul_le_mul_right _ (of_decide_eq_true za8:(l0.length:Int).toNat≤2345624805922)) (by omega)) (Below.refl _ _) (Nat.le_refl _) ?_;intro v33002 w4 ho5 hb hg_ hnew_;clear hg_ hnew_;(first|rw [← Ny33001.out] at ho5|(simp only [Int.reduceToNat] at ho5;rw [← Ny33001.out] at ho5));have n0_:=zk (Kd.R_lower ho5 (below_size za2));have n1_:=zk (below_step za2 hb);clear HB;have HO33003:=n0_;have HB:=n1_;clear n0_ n1_;clear hb ho5))
  first|go_loopg [4] k (fun kq v4 w'=>∃ (x3_1:List (S34)) (x4_1:Int),v4 = .int .i64 x4_1∧Aside0 (laws_toConstraintS.l0 kq l0 x3_1 x4_1=some r)∧Aside0 (kq≤k)∧Aside0 (Kd.R k34 34 w' w.heap.size (fun _=>True) v33002 x3_1)∧Aside0 (Below w.heap.size w w'))|(simp only [Act.put,zt,zv,zu];go_loopg [4] k (fun kq v4 w'=>∃ (x3_1:List (S34)) (x4_1:Int),v4 = .int .i64 x4_1∧Aside0 (laws_toConstraintS.l0 kq l0 x3_1 x4_1=some r)∧Aside0 (kq≤k)∧Aside0 (Kd.R k34 34 w' w.heap.size (fun _=>True) v33002 x3_1)∧Aside0 (Below w.heap.size w w')))
  case atStart=>exact ⟨(y33001),(0),za7,H',⟨Nat.le_refl _⟩,⟨za1 HO33003.out⟩,⟨za2⟩⟩
  case round =>
   clear H'
   try clear c3
   try clear c3b0
   try clear c3b1
   obtain ⟨x3_1,x4_1,rfl,HA,HK1,HO_3,HB⟩:=hrel
   cases gk with
   | zero=>exact absurd HA.out (by simp [laws_toConstraintS.l0])
   | succ k1 =>
    have H:=HA.out
    clear HA
    simp only [laws_toConstraintS.l0] at H
    by_cases c6:x4_1 < (l0.length:Int)
    rw [if_pos c6] at H
    have c6b0:decide (x4_1 < (l0.length:Int))=true:=decide_eq_true c6
    clear c6
    by_cases c7:0≤x4_1
    rw [if_pos c7] at H
    have c7b0:decide (0≤x4_1)=true:=decide_eq_true c7
    clear c7
    replace H:=zo H
    obtain ⟨⟨t33005,t33006,t33007,t33008,t33009,t33010,t33013,t33016⟩,A80,H⟩:=H
    replace H:(if x4_1 < (x3_1.length:Int) then (laws_toConstraintS.l0 k1 l0 (x3_1.set (x4_1:Int).toNat (⟨t33005,t33006,t33007,(⟨t33008,t33009,t33010⟩:S32),t33013,t33016⟩:S34)) (wrap64 (x4_1+1))) else (none))=some r:=H
    have A8:=zk A80
    clear A80
    by_cases c9:x4_1 < (x3_1.length:Int)
    ·rw [if_pos c9] at H
     have c9b0:decide (x4_1 < (x3_1.length:Int))=true:=decide_eq_true c9
     clear c9
     obtain ⟨y33017,hy33017⟩:∃ y_:List (S34),y_=(x3_1.set (x4_1:Int).toNat (⟨t33005,t33006,t33007,(⟨t33008,t33009,t33010⟩:S32),t33013,t33016⟩:S34)):=⟨_,rfl⟩
     replace H:(laws_toConstraintS.l0 k1 l0 y33017 (wrap64 (x4_1+1)))=some r:=by first|(rw [hy33017];with_reducible exact H)|(have H2_:=(Option.bind_some _ _).symm.trans H;rw [hy33017];with_reducible exact H2_)|(have H2_:=(Option.bind_some _ _).symm.trans H;with_reducible exact H2_)|with_reducible exact H|(rw [hy33017];exact H)|exact H
     have Ny33017:=zk hy33017
     clear hy33017
     have H':=zk H
     clear H
     have p33004:0≤(x4_1:Int):=of_decide_eq_true za8
     have q33004:x4_1 < (l0.length:Int):=of_decide_eq_true za8
     obtain ⟨ad33004,A33004_5,c33004_5,A33004_6,c33004_6,e33004,hx33004_0,hx33004_1,hx33004_2,hx33004_3,hx33004_4,hx33004_5,hx33004_6,hx33004_7,hl33004_5,hi33004_5,hl33004_6,hi33004_6⟩:=at_T27 HR0.out x4_1 p33004 q33004
     cases e33004
     replace hx33004_0:=zx HB.out hx33004_0
     replace hx33004_1:=zx HB.out hx33004_1
     replace hx33004_2:=zx HB.out hx33004_2
     replace hx33004_3:=zx HB.out hx33004_3
     replace hx33004_4:=zx HB.out hx33004_4
     replace hx33004_5:=zx HB.out hx33004_5
     replace hx33004_6:=zx HB.out hx33004_6
     replace hx33004_7:=zx HB.out hx33004_7
     have HR33004_5:=zk hi33004_5
     have HC33004_5:=zk hl33004_5
     clear hi33004_5 hl33004_5
     have HR33004_6:=zk hi33004_6
     have HC33004_6:=zk hl33004_6
     clear hi33004_6 hl33004_6
     replace p33004:=eq_true p33004
     replace q33004:=eq_true q33004
     go_wp2_with (first|((with_reducible refine gate_callee (f:=7) rfl ?_);refine goesL_ (some 20) rfl rfl Tryd.func7 (by kernel_rfl) rfl #[.agg #[.int .i64 ((rd_T27 l0 x4_1).f0),.string ((rd_T27 l0 x4_1).f1),.string ((rd_T27 l0 x4_1).f2),.int .i64 ((rd_T27 l0 x4_1).f3.f0),.string ((rd_T27 l0 x4_1).f3.f1),.slice A33004_5 ((rd_T27 l0 x4_1).f3.f2).length c33004_5,.slice A33004_6 ((rd_T27 l0 x4_1).f4).length c33004_6,.int .i64 ((rd_T27 l0 x4_1).f5)]] rfl za5 ?_;(with_reducible refine (laws_toConstraint.calls k1 ((rd_T27 l0 x4_1).f0) ((rd_T27 l0 x4_1).f1) ((rd_T27 l0 x4_1).f2) ((rd_T27 l0 x4_1).f3.f0) ((rd_T27 l0 x4_1).f3.f1) _ _ ((rd_T27 l0 x4_1).f3.f2) _ _ ((rd_T27 l0 x4_1).f4) ((rd_T27 l0 x4_1).f5) t33005 t33006 t33007 t33008 t33009 t33010 t33013 t33016 _ ?side1 ?side2 ?side3 ?side4 A8.out).mono ?_);(case side1=>repeat (first|exact (Kd.C_below HR33004_5.out HB.out)|(with_reducible refine Kd.C_alloc ?_ _)|(with_reducible refine Kd.C_drewN ?_ _)|(with_reducible refine Kd.C_drew ?_)));(case side2=>exact HC33004_5.out);(case side3=>repeat (first|exact (Kd.C_below HR33004_6.out HB.out)|(with_reducible refine Kd.C_alloc ?_ _)|(with_reducible refine Kd.C_drewN ?_ _)|(with_reducible refine Kd.C_drew ?_)));(case side4=>exact HC33004_6.out);rintro e w11 ⟨v33011,v33014,rfl,ho0,ho1,hb⟩;refine ⟨_,rfl,?_⟩;have n0_:=zk (Kd.R_mono (Kd.R_told (Kd.R_told (Kd.R_old (za1 HO_3.out) hb) (Kd.R_base ho0)) (Kd.R_base ho1)) (fun _ h_=>h_.1));have n1_:=zk (Kd.R_lower ho0 (below_size za2));have n2_:=zk (Kd.R_lower ho1 (below_size za2));have n3_:=zk (below_step za2 hb);clear HO_3;clear HB;have HO_3:=n0_;have HO33012:=n1_;have HO33015:=n2_;have HB:=n3_;clear n0_ n1_ n2_ n3_;(try clear hb);(try clear hb2);(try clear hk);(try clear hi);(try clear ho0);(try clear ho1);have p10:0≤(x4_1:Int):=of_decide_eq_true za8;have q10:(x4_1:Int) < ((x3_1.length:Int):Int):=of_decide_eq_true za8;obtain ⟨go10,co10,eo10,gb10,gl10,cl10,HG10⟩:=Kd.R_form HO_3.out (by omega);(first|cases eo10|(injection eo10 with ea_ en_ ec_;(first|subst ea_|(injection ea_ with ea_;subst ea_));subst ec_;clear en_));have GB10:=zk gb10;have GG10:=zk HG10;clear gb10 gl10 HG10;obtain ⟨ce10,hcl10,hM10,hcc10,hfr10⟩:=Kd.R_elem HO_3.out z34 (x4_1:Int) p10 q10;obtain ⟨ve10_5,ve10_6,rfl,ge10_5,ge10_6⟩:=k34_openM hM10;have hx10_0:w11.cell? ⟨go10,(x4_1:Int).toNat * 8,none⟩=some (.int .i64 ((rd_T34 x3_1 x4_1).f0)):=hcc10 0 _ rfl;have hx10_1:w11.cell? ⟨go10,(x4_1:Int).toNat * 8+1,none⟩=some (.string ((rd_T34 x3_1 x4_1).f1)):=hcc10 1 _ rfl;have hx10_2:w11.cell? ⟨go10,(x4_1:Int).toNat * 8+2,none⟩=some (.string ((rd_T34 x3_1 x4_1).f2)):=hcc10 2 _ rfl;have hx10_3:w11.cell? ⟨go10,(x4_1:Int).toNat * 8+3,none⟩=some (.int .i64 ((rd_T34 x3_1 x4_1).f3.f0)):=hcc10 3 _ rfl;have hx10_4:w11.cell? ⟨go10,(x4_1:Int).toNat * 8+4,none⟩=some (.string ((rd_T34 x3_1 x4_1).f3.f1)):=hcc10 4 _ rfl;have hx10_5:w11.cell? ⟨go10,(x4_1:Int).toNat * 8+5,none⟩=some (ve10_5):=hcc10 5 _ rfl;have hx10_6:w11.cell? ⟨go10,(x4_1:Int).toNat * 8+6,none⟩=some (ve10_6):=hcc10 6 _ rfl;have hx10_7:w11.cell? ⟨go10,(x4_1:Int).toNat * 8+7,none⟩=some (.int .i64 ((rd_T34 x3_1 x4_1).f5)):=hcc10 7 _ rfl;have hf10_0:w11.frozen? ⟨go10,(x4_1:Int).toNat * 8,none⟩=false:=hfr10 0;have hf10_1:w11.frozen? ⟨go10,(x4_1:Int).toNat * 8+1,none⟩=false:=hfr10 1;have hf10_2:w11.frozen? ⟨go10,(x4_1:Int).toNat * 8+2,none⟩=false:=hfr10 2;have hf10_3:w11.frozen? ⟨go10,(x4_1:Int).toNat * 8+3,none⟩=false:=hfr10 3;have hf10_4:w11.frozen? ⟨go10,(x4_1:Int).toNat * 8+4,none⟩=false:=hfr10 4;have hf10_5:w11.frozen? ⟨go10,(x4_1:Int).toNat * 8+5,none⟩=false:=hfr10 5;have hf10_6:w11.frozen? ⟨go10,(x4_1:Int).toNat * 8+6,none⟩=false:=hfr10 6;have hf10_7:w11.frozen? ⟨go10,(x4_1:Int).toNat * 8+7,none⟩=false:=hfr10 7;clear hcl10 hcc10 hfr10;(try clear hM10);replace p10:=eq_true p10;replace q10:=eq_true q10;have n_:=zk (Kd.R_mono (ok':=(fun k_=>some k_ ≠ (v33011:Value).ownBlock∧some k_ ≠ (v33014:Value).ownBlock)) HO_3.out (fun k_ hk=>⟨hk.1.2,hk.2⟩));clear HO_3;have HO_3:=n_;clear n_;have HX12:=zk (show Kd.R k34 34 w11 w.heap.size (fun _=>True) (.slice (some ⟨go10,0,none⟩) x3_1.length co10) x3_1 from (by (with_reducible repeat (first|apply Kd.R_alloc|apply Kd.R_drewN|apply Kd.R_drew));exact Kd.R_mono HO_3.out (fun _ hk=>trivial)));obtain ⟨ce12,hcl12,hM12,hcc12,hfr12⟩:=Kd.R_elem HX12.out z34 (x4_1:Int) (of_decide_eq_true za8) (by have h_:(x4_1:Int) < ((x3_1.length:Int):Int):=of_decide_eq_true za8;first|exact h_|(have e_:=(Kd.R_reads' HO_3.out).1;omega)|simpa using h_);obtain ⟨ve12_5,ve12_6,rfl,ge12_5,ge12_6⟩:=k34_openM hM12;have HP12:=Kd.R_seg HX12.out (x4_1:Int) (of_decide_eq_true za8) (by have h_:(x4_1:Int) < ((x3_1.length:Int):Int):=of_decide_eq_true za8;first|exact h_|(have e_:=(Kd.R_reads' HO_3.out).1;omega)|simpa using h_) (seg:=[.int .i64 t33005,.string t33006,.string t33007,.int .i64 t33008,.string t33009,v33011,v33014,.int .i64 t33016]) (j:=0) hcl12 hcc12 (show 8≤8 from by decide) (x':=(⟨t33005,t33006,t33007,(⟨t33008,t33009,t33010⟩:S32),t33013,t33016⟩:S34)) (k34_mkM _ _ _ (⟨t33005,t33006,t33007,(⟨t33008,t33009,t33010⟩:S32),t33013,t33016⟩:S34) (Kd.R_mono (Kd.R_apart' (HO33012.out) (Kd.R_typed HO_3.out) (by decide)) (fun k_ hk=>⟨trivial,fun e_=>(hk.2) (by rw [e_];rfl)⟩)) (Kd.R_mono (Kd.R_apart' (HO33015.out) (Kd.R_typed HO_3.out) (by decide)) (fun k_ hk=>⟨trivial,fun e_=>(hk.2) (by rw [e_];rfl)⟩))) (fun _ hk=>hk);have hx12_0:=hcc12 0 _ rfl;(try simp only [show (k34).sz=8 from rfl,Nat.mul_one,Nat.add_zero] at hx12_0);have hf12_0:=hfr12 0;(try simp only [show (k34).sz=8 from rfl,Nat.mul_one,Nat.add_zero] at hf12_0);have hx12_1:=hcc12 1 _ rfl;(try simp only [show (k34).sz=8 from rfl,Nat.mul_one,Nat.add_zero] at hx12_1);have hf12_1:=hfr12 1;(try simp only [show (k34).sz=8 from rfl,Nat.mul_one,Nat.add_zero] at hf12_1);have hx12_2:=hcc12 2 _ rfl;(try simp only [show (k34).sz=8 from rfl,Nat.mul_one,Nat.add_zero] at hx12_2);have hf12_2:=hfr12 2;(try simp only [show (k34).sz=8 from rfl,Nat.mul_one,Nat.add_zero] at hf12_2);have hx12_3:=hcc12 3 _ rfl;(try simp only [show (k34).sz=8 from rfl,Nat.mul_one,Nat.add_zero] at hx12_3);have hf12_3:=hfr12 3;(try simp only [show (k34).sz=8 from rfl,Nat.mul_one,Nat.add_zero] at hf12_3);have hx12_4:=hcc12 4 _ rfl;(try simp only [show (k34).sz=8 from rfl,Nat.mul_one,Nat.add_zero] at hx12_4);have hf12_4:=hfr12 4;(try simp only [show (k34).sz=8 from rfl,Nat.mul_one,Nat.add_zero] at hf12_4);have hx12_5:=hcc12 5 _ rfl;(try simp only [show (k34).sz=8 from rfl,Nat.mul_one,Nat.add_zero] at hx12_5);have hf12_5:=hfr12 5;(try simp only [show (k34).sz=8 from rfl,Nat.mul_one,Nat.add_zero] at hf12_5);have hx12_6:=hcc12 6 _ rfl;(try simp only [show (k34).sz=8 from rfl,Nat.mul_one,Nat.add_zero] at hx12_6);have hf12_6:=hfr12 6;(try simp only [show (k34).sz=8 from rfl,Nat.mul_one,Nat.add_zero] at hf12_6);have hx12_7:=hcc12 7 _ rfl;(try simp only [show (k34).sz=8 from rfl,Nat.mul_one,Nat.add_zero] at hx12_7);have hf12_7:=hfr12 7;(try simp only [show (k34).sz=8 from rfl,Nat.mul_one,Nat.add_zero] at hf12_7);clear hcl12 hcc12 hfr12;(try clear hM12))|((with_reducible refine gate_store (t:=34) (p:=21) rfl ?_);refine store_event (t:=34) (p:=21) (v:=?vo_w13) (w1:=((((((((w11.setCell ⟨go10,(x4_1:Int).toNat * 8,none⟩ (.int .i64 t33005)).setCell ⟨go10,(x4_1:Int).toNat * 8+1,none⟩ (.string t33006)).setCell ⟨go10,(x4_1:Int).toNat * 8+2,none⟩ (.string t33007)).setCell ⟨go10,(x4_1:Int).toNat * 8+3,none⟩ (.int .i64 t33008)).setCell ⟨go10,(x4_1:Int).toNat * 8+4,none⟩ (.string t33009)).setCell ⟨go10,(x4_1:Int).toNat * 8+5,none⟩ (v33011)).setCell ⟨go10,(x4_1:Int).toNat * 8+6,none⟩ (v33014)).setCell ⟨go10,(x4_1:Int).toNat * 8+7,none⟩ (.int .i64 t33016))) ?hg ?ho ?hn ?hr ?_;(case ho=>rfl);(case hg=>rfl);(case hn=>rfl);(case hr=>first|(go_simp;done)|(go_simp;rfl)|(obtain ⟨sA_,sc_,se_⟩:=Kd.R_slice HO33012.out;subst se_;first|(go_simp;done)|(go_simp;rfl))|(obtain ⟨sA_,sc_,se_⟩:=Kd.R_slice HO33015.out;subst se_;first|(go_simp;done)|(go_simp;rfl))|(obtain ⟨sA0_,sc0_,se0_⟩:=Kd.R_slice HO33012.out;subst se0_;obtain ⟨sA1_,sc1_,se1_⟩:=Kd.R_slice HO33015.out;subst se1_;first|(go_simp;done)|(go_simp;rfl)));intro w13 hw;have hg:w11.grownBy w13 (some go10):=(by rw [hw];exact HP12.2);have hp_:Kd.R k34 34 w13 w.heap.size (fun _=>True) (.slice (some ⟨go10,0,none⟩) x3_1.length co10) y33017:=(by rw [hw,Ny33017.out];exact HP12.1);clear HP12;have n0_:=zk (hp_);have n1_:=zk ((by rw [hw];exact below_set (below_set (below_set (below_set (below_set (below_set (below_set (below_set (HB.out) GB10.out) GB10.out) GB10.out) GB10.out) GB10.out) GB10.out) GB10.out) GB10.out:Below w.heap.size w w13));clear HO_3;clear HB;clear HO33012;clear HO33015;have HO_3:=n0_;have HB:=n1_;clear n0_ n1_;clear hg hw hp_))
     go_roundg k1
     case measure=>have:=HK1.out;omega
     case rel=>exact ⟨(y33017),(wrap64 (x4_1+1)),za7,H',⟨za13⟩,⟨za1 HO_3.out⟩,⟨za2⟩⟩
    ·rw [if_neg c9] at H
     exact absurd H (by simp)
    ·rw [if_neg c7] at H
     exact absurd H (by simp)
    ·rw [if_neg c6] at H
     have c6b0:decide (x4_1 < (l0.length:Int))=false:=decide_eq_false c6
     clear c6
     obtain rfl:=zi H
     go_wp2
     go_ret
     exact ⟨_,za6,za1 HO_3.out,za2⟩
 ·rw [if_neg c3] at H
  exact absurd H (by simp)
 ·rw [if_neg c2] at H
  exact absurd H (by simp)
def laws_eqConstraintS.l0:Nat→List (S34)→List (S34)→Int→Option (Bool)
 | 0,_,_,_=>none
 | k+1,x0,x1,x5=>if x5 < (x0.length:Int) then (if 0≤x5 then (if x5 < (x1.length:Int) then ((laws_eqConstraint.f k ((rd_T34 x0 x5).f0) ((rd_T34 x0 x5).f1) ((rd_T34 x0 x5).f2) ((rd_T34 x0 x5).f3.f0) ((rd_T34 x0 x5).f3.f1) ((rd_T34 x0 x5).f3.f2) ((rd_T34 x0 x5).f4) ((rd_T34 x0 x5).f5) ((rd_T34 x1 x5).f0) ((rd_T34 x1 x5).f1) ((rd_T34 x1 x5).f2) ((rd_T34 x1 x5).f3.f0) ((rd_T34 x1 x5).f3.f1) ((rd_T34 x1 x5).f3.f2) ((rd_T34 x1 x5).f4) ((rd_T34 x1 x5).f5)).bind fun t35003=>(if t35003=true then (laws_eqConstraintS.l0 k x0 x1 (wrap64 (x5+1))) else (some false))) else (none)) else (none)) else (some true)
def laws_eqConstraintS.f (k:Nat) (l0:List (S34)) (l1:List (S34)):Option (Bool):=if (l0.length:Int)=(l1.length:Int) then (laws_eqConstraintS.l0 k l0 l1 0) else (some false)
theorem laws_eqConstraintS.mono_l:∀ k,(∀ y0 y1 y2,LeO (laws_eqConstraintS.l0 k y0 y1 y2) (laws_eqConstraintS.l0 (k+1) y0 y1 y2))
 | 0=>fun _ _ _ r h=>by simp [laws_eqConstraintS.l0] at h
 | k+1=>by
  have ih0:=laws_eqConstraintS.mono_l k
  ·intro y0 y1 y2
   unfold laws_eqConstraintS.l0
   repeat' first
   | with_reducible first|exact ih0 _ _ _|exact laws_eqConstraint.mono _ _ _ _ _ _ _ _ _ _ _ _ _ _ _ _ _|exact LeO.refl _|exact LeO.none _|refine LeO.ite ?_ ?_|refine LeO.bind ?_ (fun _=>?_)
theorem laws_eqConstraintS.mono:∀ a0 a1 k,LeO (laws_eqConstraintS.f k a0 a1) (laws_eqConstraintS.f (k+1) a0 a1):=by
 intro a0 a1 k
 have ih0:=laws_eqConstraintS.mono_l k
 unfold laws_eqConstraintS.f
 repeat' first
  | with_reducible first|exact ih0 _ _ _|exact laws_eqConstraint.mono _ _ _ _ _ _ _ _ _ _ _ _ _ _ _ _ _|exact LeO.refl _|exact LeO.none _|refine LeO.ite ?_ ?_|refine LeO.bind ?_ (fun _=>?_)
def laws_eqConstraintS.T6:Bool × List (List Nat × List Nat):=(true,[([],[]),([],[]),([0,1],[0,1]),([2],[2]),([],[]),([],[]),([4,5],[4,5]),([6],[6]),([3,7],[3,7]),([8],[8])])
def laws_eqConstraintS.B6:List Nat:=[0,0,3,7,0,0,48,112,255,511]
theorem laws_eqConstraintS.tab6:rtab .any (opsOf Tryd.f35 6)=laws_eqConstraintS.T6:=by kernel_rfl
theorem laws_eqConstraintS.bits6:waitsOk laws_eqConstraintS.T6.2 laws_eqConstraintS.B6=true:=by kernel_rfl
theorem laws_eqConstraintS.calls (k:Nat) (A0:Option Addr) (c0:Nat) (l0:List (S34)) (A1:Option Addr) (c1:Nat) (l1:List (S34)) (r:Bool) (w:World) (hr0:Kd.C k34 w A0 l0.length l0) (hc0:l0.length≤c0) (hr1:Kd.C k34 w A1 l1.length l1) (hc1:l1.length≤c1) (h:laws_eqConstraintS.f k l0 l1=some r) :
  Calls Tryd.prog 35 #[.slice A0 l0.length c0,.slice A1 l1.length c1] w fun e w'=>e = .returned (.bool r)∧Below w.heap.size w w':=by
 have hu34:=Tryd.underlying34
 have HR0:=zk hr0
 have HC0:=zk hc0
 clear hr0 hc0
 have HR1:=zk hr1
 have HC1:=zk hc1
 clear hr1 hc1
 have HB:=zk (Below.refl w.heap.size w)
 have H:(if (l0.length:Int)=(l1.length:Int) then (laws_eqConstraintS.l0 k l0 l1 0) else (some false))=some r:=h
 clear h
 by_cases c3:(l0.length:Int)=(l1.length:Int)
 ·rw [if_pos c3] at H
  have c3b0:((l0.length:Int) == (l1.length:Int))=true:=beq_iff_eq.mpr c3
  have c3b1:((l0.length:Int) != (l1.length:Int))=false:=bne_eq_false_iff_eq.mpr c3
  have c3b2:(l0.length == l1.length)=true:=by first|simpa using c3|(simp at c3 ⊢;omega)
  clear c3
  have H':=zk H
  clear H
  go_enter Tryd.func35,Tryd.ntmps35
  go_wp2
  first|go_loopg [5] k (fun kq v5 w'=>∃ (x5_1:Int),v5 = .int .i64 x5_1∧Aside0 (laws_eqConstraintS.l0 kq l0 l1 x5_1=some r)∧Aside0 (kq≤k)∧Aside0 (Below w.heap.size w w'))|(simp only [Act.put,zt,zv,zu];go_loopg [5] k (fun kq v5 w'=>∃ (x5_1:Int),v5 = .int .i64 x5_1∧Aside0 (laws_eqConstraintS.l0 kq l0 l1 x5_1=some r)∧Aside0 (kq≤k)∧Aside0 (Below w.heap.size w w')))
  case atStart=>exact ⟨(0),za7,H',⟨Nat.le_refl _⟩,⟨za2⟩⟩
  case round =>
   clear H'
   try clear c3
   try clear c3b0
   try clear c3b1
   try clear c3b2
   obtain ⟨x5_1,rfl,HA,HK1,HB⟩:=hrel
   cases gk with
   | zero=>exact absurd HA.out (by simp [laws_eqConstraintS.l0])
   | succ k1 =>
    have H:=HA.out
    clear HA
    simp only [laws_eqConstraintS.l0] at H
    by_cases c4:x5_1 < (l0.length:Int)
    rw [if_pos c4] at H
    have c4b0:decide (x5_1 < (l0.length:Int))=true:=decide_eq_true c4
    clear c4
    by_cases c5:0≤x5_1
    rw [if_pos c5] at H
    have c5b0:decide (0≤x5_1)=true:=decide_eq_true c5
    clear c5
    by_cases c6:x5_1 < (l1.length:Int)
    rw [if_pos c6] at H
    have c6b0:decide (x5_1 < (l1.length:Int))=true:=decide_eq_true c6
    clear c6
    replace H:=zo H
    obtain ⟨t35003,A70,H⟩:=H
    replace H:(if t35003=true then (laws_eqConstraintS.l0 k1 l0 l1 (wrap64 (x5_1+1))) else (some false))=some r:=H
    have A7:=zk A70
    clear A70
    by_cases c8:t35003=true
    subst c8
    have H1:(laws_eqConstraintS.l0 k1 l0 l1 (wrap64 (x5_1+1)))=some r:=by rw [if_pos rfl] at H;exact H
    clear H
    have H:=H1
    clear H1
    have H':=zk H
    clear H
    have fin1_:=zk trivial
    rotate_left
    replace c8:=Bool.eq_false_iff.mpr c8
    subst c8
    have H1:(some false)=some r:=by rw [if_neg (show ¬ (false=true) by decide)] at H;exact H
    clear H
    have H:=H1
    clear H1
    obtain rfl:=zi H
    have fin0_:=zk trivial
    rotate_left
    · rw [if_neg c6] at H
      exact absurd H (by simp)
    · rw [if_neg c5] at H
      exact absurd H (by simp)
    · rw [if_neg c4] at H
      have c4b0:decide (x5_1 < (l0.length:Int))=false:=decide_eq_false c4
      clear c4
      obtain rfl:=zi H
      go_wp2
      go_ret
      exact ⟨za6,za2⟩
    all_goals
     try go_wp2
     have n0_:=zk (below_drew1 HB.out)
     clear HB
     have HB:=n0_
     clear n0_
     have p35001:0≤(x5_1:Int):=of_decide_eq_true za8
     have q35001:x5_1 < (l0.length:Int):=of_decide_eq_true za8
     obtain ⟨ad35001,A35001_5,c35001_5,A35001_6,c35001_6,e35001,hx35001_0,hx35001_1,hx35001_2,hx35001_3,hx35001_4,hx35001_5,hx35001_6,hx35001_7,hl35001_5,hi35001_5,hl35001_6,hi35001_6⟩:=at_T34 HR0.out x5_1 p35001 q35001
     have hw35001_7:=hx35001_7
     have hw35001_6:=hx35001_6
     have hw35001_5:=hx35001_5
     have hw35001_4:=hx35001_4
     have hw35001_3:=hx35001_3
     have hw35001_2:=hx35001_2
     have hw35001_1:=hx35001_1
     have hw35001_0:=hx35001_0
     cases e35001
     replace hx35001_0:=zx HB.out hx35001_0
     replace hx35001_1:=zx HB.out hx35001_1
     replace hx35001_2:=zx HB.out hx35001_2
     replace hx35001_3:=zx HB.out hx35001_3
     replace hx35001_4:=zx HB.out hx35001_4
     replace hx35001_5:=zx HB.out hx35001_5
     replace hx35001_6:=zx HB.out hx35001_6
     replace hx35001_7:=zx HB.out hx35001_7
     have HR35001_5:=zk hi35001_5
     have HC35001_5:=zk hl35001_5
     clear hi35001_5 hl35001_5
     have HR35001_6:=zk hi35001_6
     have HC35001_6:=zk hl35001_6
     clear hi35001_6 hl35001_6
     replace p35001:=eq_true p35001
     replace q35001:=eq_true q35001
     have p35002:0≤(x5_1:Int):=of_decide_eq_true za8
     have q35002:x5_1 < (l1.length:Int):=of_decide_eq_true za8
     obtain ⟨ad35002,A35002_5,c35002_5,A35002_6,c35002_6,e35002,hx35002_0,hx35002_1,hx35002_2,hx35002_3,hx35002_4,hx35002_5,hx35002_6,hx35002_7,hl35002_5,hi35002_5,hl35002_6,hi35002_6⟩:=at_T34 HR1.out x5_1 p35002 q35002
     have hw35002_7:=hx35002_7
     have hw35002_6:=hx35002_6
     have hw35002_5:=hx35002_5
     have hw35002_4:=hx35002_4
     have hw35002_3:=hx35002_3
     have hw35002_2:=hx35002_2
     have hw35002_1:=hx35002_1
     have hw35002_0:=hx35002_0
     cases e35002
     replace hx35002_0:=zx HB.out hx35002_0
     replace hx35002_1:=zx HB.out hx35002_1
     replace hx35002_2:=zx HB.out hx35002_2
     replace hx35002_3:=zx HB.out hx35002_3
     replace hx35002_4:=zx HB.out hx35002_4
     replace hx35002_5:=zx HB.out hx35002_5
     replace hx35002_6:=zx HB.out hx35002_6
     replace hx35002_7:=zx HB.out hx35002_7
     have HR35002_5:=zk hi35002_5
     have HC35002_5:=zk hl35002_5
     clear hi35002_5 hl35002_5
     have HR35002_6:=zk hi35002_6
     have HC35002_6:=zk hl35002_6
     clear hi35002_6 hl35002_6
     replace p35002:=eq_true p35002
     replace q35002:=eq_true q35002
     refine start_ (n:=10) (S:=fun w'=>w'.cell? (ad35001.add ((x5_1).toNat * 8))=some (.int .i64 ((rd_T34 l0 x5_1).f0))∧w'.cell? ⟨(ad35001.add ((x5_1).toNat * 8)).block,(ad35001.add ((x5_1).toNat * 8)).off+1,none⟩=some (.string ((rd_T34 l0 x5_1).f1))∧w'.cell? ⟨(ad35001.add ((x5_1).toNat * 8)).block,(ad35001.add ((x5_1).toNat * 8)).off+2,none⟩=some (.string ((rd_T34 l0 x5_1).f2))∧w'.cell? ⟨(ad35001.add ((x5_1).toNat * 8)).block,(ad35001.add ((x5_1).toNat * 8)).off+3,none⟩=some (.int .i64 ((rd_T34 l0 x5_1).f3.f0))∧w'.cell? ⟨(ad35001.add ((x5_1).toNat * 8)).block,(ad35001.add ((x5_1).toNat * 8)).off+4,none⟩=some (.string ((rd_T34 l0 x5_1).f3.f1))∧w'.cell? ⟨(ad35001.add ((x5_1).toNat * 8)).block,(ad35001.add ((x5_1).toNat * 8)).off+5,none⟩=some (.slice A35001_5 ((rd_T34 l0 x5_1).f3.f2).length c35001_5)∧w'.cell? ⟨(ad35001.add ((x5_1).toNat * 8)).block,(ad35001.add ((x5_1).toNat * 8)).off+6,none⟩=some (.slice A35001_6 ((rd_T34 l0 x5_1).f4).length c35001_6)∧w'.cell? ⟨(ad35001.add ((x5_1).toNat * 8)).block,(ad35001.add ((x5_1).toNat * 8)).off+7,none⟩=some (.int .i64 ((rd_T34 l0 x5_1).f5))∧w'.cell? (ad35002.add ((x5_1).toNat * 8))=some (.int .i64 ((rd_T34 l1 x5_1).f0))∧w'.cell? ⟨(ad35002.add ((x5_1).toNat * 8)).block,(ad35002.add ((x5_1).toNat * 8)).off+1,none⟩=some (.string ((rd_T34 l1 x5_1).f1))∧w'.cell? ⟨(ad35002.add ((x5_1).toNat * 8)).block,(ad35002.add ((x5_1).toNat * 8)).off+2,none⟩=some (.string ((rd_T34 l1 x5_1).f2))∧w'.cell? ⟨(ad35002.add ((x5_1).toNat * 8)).block,(ad35002.add ((x5_1).toNat * 8)).off+3,none⟩=some (.int .i64 ((rd_T34 l1 x5_1).f3.f0))∧w'.cell? ⟨(ad35002.add ((x5_1).toNat * 8)).block,(ad35002.add ((x5_1).toNat * 8)).off+4,none⟩=some (.string ((rd_T34 l1 x5_1).f3.f1))∧w'.cell? ⟨(ad35002.add ((x5_1).toNat * 8)).block,(ad35002.add ((x5_1).toNat * 8)).off+5,none⟩=some (.slice A35002_5 ((rd_T34 l1 x5_1).f3.f2).length c35002_5)∧w'.cell? ⟨(ad35002.add ((x5_1).toNat * 8)).block,(ad35002.add ((x5_1).toNat * 8)).off+6,none⟩=some (.slice A35002_6 ((rd_T34 l1 x5_1).f4).length c35002_6)∧w'.cell? ⟨(ad35002.add ((x5_1).toNat * 8)).block,(ad35002.add ((x5_1).toNat * 8)).off+7,none⟩=some (.int .i64 ((rd_T34 l1 x5_1).f5))) (ds:=[]) #[false,false,false,false,false,false,false,false,false,false] (by kernel_rfl) rfl rfl ⟨((HB.out.cell (World.block_lt_of_cell? w _ hw35001_0)).trans hw35001_0),((HB.out.cell (World.block_lt_of_cell? w _ hw35001_1)).trans hw35001_1),((HB.out.cell (World.block_lt_of_cell? w _ hw35001_2)).trans hw35001_2),((HB.out.cell (World.block_lt_of_cell? w _ hw35001_3)).trans hw35001_3),((HB.out.cell (World.block_lt_of_cell? w _ hw35001_4)).trans hw35001_4),((HB.out.cell (World.block_lt_of_cell? w _ hw35001_5)).trans hw35001_5),((HB.out.cell (World.block_lt_of_cell? w _ hw35001_6)).trans hw35001_6),((HB.out.cell (World.block_lt_of_cell? w _ hw35001_7)).trans hw35001_7),((HB.out.cell (World.block_lt_of_cell? w _ hw35002_0)).trans hw35002_0),((HB.out.cell (World.block_lt_of_cell? w _ hw35002_1)).trans hw35002_1),((HB.out.cell (World.block_lt_of_cell? w _ hw35002_2)).trans hw35002_2),((HB.out.cell (World.block_lt_of_cell? w _ hw35002_3)).trans hw35002_3),((HB.out.cell (World.block_lt_of_cell? w _ hw35002_4)).trans hw35002_4),((HB.out.cell (World.block_lt_of_cell? w _ hw35002_5)).trans hw35002_5),((HB.out.cell (World.block_lt_of_cell? w _ hw35002_6)).trans hw35002_6),((HB.out.cell (World.block_lt_of_cell? w _ hw35002_7)).trans hw35002_7)⟩ (fun hHeld=>?_);refine with_tabW laws_eqConstraintS.tab6 laws_eqConstraintS.bits6 (fun HT_ HW_=>?_)
     generalize wr.drew=w11 at HB HR35001_5 HR35001_6 HR35002_5 HR35002_6 hx35001_0 hx35001_1 hx35001_2 hx35001_3 hx35001_4 hx35001_5 hx35001_6 hx35001_7 hx35002_0 hx35002_1 hx35002_2 hx35002_3 hx35002_4 hx35002_5 hx35002_6 hx35002_7 hHeld ⊢
     refine pure_ (i:=0) (N:=some 17) (v:=?_) (a':=?_) #[true,false,false,false,false,false,false,false,false,false] rfl rfl (any_of HT_.out (by kernel_rfl)) (fun _ _ _ h=>h) (Or.inl ⟨by rfl,?_⟩) ?_ ?_
     rotate_left
     · intro w'
       go_simp
       exact zr0
     rotate_left
     · simp only [Act.put,zt,zu,zv,i64_w,i32_w]
       rfl
     refine pure_ (i:=1) (N:=some 18) (v:=?_) (a':=?_) #[true,true,false,false,false,false,false,false,false,false] rfl rfl (any_of HT_.out (by kernel_rfl)) (fun _ _ _ h=>h) (Or.inl ⟨by rfl,?_⟩) ?_ ?_
     rotate_left
     · intro w'
       go_simp
       exact zr0
     rotate_left
     · simp only [Act.put,zt,zu,zv,i64_w,i32_w]
       rfl
     refine pure_ (i:=2) (N:=some 19) (v:=?_) (a':=?_) #[true,true,true,false,false,false,false,false,false,false] rfl rfl (any_of HT_.out (by kernel_rfl)) (fun _ _ _ h=>h) (Or.inl ⟨by rfl,?_⟩) ?_ ?_
     rotate_left
     · intro w'
       go_simp
       exact zr0
     rotate_left
     · simp only [Act.put,zt,zu,zv,i64_w,i32_w]
       rfl
     refine pure_ (i:=4) (N:=some 21) (v:=?_) (a':=?_) #[true,true,true,false,true,false,false,false,false,false] rfl rfl (any_of HT_.out (by kernel_rfl)) (fun _ _ _ h=>h) (Or.inl ⟨by rfl,?_⟩) ?_ ?_
     rotate_left
     · intro w'
       go_simp
       exact zr0
     rotate_left
     · simp only [Act.put,zt,zu,zv,i64_w,i32_w]
       rfl
     refine pure_ (i:=5) (N:=some 22) (v:=?_) (a':=?_) #[true,true,true,false,true,true,false,false,false,false] rfl rfl (any_of HT_.out (by kernel_rfl)) (fun _ _ _ h=>h) (Or.inl ⟨by rfl,?_⟩) ?_ ?_
     rotate_left
     · intro w'
       go_simp
       exact zr0
     rotate_left
     · simp only [Act.put,zt,zu,zv,i64_w,i32_w]
       rfl
     refine pure_ (i:=6) (N:=some 23) (v:=?_) (a':=?_) #[true,true,true,false,true,true,true,false,false,false] rfl rfl (any_of HT_.out (by kernel_rfl)) (fun _ _ _ h=>h) (Or.inl ⟨by rfl,?_⟩) ?_ ?_
     rotate_left
     · intro w'
       go_simp
       exact zr0
     rotate_left
     · simp only [Act.put,zt,zu,zv,i64_w,i32_w]
       rfl
     refine take_ (i:=3) (N:=some 20) (v:=?_) (a':=?_) #[true,true,true,true,true,true,true,false,false,false] rfl rfl (take_ofW HT_.out HW_.out (by kernel_rfl)) (fun _ _ _ h=>h) (Or.inl ⟨by rfl,?_⟩) hHeld ?_ ?_
     rotate_left
     · rintro w' ⟨s0,s1,s2,s3,s4,s5,s6,s7,s8,s9,s10,s11,s12,s13,s14,s15⟩
       go_simp
       exact zr0
     rotate_left
     · simp only [Act.put,zt,zu,zv,i64_w,i32_w]
       rfl
     refine take_ (i:=7) (N:=some 24) (v:=?_) (a':=?_) #[true,true,true,true,true,true,true,true,false,false] rfl rfl (take_ofW HT_.out HW_.out (by kernel_rfl)) (fun _ _ _ h=>h) (Or.inl ⟨by rfl,?_⟩) hHeld ?_ ?_
     rotate_left
     · rintro w' ⟨s0,s1,s2,s3,s4,s5,s6,s7,s8,s9,s10,s11,s12,s13,s14,s15⟩
       go_simp
       exact zr0
     rotate_left
     · simp only [Act.put,zt,zu,zv,i64_w,i32_w]
       rfl
     refine one_ (i:=8) (N:=some 25) #[true,true,true,true,true,true,true,true,true,false] rfl rfl (one_of HT_.out (by kernel_rfl)) (by decide) (fun K hK=>?_)
     refine goes_ Tryd.func9 (by kernel_rfl) rfl #[.agg #[.int .i64 ((rd_T34 l0 x5_1).f0),.string ((rd_T34 l0 x5_1).f1),.string ((rd_T34 l0 x5_1).f2),.int .i64 ((rd_T34 l0 x5_1).f3.f0),.string ((rd_T34 l0 x5_1).f3.f1),.slice A35001_5 ((rd_T34 l0 x5_1).f3.f2).length c35001_5,.slice A35001_6 ((rd_T34 l0 x5_1).f4).length c35001_6,.int .i64 ((rd_T34 l0 x5_1).f5)],.agg #[.int .i64 ((rd_T34 l1 x5_1).f0),.string ((rd_T34 l1 x5_1).f1),.string ((rd_T34 l1 x5_1).f2),.int .i64 ((rd_T34 l1 x5_1).f3.f0),.string ((rd_T34 l1 x5_1).f3.f1),.slice A35002_5 ((rd_T34 l1 x5_1).f3.f2).length c35002_5,.slice A35002_6 ((rd_T34 l1 x5_1).f4).length c35002_6,.int .i64 ((rd_T34 l1 x5_1).f5)]] (by rfl) rfl rfl za5 ?_
     with_reducible refine (laws_eqConstraint.calls k1 ((rd_T34 l0 x5_1).f0) ((rd_T34 l0 x5_1).f1) ((rd_T34 l0 x5_1).f2) ((rd_T34 l0 x5_1).f3.f0) ((rd_T34 l0 x5_1).f3.f1) _ _ ((rd_T34 l0 x5_1).f3.f2) _ _ ((rd_T34 l0 x5_1).f4) ((rd_T34 l0 x5_1).f5) ((rd_T34 l1 x5_1).f0) ((rd_T34 l1 x5_1).f1) ((rd_T34 l1 x5_1).f2) ((rd_T34 l1 x5_1).f3.f0) ((rd_T34 l1 x5_1).f3.f1) _ _ ((rd_T34 l1 x5_1).f3.f2) _ _ ((rd_T34 l1 x5_1).f4) ((rd_T34 l1 x5_1).f5) _ _ ?side1 ?side2 ?side3 ?side4 ?side5 ?side6 ?side7 ?side8 A7.out).mono ?_
     (case side1=>repeat (first|exact (Kd.C_below HR35001_5.out HB.out)|(with_reducible refine Kd.C_alloc ?_ _)|(with_reducible refine Kd.C_drewN ?_ _)|(with_reducible refine Kd.C_drew ?_)))
     (case side2=>exact HC35001_5.out)
     (case side3=>repeat (first|exact (Kd.C_below HR35001_6.out HB.out)|(with_reducible refine Kd.C_alloc ?_ _)|(with_reducible refine Kd.C_drewN ?_ _)|(with_reducible refine Kd.C_drew ?_)))
     (case side4=>exact HC35001_6.out)
     (case side5=>repeat (first|exact (Kd.C_below HR35002_5.out HB.out)|(with_reducible refine Kd.C_alloc ?_ _)|(with_reducible refine Kd.C_drewN ?_ _)|(with_reducible refine Kd.C_drew ?_)))
     (case side6=>exact HC35002_5.out)
     (case side7=>repeat (first|exact (Kd.C_below HR35002_6.out HB.out)|(with_reducible refine Kd.C_alloc ?_ _)|(with_reducible refine Kd.C_drewN ?_ _)|(with_reducible refine Kd.C_drew ?_)))
     (case side8=>exact HC35002_6.out)
     rintro e w12 ⟨rfl,hb⟩
     refine ⟨_,rfl,?_⟩
     have n0_:=zk (below_step za2 hb)
     clear HB
     have HB:=n0_
     clear n0_
     (try clear hb)
     (try clear hb2)
     (try clear hk)
     (try clear hi)
     refine hK.out _ _ ⟨((HB.out.cell (World.block_lt_of_cell? w _ hw35001_0)).trans hw35001_0),((HB.out.cell (World.block_lt_of_cell? w _ hw35001_1)).trans hw35001_1),((HB.out.cell (World.block_lt_of_cell? w _ hw35001_2)).trans hw35001_2),((HB.out.cell (World.block_lt_of_cell? w _ hw35001_3)).trans hw35001_3),((HB.out.cell (World.block_lt_of_cell? w _ hw35001_4)).trans hw35001_4),((HB.out.cell (World.block_lt_of_cell? w _ hw35001_5)).trans hw35001_5),((HB.out.cell (World.block_lt_of_cell? w _ hw35001_6)).trans hw35001_6),((HB.out.cell (World.block_lt_of_cell? w _ hw35001_7)).trans hw35001_7),((HB.out.cell (World.block_lt_of_cell? w _ hw35002_0)).trans hw35002_0),((HB.out.cell (World.block_lt_of_cell? w _ hw35002_1)).trans hw35002_1),((HB.out.cell (World.block_lt_of_cell? w _ hw35002_2)).trans hw35002_2),((HB.out.cell (World.block_lt_of_cell? w _ hw35002_3)).trans hw35002_3),((HB.out.cell (World.block_lt_of_cell? w _ hw35002_4)).trans hw35002_4),((HB.out.cell (World.block_lt_of_cell? w _ hw35002_5)).trans hw35002_5),((HB.out.cell (World.block_lt_of_cell? w _ hw35002_6)).trans hw35002_6),((HB.out.cell (World.block_lt_of_cell? w _ hw35002_7)).trans hw35002_7)⟩ (fun hHeld=>?_)
     clear hK K
     refine norm_ (a':=?_) ?_ ?_
     rotate_left
     · show Act.put _ (some 25) _=_
       simp only [Act.put,zt,zu,zv,i64_w,i32_w]
       rfl
     refine pure_ (i:=9) (N:=some 26) (v:=?_) (a':=?_) #[true,true,true,true,true,true,true,true,true,true] rfl rfl (any_of HT_.out (by kernel_rfl)) (fun _ _ _ h=>h) (Or.inl ⟨by rfl,?_⟩) ?_ ?_
     rotate_left
     · intro w'
       go_simp
       exact zr0
     rotate_left
     · simp only [Act.put,zt,zu,zv,i64_w,i32_w]
       rfl
     refine done_ (done_of HT_.out (by kernel_rfl)) ?_
     try go_wp2
     first
     | (
        clear fin0_
        go_ret
        exact ⟨za6,za2⟩)
     | (
        clear fin1_
        go_roundg k1
        case measure=>have:=HK1.out;omega
        case rel=>exact ⟨(wrap64 (x5_1+1)),za7,H',⟨za13⟩,⟨za2⟩⟩)
 ·rw [if_neg c3] at H
  have c3b0:((l0.length:Int) == (l1.length:Int))=false:=beq_eq_false_iff_ne.mpr c3
  have c3b1:((l0.length:Int) != (l1.length:Int))=true:=bne_iff_ne.mpr c3
  have c3b2:(l0.length == l1.length)=false:=by first|simpa using c3|(simp at c3 ⊢;omega)
  obtain rfl:=zi H
  go_enter Tryd.func35,Tryd.ntmps35
  go_wp2
  go_ret
  exact ⟨za6,za2⟩
end Go.Proofs.YtdchpohiiigobaaDoor.A
