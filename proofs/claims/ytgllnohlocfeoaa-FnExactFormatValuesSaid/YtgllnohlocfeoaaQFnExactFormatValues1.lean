/- FnExactFormatValues: what its proof needs, put together by this session's program wip/merge.py out of the texts that wip/xp.py printed and of this session's own. -/
import Derived.Test.YtgllnohlocfeoaaQFnExactFormatValues0
import Derived.Test.YtgllnohlocfeoaaProg
import Derived.Lib.Bytealg
import Derived.Lib.Walk
import Derived.Below
import Derived.Deep.Draws
import Derived.Deep.AppendLies
import Derived.Maps.AppendAt
import Derived.OwnWalk
import Derived.Laws.BytesArg
import Derived.Laws.MakeOwn
import Derived.Laws.OwnMore
import Derived.Deep.OwnRows
import Derived.Tactics
import Derived.Lib.ConvBytes
import Derived.Laws.Slices
import Derived.WalkKit
import Derived.KernelRfl
import Derived.RowKit3
import Derived.Deep.LoopGhost
import Derived.Deep.QuietTactic
import Derived.BigQuiet
import Derived.WideLaws
import Derived.Deep.DeepCutAuto
import Derived.Deep.CutBlock
import Derived.Deep.RegionHeld3
import Derived.Laws.Rows
import Derived.Lib.AppendStr
import Derived.ArgAppend
import Derived.Laws.IdiomCopy
import Derived.OrdersHeld
import Derived.Laws.BitsLemmas
import Derived.RowKit
import Derived.Shelf.Strings.OnBuilder
import Derived.Lib.Join
import Derived.ChangeArms
import Derived.ChangeReads
import Derived.DataReads
import Derived.DataElems
import Derived.Lib.Strings
import Derived.Test.YtgllnohlocfeoaaRows
import Derived.ProofKit
import Derived.OpenShut
import Derived.ShutString
import Derived.ChangeOld
import Derived.SizedLaws
import Derived.Lib.SmallJoins
namespace Go.Proofs.Ytgllnohlocfeoaa.Ext
set_option linter.unusedVariables false
set_option linter.unusedSimpArgs false
open Go.RowKit Go.Proofs.YtgllnohlocfeoaaW.PrintWords

-- EXT strings.IndexByte
def strings_IndexByte.f (s : ByteArray) (c : Int) : Option Int := some (Lib.indexByte s.data.toList c.toNat.toUInt8)

set_option maxRecDepth 100000 in
theorem stringslite_run (s : ByteArray) (c : Int) (w : World) :
    Calls Try.prog 50 #[.string s, .int .u8 c] w fun e w' => e = .returned (.int .i64 (Lib.indexByte s.data.toList c.toNat.toUInt8)) ∧ w' = w := by
  go_enter Try.func50, Try.ntmps50
  go_wp2
  rw [run_callFunc_extern Try.func62 (by kernel_rfl) (by kernel_rfl) (by kernel_rfl) (e := Extern.BytealgIndexByte.indexByte) (by kernel_rfl), Lib.run_indexByteString]
  simp only [Result.andThen]
  rw [Oper.upon_value]
  go_wp2
  go_ret
  exact ⟨rfl, rfl⟩
set_option maxRecDepth 100000 in
theorem strings_IndexByte.calls (s : ByteArray) (c : Int) (r : Int) (w : World) (h : strings_IndexByte.f s c = some r) :
    Calls Try.prog 25 #[.string s, .int .u8 c] w fun e w' => e = .returned (.int .i64 r) ∧ Drawn0 w w' := by
  obtain rfl := Option.some.inj h
  go_enter Try.func25, Try.ntmps25
  go_wp2_with (go_at_call 50; refine (stringslite_run _ _ _).mono ?_; rintro e w' ⟨rfl, rfl⟩)
  go_ret
  exact ⟨rfl, Drawn0.refl _⟩

end Go.Proofs.Ytgllnohlocfeoaa.Ext


namespace Go.Proofs.Ytgllnohlocfeoaa.A
open Go.RowKit Go.Proofs.Ytgllnohlocfeoaa.Ext Go.Proofs.YtgllnohlocfeoaaW.PrintWords Go.Proofs.YtgllnohlocfeoaaW.PrintLast Go.Proofs.YtgllnohlocfeoaaW.PrintMore
attribute [local go_sem] max2_int min2_int max_two min_two max_three min_three max_four min_four   -- for this text's walks alone
set_option linter.unusedVariables false
set_option linter.unusedSimpArgs false



def errW : Option Int → Value
  | none => .nilIface
  | some c => .iface 0 (.int .i64 c)
theorem errW_none : errW none = .nilIface := rfl
theorem errW_some (c : Int) : errW (some c) = .iface 0 (.int .i64 c) := rfl

theorem info3 : (Try.prog.info? 3).map (fun i => (i.zero, i.size, i.bytes)) = some (some (.int .i64 0), 1, 8) := by kernel_rfl
theorem info5 : (Try.prog.info? 5).map (fun i => (i.zero, i.size, i.bytes)) = some (some (.int .u8 0), 1, 1) := by kernel_rfl
theorem info9 : (Try.prog.info? 9).map (fun i => (i.zero, i.size, i.bytes)) = some (some (.string ⟨#[]⟩), 1, 16) := by kernel_rfl
theorem info40 : (Try.prog.info? 40).map (fun i => (i.zero, i.size, i.bytes)) = some (some (.slice none 0 0), 1, 24) := by kernel_rfl
theorem info58 : (Try.prog.info? 58).map (fun i => (i.zero, i.size, i.bytes)) = some (some (.agg #[(.int .u8 0), (.string ⟨#[]⟩)]), 2, 24) := by kernel_rfl
-- the values' own types
/-! #### struct type 58 -/
structure S58 where
  f0 : Int
  f1 : ByteArray
def z58 : S58 := ⟨(0 : Int), (⟨#[]⟩ : ByteArray)⟩
def k58 : Kd S58 := Kd.iso (Kd.pair (Kd.int .u8) Kd.string) (fun x : S58 => (x.f0, x.f1))
theorem k58_open {w : World} {x : S58} {cs : List Value} (h : k58.K w x cs) : cs = [.int .u8 x.f0, .string x.f1] := by
  obtain ⟨_, _, rfl, rfl, rfl⟩ := h
  exact rfl
theorem k58_openM {w : World} {base : Nat} {ok : Nat → Prop} {x : S58} {cs : List Value} (h : k58.M w base ok x cs) : cs = [.int .u8 x.f0, .string x.f1] := by
  obtain ⟨_, _, rfl, rfl, rfl⟩ := h
  exact rfl
theorem k58_mk (w : World) (x : S58)  : k58.K w x [.int .u8 x.f0, .string x.f1] := ⟨[.int .u8 x.f0], [.string x.f1], rfl, rfl, rfl⟩
theorem k58_mkM (w : World) (base : Nat) (ok : Nat → Prop) (x : S58)  : k58.M w base ok x [.int .u8 x.f0, .string x.f1] := ⟨[.int .u8 x.f0], [.string x.f1], rfl, rfl, rfl⟩
def rd_T58 (xs : List S58) (i : Int) : S58 := xs.getD i.toNat z58
theorem at_T58 {w : World} {A : Option Addr} {n : Nat} {xs : List S58} (h : Kd.C k58 w A n xs) (i : Int) (h0 : 0 ≤ i) (h1 : i < n) : ∃ ad , A = some ad ∧ w.cell? (ad.add (i.toNat * 2)) = some (.int .u8 (rd_T58 xs i).f0) ∧ w.cell? ⟨(ad.add (i.toNat * 2)).block, (ad.add (i.toNat * 2)).off + 1, none⟩ = some (.string (rd_T58 xs i).f1) := by
  obtain ⟨ad, c, e, _, hK, hc0⟩ := Kd.C_get h z58 i h0 h1
  have hc : ∀ j u, c[j]? = some u → w.cell? (ad.add (i.toNat * 2 + j)) = some u := hc0
  obtain rfl := k58_open hK
  exact ⟨ad, e, hc 0 _ rfl, by rw [← add_field _ _ 1 (by omega)]; exact hc 1 _ rfl⟩

def rd_L4 (xs : List (List Int)) (i : Int) : (List Int) := xs.getD i.toNat ([] : List Int)
theorem at_L4 {w : World} {A : Option Addr} {n : Nat} {xs : List (List Int)} (h : Kd.C (Kd.slice 3 (Kd.int .i64)) w A n xs) (i : Int) (h0 : 0 ≤ i) (h1 : i < n) : ∃ ad A0 c0, A = some ad ∧ w.cell? (ad.add i.toNat) = some (.slice A0 (rd_L4 xs i).length c0) ∧ (rd_L4 xs i).length ≤ c0 ∧ (Kd.int .i64).C w A0 (rd_L4 xs i).length (rd_L4 xs i) := by
  obtain ⟨ad, c, e, _, hK, hc0⟩ := Kd.C_get h ([] : List Int) i h0 h1
  have hc : ∀ j u, c[j]? = some u → w.cell? (ad.add (i.toNat * 1 + j)) = some u := hc0
  obtain ⟨A0, c0, rfl, l0, g0⟩ := hK
  exact ⟨ad, A0, c0, e, by have hq := hc 0 _ rfl; rwa [Nat.mul_one, Nat.add_zero] at hq, l0, g0⟩

end Go.Proofs.Ytgllnohlocfeoaa.A

namespace Go.Proofs.Ytgllnohlocfeoaa.A
open Go.RowKit Go.Proofs.Ytgllnohlocfeoaa.Ext Go.Proofs.YtgllnohlocfeoaaW.PrintWords Go.Proofs.YtgllnohlocfeoaaW.PrintLast Go.Proofs.YtgllnohlocfeoaaW.PrintMore
attribute [local go_sem] max2_int min2_int max_two min_two max_three min_three max_four min_four   -- for this text's walks alone
set_option linter.unusedVariables false
set_option linter.unusedSimpArgs false

/-! ### laws_szValues: function 6 -/
def laws_szValues.f (a0_0 : ByteArray) (a0_1 : ByteArray) (a0_2 : ByteArray) (a1 : Int) : Option (Int) := if (wrap64 (a1 - (a0_0.size : Int))) < 0 then (some (-1)) else (if (wrap64 ((wrap64 (a1 - (a0_0.size : Int))) - (a0_1.size : Int))) < 0 then (some (-1)) else (if (wrap64 ((wrap64 ((wrap64 (a1 - (a0_0.size : Int))) - (a0_1.size : Int))) - (a0_2.size : Int))) < 0 then (some (-1)) else (some (wrap64 ((wrap64 ((wrap64 (a1 - (a0_0.size : Int))) - (a0_1.size : Int))) - (a0_2.size : Int))))))
set_option maxHeartbeats 8000000 in
set_option maxRecDepth 100000 in
theorem laws_szValues.calls (a0_0 : ByteArray) (a0_1 : ByteArray) (a0_2 : ByteArray) (a1 : Int) (r : Int) (w : World) (h : laws_szValues.f a0_0 a0_1 a0_2 a1 = some r) :
    Calls Try.prog 6 #[.agg #[.string a0_0, .string a0_1, .string a0_2], .int .i64 a1] w fun e w' => e = .returned (.int .i64 r) ∧ Below w.heap.size w w' := by
  have hu23 := Try.underlying23
  have HB := Aside0.mk (Below.refl w.heap.size w)
  have H : (if (wrap64 (a1 - (a0_0.size : Int))) < 0 then (some (-1)) else (if (wrap64 ((wrap64 (a1 - (a0_0.size : Int))) - (a0_1.size : Int))) < 0 then (some (-1)) else (if (wrap64 ((wrap64 ((wrap64 (a1 - (a0_0.size : Int))) - (a0_1.size : Int))) - (a0_2.size : Int))) < 0 then (some (-1)) else (some (wrap64 ((wrap64 ((wrap64 (a1 - (a0_0.size : Int))) - (a0_1.size : Int))) - (a0_2.size : Int))))))) = some r := h
  clear h
  by_cases c3 : (wrap64 (a1 - (a0_0.size : Int))) < 0
  · rw [if_pos c3] at H
    have c3b0 : decide ((wrap64 (a1 - (a0_0.size : Int))) < 0) = true := decide_eq_true c3
    have c3w : decide ((IntKind.i64.wrap (a1 - (a0_0.size : Int))) < 0) = true := by simp only [i64_w]; exact c3b0
    clear c3
    obtain rfl := Option.some.inj H
    go_enter Try.func6, Try.ntmps6
    go_wp2_with (first | ((with_reducible refine gate_dst (N := 2) rfl ?_); refine box_event ?hg (N := 2) ?hd (cs := #[.string a0_0, .string a0_1, .string a0_2]) (t := 23) ?hr ?_; (case hd => rfl); (case hg => rfl); (case hr => first | (go_simp; done) | (go_simp; rfl)); intro gb6001 hg w4 hbox hb; have n0_ := Aside0.mk (below_step (by repeat (first | (with_reducible first | exact HB.out | apply below_alloc | apply pw_below_drewN | apply below_drew1) | exact HB.out)) hb); have n1_ := Aside0.mk (hbox); have n2_ := Aside0.mk ((by rw [hg]; exact (below_size (by repeat (first | (with_reducible first | exact HB.out | apply below_alloc | apply pw_below_drewN | apply below_drew1) | exact HB.out))) : w.heap.size ≤ gb6001)); have n3_ := Aside0.mk ((by rw [hg]; exact (below_size (by repeat (first | (with_reducible first | exact HB.out | apply below_alloc | apply pw_below_drewN | apply below_drew1) | exact HB.out))) : w.heap.size ≤ gb6001)); clear HB; have HB := n0_; have BK6001 := n1_; have GW6001 := n2_; have GE6001 := n3_; clear n0_ n1_ n2_ n3_; clear hb hbox hg; have hcz5_0 : w4.cell? ⟨gb6001, 0, none⟩ = some (.string a0_0) := (blk_cell BK6001.out 0).trans rfl; have hcz5_1 : w4.cell? ⟨gb6001, 1, none⟩ = some (.string a0_1) := (blk_cell BK6001.out 1).trans rfl; have hcz5_2 : w4.cell? ⟨gb6001, 2, none⟩ = some (.string a0_2) := (blk_cell BK6001.out 2).trans rfl; have hfz5_0 := blk_frozen BK6001.out 0; have hfz5_1 := blk_frozen BK6001.out 1; have hfz5_2 := blk_frozen BK6001.out 2))
    go_ret
    exact ⟨by first | rfl | (simp [errW_none, errW_some] <;> rfl) | (simp [*, errW_none, errW_some] <;> rfl), by repeat (first | (with_reducible first | exact HB.out | apply below_alloc | apply pw_below_drewN | apply below_drew1 | refine below_set ?_ GE6001.out) | exact HB.out)⟩
  · rw [if_neg c3] at H
    have c3b0 : decide ((wrap64 (a1 - (a0_0.size : Int))) < 0) = false := decide_eq_false c3
    have c3w : decide ((IntKind.i64.wrap (a1 - (a0_0.size : Int))) < 0) = false := by simp only [i64_w]; exact c3b0
    clear c3
    by_cases c6 : (wrap64 ((wrap64 (a1 - (a0_0.size : Int))) - (a0_1.size : Int))) < 0
    · rw [if_pos c6] at H
      have c6b0 : decide ((wrap64 ((wrap64 (a1 - (a0_0.size : Int))) - (a0_1.size : Int))) < 0) = true := decide_eq_true c6
      have c6w : decide ((IntKind.i64.wrap ((IntKind.i64.wrap (a1 - (a0_0.size : Int))) - (a0_1.size : Int))) < 0) = true := by simp only [i64_w]; exact c6b0
      clear c6
      obtain rfl := Option.some.inj H
      go_enter Try.func6, Try.ntmps6
      go_wp2_with (first | ((with_reducible refine gate_dst (N := 2) rfl ?_); refine box_event ?hg (N := 2) ?hd (cs := #[.string a0_0, .string a0_1, .string a0_2]) (t := 23) ?hr ?_; (case hd => rfl); (case hg => rfl); (case hr => first | (go_simp; done) | (go_simp; rfl)); intro gb6001 hg w7 hbox hb; have n0_ := Aside0.mk (below_step (by repeat (first | (with_reducible first | exact HB.out | apply below_alloc | apply pw_below_drewN | apply below_drew1) | exact HB.out)) hb); have n1_ := Aside0.mk (hbox); have n2_ := Aside0.mk ((by rw [hg]; exact (below_size (by repeat (first | (with_reducible first | exact HB.out | apply below_alloc | apply pw_below_drewN | apply below_drew1) | exact HB.out))) : w.heap.size ≤ gb6001)); have n3_ := Aside0.mk ((by rw [hg]; exact (below_size (by repeat (first | (with_reducible first | exact HB.out | apply below_alloc | apply pw_below_drewN | apply below_drew1) | exact HB.out))) : w.heap.size ≤ gb6001)); clear HB; have HB := n0_; have BK6001 := n1_; have GW6001 := n2_; have GE6001 := n3_; clear n0_ n1_ n2_ n3_; clear hb hbox hg; have hcz8_0 : w7.cell? ⟨gb6001, 0, none⟩ = some (.string a0_0) := (blk_cell BK6001.out 0).trans rfl; have hcz8_1 : w7.cell? ⟨gb6001, 1, none⟩ = some (.string a0_1) := (blk_cell BK6001.out 1).trans rfl; have hcz8_2 : w7.cell? ⟨gb6001, 2, none⟩ = some (.string a0_2) := (blk_cell BK6001.out 2).trans rfl; have hfz8_0 := blk_frozen BK6001.out 0; have hfz8_1 := blk_frozen BK6001.out 1; have hfz8_2 := blk_frozen BK6001.out 2))
      go_ret
      exact ⟨by first | rfl | (simp [errW_none, errW_some] <;> rfl) | (simp [*, errW_none, errW_some] <;> rfl), by repeat (first | (with_reducible first | exact HB.out | apply below_alloc | apply pw_below_drewN | apply below_drew1 | refine below_set ?_ GE6001.out) | exact HB.out)⟩
    · rw [if_neg c6] at H
      have c6b0 : decide ((wrap64 ((wrap64 (a1 - (a0_0.size : Int))) - (a0_1.size : Int))) < 0) = false := decide_eq_false c6
      have c6w : decide ((IntKind.i64.wrap ((IntKind.i64.wrap (a1 - (a0_0.size : Int))) - (a0_1.size : Int))) < 0) = false := by simp only [i64_w]; exact c6b0
      clear c6
      by_cases c9 : (wrap64 ((wrap64 ((wrap64 (a1 - (a0_0.size : Int))) - (a0_1.size : Int))) - (a0_2.size : Int))) < 0
      · rw [if_pos c9] at H
        have c9b0 : decide ((wrap64 ((wrap64 ((wrap64 (a1 - (a0_0.size : Int))) - (a0_1.size : Int))) - (a0_2.size : Int))) < 0) = true := decide_eq_true c9
        have c9w : decide ((IntKind.i64.wrap ((IntKind.i64.wrap ((IntKind.i64.wrap (a1 - (a0_0.size : Int))) - (a0_1.size : Int))) - (a0_2.size : Int))) < 0) = true := by simp only [i64_w]; exact c9b0
        clear c9
        obtain rfl := Option.some.inj H
        go_enter Try.func6, Try.ntmps6
        go_wp2_with (first | ((with_reducible refine gate_dst (N := 2) rfl ?_); refine box_event ?hg (N := 2) ?hd (cs := #[.string a0_0, .string a0_1, .string a0_2]) (t := 23) ?hr ?_; (case hd => rfl); (case hg => rfl); (case hr => first | (go_simp; done) | (go_simp; rfl)); intro gb6001 hg w10 hbox hb; have n0_ := Aside0.mk (below_step (by repeat (first | (with_reducible first | exact HB.out | apply below_alloc | apply pw_below_drewN | apply below_drew1) | exact HB.out)) hb); have n1_ := Aside0.mk (hbox); have n2_ := Aside0.mk ((by rw [hg]; exact (below_size (by repeat (first | (with_reducible first | exact HB.out | apply below_alloc | apply pw_below_drewN | apply below_drew1) | exact HB.out))) : w.heap.size ≤ gb6001)); have n3_ := Aside0.mk ((by rw [hg]; exact (below_size (by repeat (first | (with_reducible first | exact HB.out | apply below_alloc | apply pw_below_drewN | apply below_drew1) | exact HB.out))) : w.heap.size ≤ gb6001)); clear HB; have HB := n0_; have BK6001 := n1_; have GW6001 := n2_; have GE6001 := n3_; clear n0_ n1_ n2_ n3_; clear hb hbox hg; have hcz11_0 : w10.cell? ⟨gb6001, 0, none⟩ = some (.string a0_0) := (blk_cell BK6001.out 0).trans rfl; have hcz11_1 : w10.cell? ⟨gb6001, 1, none⟩ = some (.string a0_1) := (blk_cell BK6001.out 1).trans rfl; have hcz11_2 : w10.cell? ⟨gb6001, 2, none⟩ = some (.string a0_2) := (blk_cell BK6001.out 2).trans rfl; have hfz11_0 := blk_frozen BK6001.out 0; have hfz11_1 := blk_frozen BK6001.out 1; have hfz11_2 := blk_frozen BK6001.out 2))
        go_ret
        exact ⟨by first | rfl | (simp [errW_none, errW_some] <;> rfl) | (simp [*, errW_none, errW_some] <;> rfl), by repeat (first | (with_reducible first | exact HB.out | apply below_alloc | apply pw_below_drewN | apply below_drew1 | refine below_set ?_ GE6001.out) | exact HB.out)⟩
      · rw [if_neg c9] at H
        have c9b0 : decide ((wrap64 ((wrap64 ((wrap64 (a1 - (a0_0.size : Int))) - (a0_1.size : Int))) - (a0_2.size : Int))) < 0) = false := decide_eq_false c9
        have c9w : decide ((IntKind.i64.wrap ((IntKind.i64.wrap ((IntKind.i64.wrap (a1 - (a0_0.size : Int))) - (a0_1.size : Int))) - (a0_2.size : Int))) < 0) = false := by simp only [i64_w]; exact c9b0
        clear c9
        obtain rfl := Option.some.inj H
        go_enter Try.func6, Try.ntmps6
        go_wp2_with (first | ((with_reducible refine gate_dst (N := 2) rfl ?_); refine box_event ?hg (N := 2) ?hd (cs := #[.string a0_0, .string a0_1, .string a0_2]) (t := 23) ?hr ?_; (case hd => rfl); (case hg => rfl); (case hr => first | (go_simp; done) | (go_simp; rfl)); intro gb6001 hg w12 hbox hb; have n0_ := Aside0.mk (below_step (by repeat (first | (with_reducible first | exact HB.out | apply below_alloc | apply pw_below_drewN | apply below_drew1) | exact HB.out)) hb); have n1_ := Aside0.mk (hbox); have n2_ := Aside0.mk ((by rw [hg]; exact (below_size (by repeat (first | (with_reducible first | exact HB.out | apply below_alloc | apply pw_below_drewN | apply below_drew1) | exact HB.out))) : w.heap.size ≤ gb6001)); have n3_ := Aside0.mk ((by rw [hg]; exact (below_size (by repeat (first | (with_reducible first | exact HB.out | apply below_alloc | apply pw_below_drewN | apply below_drew1) | exact HB.out))) : w.heap.size ≤ gb6001)); clear HB; have HB := n0_; have BK6001 := n1_; have GW6001 := n2_; have GE6001 := n3_; clear n0_ n1_ n2_ n3_; clear hb hbox hg; have hcz13_0 : w12.cell? ⟨gb6001, 0, none⟩ = some (.string a0_0) := (blk_cell BK6001.out 0).trans rfl; have hcz13_1 : w12.cell? ⟨gb6001, 1, none⟩ = some (.string a0_1) := (blk_cell BK6001.out 1).trans rfl; have hcz13_2 : w12.cell? ⟨gb6001, 2, none⟩ = some (.string a0_2) := (blk_cell BK6001.out 2).trans rfl; have hfz13_0 := blk_frozen BK6001.out 0; have hfz13_1 := blk_frozen BK6001.out 1; have hfz13_2 := blk_frozen BK6001.out 2))
        go_ret
        exact ⟨by first | rfl | (simp [errW_none, errW_some] <;> rfl) | (simp [*, errW_none, errW_some] <;> rfl), by repeat (first | (with_reducible first | exact HB.out | apply below_alloc | apply pw_below_drewN | apply below_drew1 | refine below_set ?_ GE6001.out) | exact HB.out)⟩

/-! ### laws_toValues: function 8 -/
def laws_toValues.f (a0_0 : ByteArray) (a0_1 : ByteArray) (a0_2 : ByteArray) : Option (ByteArray × ByteArray × ByteArray) := some (a0_0, a0_1, a0_2)
set_option maxHeartbeats 8000000 in
set_option maxRecDepth 100000 in
theorem laws_toValues.calls (a0_0 : ByteArray) (a0_1 : ByteArray) (a0_2 : ByteArray) (r1 : ByteArray) (r2 : ByteArray) (r3 : ByteArray) (w : World) (h : laws_toValues.f a0_0 a0_1 a0_2 = some (r1, r2, r3)) :
    Calls Try.prog 8 #[.agg #[.string a0_0, .string a0_1, .string a0_2]] w fun e w' => e = .returned (.agg #[.string r1, .string r2, .string r3]) ∧ Below w.heap.size w w' := by
  have hu23 := Try.underlying23
  have hu26 := Try.underlying26
  have HB := Aside0.mk (Below.refl w.heap.size w)
  have H : (some (a0_0, a0_1, a0_2)) = some (r1, r2, r3) := h
  clear h
  simp only [Option.some.injEq, Prod.mk.injEq] at H
  obtain ⟨rfl, rfl, rfl⟩ := H
  go_enter Try.func8, Try.ntmps8
  go_wp2_with (first | ((with_reducible refine gate_dst (N := 1) rfl ?_); refine box_event ?hg (N := 1) ?hd (cs := #[.string a0_0, .string a0_1, .string a0_2]) (t := 23) ?hr ?_; (case hd => rfl); (case hg => rfl); (case hr => first | (go_simp; done) | (go_simp; rfl)); intro gb8001 hg w2 hbox hb; have n0_ := Aside0.mk (below_step (by repeat (first | (with_reducible first | exact HB.out | apply below_alloc | apply pw_below_drewN | apply below_drew1) | exact HB.out)) hb); have n1_ := Aside0.mk (hbox); have n2_ := Aside0.mk ((by rw [hg]; exact (below_size (by repeat (first | (with_reducible first | exact HB.out | apply below_alloc | apply pw_below_drewN | apply below_drew1) | exact HB.out))) : w.heap.size ≤ gb8001)); have n3_ := Aside0.mk ((by rw [hg]; exact (below_size (by repeat (first | (with_reducible first | exact HB.out | apply below_alloc | apply pw_below_drewN | apply below_drew1) | exact HB.out))) : w.heap.size ≤ gb8001)); clear HB; have HB := n0_; have BK8001 := n1_; have GW8001 := n2_; have GE8001 := n3_; clear n0_ n1_ n2_ n3_; clear hb hbox hg) | ((with_reducible refine gate_dst (N := 2) rfl ?_); refine box_event ?hg (N := 2) ?hd (cs := #[.string (⟨#[]⟩ : ByteArray), .string (⟨#[]⟩ : ByteArray), .string (⟨#[]⟩ : ByteArray)]) (t := 26) ?hr ?_; (case hd => rfl); (case hg => rfl); (case hr => first | (go_simp; done) | (go_simp; rfl)); intro gb8002 hg w3 hbox hb; have n0_ := Aside0.mk (blk_below (g := gb8001) (o := .cells #[.string a0_0, .string a0_1, .string a0_2] 23 (0, 0)) (by (with_reducible repeat (first | refine blk_drewN ?_ _ | refine blk_drew ?_ | refine blk_alloc ?_ _)); exact BK8001.out) hb); have n1_ := Aside0.mk (below_step (by repeat (first | (with_reducible first | exact HB.out | apply below_alloc | apply pw_below_drewN | apply below_drew1 | refine below_set ?_ GE8001.out) | exact HB.out)) hb); have n2_ := Aside0.mk (hbox); have n3_ := Aside0.mk ((by rw [hg]; exact (below_size (by repeat (first | (with_reducible first | exact HB.out | apply below_alloc | apply pw_below_drewN | apply below_drew1 | refine below_set ?_ GE8001.out) | exact HB.out))) : w.heap.size ≤ gb8002)); have n4_ := Aside0.mk ((by rw [hg]; exact (below_size (by repeat (first | (with_reducible first | exact HB.out | apply below_alloc | apply pw_below_drewN | apply below_drew1 | refine below_set ?_ GE8001.out) | exact HB.out))) : w.heap.size ≤ gb8002)); have n5_ := Aside0.mk ((by rw [hg]; exact Nat.ne_of_lt (blk_lt (g := gb8001) (o := .cells #[.string a0_0, .string a0_1, .string a0_2] 23 (0, 0)) (by (with_reducible repeat (first | refine blk_drewN ?_ _ | refine blk_drew ?_ | refine blk_alloc ?_ _)); exact BK8001.out)) : gb8001 ≠ gb8002)); have n6_ := Aside0.mk ((by rw [hg]; exact Nat.ne_of_gt (blk_lt (g := gb8001) (o := .cells #[.string a0_0, .string a0_1, .string a0_2] 23 (0, 0)) (by (with_reducible repeat (first | refine blk_drewN ?_ _ | refine blk_drew ?_ | refine blk_alloc ?_ _)); exact BK8001.out)) : gb8002 ≠ gb8001)); clear BK8001; clear HB; have BK8001 := n0_; have HB := n1_; have BK8002 := n2_; have GW8002 := n3_; have GE8002 := n4_; have NB8001_8002 := n5_; have NB8002_8001 := n6_; clear n0_ n1_ n2_ n3_ n4_ n5_ n6_; clear hb hbox hg) | ((with_reducible refine gate_dst (N := 3) rfl ?_); refine box_event ?hg (N := 3) ?hd (cs := #[.string (⟨#[]⟩ : ByteArray), .string (⟨#[]⟩ : ByteArray), .string (⟨#[]⟩ : ByteArray)]) (t := 26) ?hr ?_; (case hd => rfl); (case hg => rfl); (case hr => first | (go_simp; done) | (go_simp; rfl)); intro gb8003 hg w4 hbox hb; have n0_ := Aside0.mk (blk_below (g := gb8001) (o := .cells #[.string a0_0, .string a0_1, .string a0_2] 23 (0, 0)) (by (with_reducible repeat (first | refine blk_drewN ?_ _ | refine blk_drew ?_ | refine blk_alloc ?_ _)); exact BK8001.out) hb); have n1_ := Aside0.mk (blk_below (g := gb8002) (o := .cells #[.string (⟨#[]⟩ : ByteArray), .string (⟨#[]⟩ : ByteArray), .string (⟨#[]⟩ : ByteArray)] 26 (0, 0)) (by (with_reducible repeat (first | refine blk_drewN ?_ _ | refine blk_drew ?_ | refine blk_alloc ?_ _)); exact BK8002.out) hb); have n2_ := Aside0.mk (below_step (by repeat (first | (with_reducible first | exact HB.out | apply below_alloc | apply pw_below_drewN | apply below_drew1 | refine below_set ?_ GE8001.out | refine below_set ?_ GE8002.out) | exact HB.out)) hb); have n3_ := Aside0.mk (hbox); have n4_ := Aside0.mk ((by rw [hg]; exact (below_size (by repeat (first | (with_reducible first | exact HB.out | apply below_alloc | apply pw_below_drewN | apply below_drew1 | refine below_set ?_ GE8001.out | refine below_set ?_ GE8002.out) | exact HB.out))) : w.heap.size ≤ gb8003)); have n5_ := Aside0.mk ((by rw [hg]; exact (below_size (by repeat (first | (with_reducible first | exact HB.out | apply below_alloc | apply pw_below_drewN | apply below_drew1 | refine below_set ?_ GE8001.out | refine below_set ?_ GE8002.out) | exact HB.out))) : w.heap.size ≤ gb8003)); have n6_ := Aside0.mk ((by rw [hg]; exact Nat.ne_of_lt (blk_lt (g := gb8001) (o := .cells #[.string a0_0, .string a0_1, .string a0_2] 23 (0, 0)) (by (with_reducible repeat (first | refine blk_drewN ?_ _ | refine blk_drew ?_ | refine blk_alloc ?_ _)); exact BK8001.out)) : gb8001 ≠ gb8003)); have n7_ := Aside0.mk ((by rw [hg]; exact Nat.ne_of_gt (blk_lt (g := gb8001) (o := .cells #[.string a0_0, .string a0_1, .string a0_2] 23 (0, 0)) (by (with_reducible repeat (first | refine blk_drewN ?_ _ | refine blk_drew ?_ | refine blk_alloc ?_ _)); exact BK8001.out)) : gb8003 ≠ gb8001)); have n8_ := Aside0.mk ((by rw [hg]; exact Nat.ne_of_lt (blk_lt (g := gb8002) (o := .cells #[.string (⟨#[]⟩ : ByteArray), .string (⟨#[]⟩ : ByteArray), .string (⟨#[]⟩ : ByteArray)] 26 (0, 0)) (by (with_reducible repeat (first | refine blk_drewN ?_ _ | refine blk_drew ?_ | refine blk_alloc ?_ _)); exact BK8002.out)) : gb8002 ≠ gb8003)); have n9_ := Aside0.mk ((by rw [hg]; exact Nat.ne_of_gt (blk_lt (g := gb8002) (o := .cells #[.string (⟨#[]⟩ : ByteArray), .string (⟨#[]⟩ : ByteArray), .string (⟨#[]⟩ : ByteArray)] 26 (0, 0)) (by (with_reducible repeat (first | refine blk_drewN ?_ _ | refine blk_drew ?_ | refine blk_alloc ?_ _)); exact BK8002.out)) : gb8003 ≠ gb8002)); clear BK8001; clear BK8002; clear HB; have BK8001 := n0_; have BK8002 := n1_; have HB := n2_; have BK8003 := n3_; have GW8003 := n4_; have GE8003 := n5_; have NB8001_8003 := n6_; have NB8003_8001 := n7_; have NB8002_8003 := n8_; have NB8003_8002 := n9_; clear n0_ n1_ n2_ n3_ n4_ n5_ n6_ n7_ n8_ n9_; clear hb hbox hg; have hnb5 := NB8001_8002.out; have hnc5 := NB8002_8001.out; have hnb6 := NB8001_8003.out; have hnc6 := NB8003_8001.out; have hcz7_0 : w4.cell? ⟨gb8001, 0, none⟩ = some (.string a0_0) := (blk_cell BK8001.out 0).trans rfl; have hcz7_1 : w4.cell? ⟨gb8001, 1, none⟩ = some (.string a0_1) := (blk_cell BK8001.out 1).trans rfl; have hcz7_2 : w4.cell? ⟨gb8001, 2, none⟩ = some (.string a0_2) := (blk_cell BK8001.out 2).trans rfl; have hfz7_0 := blk_frozen BK8001.out 0; have hfz7_1 := blk_frozen BK8001.out 1; have hfz7_2 := blk_frozen BK8001.out 2; have hnb8 := NB8003_8002.out; have hnc8 := NB8002_8003.out; have hcz9_0 : w4.cell? ⟨gb8003, 0, none⟩ = some (.string (⟨#[]⟩ : ByteArray)) := (blk_cell BK8003.out 0).trans rfl; have hcz9_1 : w4.cell? ⟨gb8003, 1, none⟩ = some (.string (⟨#[]⟩ : ByteArray)) := (blk_cell BK8003.out 1).trans rfl; have hcz9_2 : w4.cell? ⟨gb8003, 2, none⟩ = some (.string (⟨#[]⟩ : ByteArray)) := (blk_cell BK8003.out 2).trans rfl; have hfz9_0 := blk_frozen BK8003.out 0; have hfz9_1 := blk_frozen BK8003.out 1; have hfz9_2 := blk_frozen BK8003.out 2; have hcz10_0 : w4.cell? ⟨gb8002, 0, none⟩ = some (.string (⟨#[]⟩ : ByteArray)) := (blk_cell BK8002.out 0).trans rfl; have hcz10_1 : w4.cell? ⟨gb8002, 1, none⟩ = some (.string (⟨#[]⟩ : ByteArray)) := (blk_cell BK8002.out 1).trans rfl; have hcz10_2 : w4.cell? ⟨gb8002, 2, none⟩ = some (.string (⟨#[]⟩ : ByteArray)) := (blk_cell BK8002.out 2).trans rfl; have hfz10_0 := blk_frozen BK8002.out 0; have hfz10_1 := blk_frozen BK8002.out 1; have hfz10_2 := blk_frozen BK8002.out 2))
  refine bodyPost_ret (results_cell_row rfl _ _ gb8002 26 #[.string a0_0, .string a0_1, .string a0_2] (0, 0) _ rfl (by (with_reducible repeat (first | refine blk_drewN ?_ _ | refine blk_drew ?_ | refine blk_alloc ?_ _)); refine blk_put (cs := #[.string a0_0, .string a0_1, .string (⟨#[]⟩ : ByteArray)]) ?_ 2 _ rfl; (with_reducible repeat (first | refine blk_drewN ?_ _ | refine blk_drew ?_ | refine blk_alloc ?_ _)); refine blk_put (cs := #[.string a0_0, .string (⟨#[]⟩ : ByteArray), .string (⟨#[]⟩ : ByteArray)]) ?_ 1 _ rfl; (with_reducible repeat (first | refine blk_drewN ?_ _ | refine blk_drew ?_ | refine blk_alloc ?_ _)); refine blk_put (cs := #[.string (⟨#[]⟩ : ByteArray), .string (⟨#[]⟩ : ByteArray), .string (⟨#[]⟩ : ByteArray)]) ?_ 0 _ rfl; (with_reducible repeat (first | refine blk_drewN ?_ _ | refine blk_drew ?_ | refine blk_alloc ?_ _)); refine blk_far ?_ NB8002_8003.out _; (with_reducible repeat (first | refine blk_drewN ?_ _ | refine blk_drew ?_ | refine blk_alloc ?_ _)); refine blk_far ?_ NB8002_8003.out _; (with_reducible repeat (first | refine blk_drewN ?_ _ | refine blk_drew ?_ | refine blk_alloc ?_ _)); refine blk_far ?_ NB8002_8003.out _; (with_reducible repeat (first | refine blk_drewN ?_ _ | refine blk_drew ?_ | refine blk_alloc ?_ _)); exact BK8002.out) Try.underlying26 rfl (by kernel_rfl)) rfl ?_
  exact ⟨by first | rfl | (simp [errW_none, errW_some] <;> rfl) | (simp [*, errW_none, errW_some] <;> rfl), by repeat (first | (with_reducible first | exact HB.out | apply below_alloc | apply pw_below_drewN | apply below_drew1 | refine below_set ?_ GE8001.out | refine below_set ?_ GE8002.out | refine below_set ?_ GE8003.out) | exact HB.out)⟩


end Go.Proofs.Ytgllnohlocfeoaa.A


namespace Go.Proofs.Ytgllnohlocfeoaa.A
open Go.RowKit Go.Proofs.Ytgllnohlocfeoaa.Ext Go.Proofs.YtgllnohlocfeoaaW.PrintWords Go.Proofs.YtgllnohlocfeoaaW.PrintLast Go.Proofs.YtgllnohlocfeoaaW.PrintMore
attribute [local go_sem] max2_int min2_int max_two min_two max_three min_three max_four min_four   -- for this text's walks alone
set_option linter.unusedVariables false
set_option linter.unusedSimpArgs false

/-! ### spec_CountByte: function 49 -/
def spec_CountByte.l0 : Nat → ByteArray → Int → Int → Int → Option (Int)
  | 0, _, _, _, _ => none
  | k + 1, x0, x1, x5, x6 => if x6 < (x0.size : Int) then (if 0 ≤ x6 then (if (bt x0 x6) = x1 then (spec_CountByte.l0 k x0 x1 (wrap64 (x5 + 1)) (wrap64 (x6 + 1))) else (spec_CountByte.l0 k x0 x1 x5 (wrap64 (x6 + 1)))) else (none)) else (some x5)
def spec_CountByte.f (k : Nat) (a0 : ByteArray) (a1 : Int) : Option (Int) := spec_CountByte.l0 k a0 a1 0 0
theorem spec_CountByte.mono_l : ∀ k, (∀ y0 y1 y2 y3, LeO (spec_CountByte.l0 k y0 y1 y2 y3) (spec_CountByte.l0 (k + 1) y0 y1 y2 y3))
  | 0 => fun _ _ _ _ r h => by simp [spec_CountByte.l0] at h
  | k + 1 => by
    have ih0 := spec_CountByte.mono_l k
    · intro y0 y1 y2 y3
      unfold spec_CountByte.l0
      repeat' first
      | (with_reducible exact ih0 _ _ _ _)
      | (with_reducible exact LeO.refl _)
      | (with_reducible exact LeO.none _)
      | (with_reducible refine LeO.ite ?_ ?_)
      | (with_reducible refine LeO.bind ?_ (fun _ => ?_))
      | exact ih0 _ _ _ _
      | exact LeO.none _
      | refine LeO.ite ?_ ?_
      | refine LeO.bind ?_ (fun _ => ?_)
theorem spec_CountByte.mono : ∀ a0 a1 k, LeO (spec_CountByte.f k a0 a1) (spec_CountByte.f (k + 1) a0 a1) := by
  intro a0 a1 k
  have ih0 := spec_CountByte.mono_l k
  unfold spec_CountByte.f
  repeat' first
      | (with_reducible exact ih0 _ _ _ _)
      | (with_reducible exact LeO.refl _)
      | (with_reducible exact LeO.none _)
      | (with_reducible refine LeO.ite ?_ ?_)
      | (with_reducible refine LeO.bind ?_ (fun _ => ?_))
      | exact ih0 _ _ _ _
      | exact LeO.none _
      | refine LeO.ite ?_ ?_
      | refine LeO.bind ?_ (fun _ => ?_)
set_option maxHeartbeats 8000000 in
set_option maxRecDepth 100000 in
theorem spec_CountByte.calls (k : Nat) (a0 : ByteArray) (a1 : Int) (r : Int) (w : World) (h : spec_CountByte.f k a0 a1 = some r) :
    Calls Try.prog 49 #[.string a0, .int .u8 a1] w fun e w' => e = .returned (.int .i64 r) ∧ Drawn0 w w' := by
  have H : (spec_CountByte.l0 k a0 a1 0 0) = some r := h
  clear h
  have H' := Aside0.mk H
  clear H
  go_enter Try.func49, Try.ntmps49
  go_wp2
  first | go_loopg [5, 6] k (fun kq v5 v6 w' => ∃ (x5_1 : Int) (x6_1 : Int), v5 = .int .i64 x5_1 ∧ v6 = .int .i64 x6_1 ∧ Aside0 (spec_CountByte.l0 kq a0 a1 x5_1 x6_1 = some r) ∧ Aside0 (kq ≤ k) ∧ Drawn0 w w') | (simp only [Act.put, List.setIfInBounds_toArray, List.set_cons_succ, List.set_cons_zero]; go_loopg [5, 6] k (fun kq v5 v6 w' => ∃ (x5_1 : Int) (x6_1 : Int), v5 = .int .i64 x5_1 ∧ v6 = .int .i64 x6_1 ∧ Aside0 (spec_CountByte.l0 kq a0 a1 x5_1 x6_1 = some r) ∧ Aside0 (kq ≤ k) ∧ Drawn0 w w'))
  case atStart => exact ⟨(0), (0), (by first | rfl | (simp; done) | (simp [*]; done)), (by first | rfl | (simp; done) | (simp [*]; done)), H', ⟨Nat.le_refl _⟩, by repeat (first | exact Drawn0.refl _ | apply Drawn0.step)⟩
  case round =>
    clear H'
    try clear p2
    obtain ⟨x5_1, x6_1, rfl, rfl, HA, HK1, ⟨m1, rfl⟩⟩ := hrel
    cases gk with
    | zero => exact absurd HA.out (by simp [spec_CountByte.l0])
    | succ k1 =>
      have H := HA.out
      clear HA
      simp only [spec_CountByte.l0] at H
      by_cases c3 : x6_1 < (a0.size : Int)
      · rw [if_pos c3] at H
        have c3b0 : decide (x6_1 < (a0.size : Int)) = true := decide_eq_true c3
        clear c3
        by_cases c4 : 0 ≤ x6_1
        · rw [if_pos c4] at H
          have c4b0 : decide (0 ≤ x6_1) = true := decide_eq_true c4
          clear c4
          by_cases c6 : (bt a0 x6_1) = a1
          · rw [if_pos c6] at H
            have c6b0 : ((bt a0 x6_1) == a1) = true := beq_iff_eq.mpr c6
            have c6b1 : ((bt a0 x6_1) != a1) = false := bne_eq_false_iff_eq.mpr c6
            clear c6
            have H' := Aside0.mk H
            clear H
            have p5 : 0 ≤ (x6_1 : Int) := of_decide_eq_true (by first | (with_reducible assumption) | assumption)
            have q5 : x6_1 < (a0.size : Int) := of_decide_eq_true (by first | (with_reducible assumption) | assumption)
            have hx5 := bt_at a0 x6_1
            replace p5 := eq_true p5
            replace q5 := eq_true q5
            go_wp2
            go_roundg k1
            case measure => have := HK1.out; omega
            case rel => exact ⟨(wrap64 (x5_1 + 1)), (wrap64 (x6_1 + 1)), (by first | rfl | (simp; done) | (simp [*]; done)), (by first | rfl | (simp; done) | (simp [*]; done)), H', ⟨by have := HK1.out; omega⟩, by repeat (first | exact Drawn0.refl _ | apply Drawn0.step)⟩
          · rw [if_neg c6] at H
            have c6b0 : ((bt a0 x6_1) == a1) = false := beq_eq_false_iff_ne.mpr c6
            have c6b1 : ((bt a0 x6_1) != a1) = true := bne_iff_ne.mpr c6
            have H' := Aside0.mk H
            clear H
            have p5 : 0 ≤ (x6_1 : Int) := of_decide_eq_true (by first | (with_reducible assumption) | assumption)
            have q5 : x6_1 < (a0.size : Int) := of_decide_eq_true (by first | (with_reducible assumption) | assumption)
            have hx5 := bt_at a0 x6_1
            replace p5 := eq_true p5
            replace q5 := eq_true q5
            go_wp2
            go_roundg k1
            case measure => have := HK1.out; omega
            case rel => exact ⟨(x5_1), (wrap64 (x6_1 + 1)), (by first | rfl | (simp; done) | (simp [*]; done)), (by first | rfl | (simp; done) | (simp [*]; done)), H', ⟨by have := HK1.out; omega⟩, by repeat (first | exact Drawn0.refl _ | apply Drawn0.step)⟩
        · rw [if_neg c4] at H
          exact absurd H (by simp)
      · rw [if_neg c3] at H
        have c3b0 : decide (x6_1 < (a0.size : Int)) = false := decide_eq_false c3
        clear c3
        obtain rfl := Option.some.inj H
        go_wp2
        go_ret
        exact ⟨by first | rfl | (simp; done) | (simp [*]; done), by repeat (first | exact Drawn0.refl _ | apply Drawn0.step)⟩

/-! ### spec_VarsOf: function 22 -/
def spec_VarsOf.l0 : Nat → ByteArray → ByteArray → Int → Option (ByteArray)
  | 0, _, _, _ => none
  | k + 1, x0, x3, x4 => if x4 < 3 then (if 0 ≤ x4 then ((spec_CountByte.f k x0 (bt (⟨#[88, 89, 90]⟩ : ByteArray) x4)).bind fun t22001 => (if t22001 > 0 then (if x4 ≤ (wrap64 (x4 + 1)) then (if (wrap64 (x4 + 1)) ≤ 3 then (if x3.size + ((⟨#[88, 89, 90]⟩ : ByteArray).extract (x4 : Int).toNat ((wrap64 (x4 + 1)) : Int).toNat).size ≤ 9223372036854775807 then (spec_VarsOf.l0 k x0 (x3 ++ ((⟨#[88, 89, 90]⟩ : ByteArray).extract (x4 : Int).toNat ((wrap64 (x4 + 1)) : Int).toNat)) (wrap64 (x4 + 1))) else (none)) else (none)) else (none)) else (spec_VarsOf.l0 k x0 x3 (wrap64 (x4 + 1))))) else (none)) else (some x3)
def spec_VarsOf.f (k : Nat) (a0 : ByteArray) : Option (ByteArray) := spec_VarsOf.l0 k a0 (⟨#[]⟩ : ByteArray) 0
theorem spec_VarsOf.mono_l : ∀ k, (∀ y0 y1 y2, LeO (spec_VarsOf.l0 k y0 y1 y2) (spec_VarsOf.l0 (k + 1) y0 y1 y2))
  | 0 => fun _ _ _ r h => by simp [spec_VarsOf.l0] at h
  | k + 1 => by
    have ih0 := spec_VarsOf.mono_l k
    · intro y0 y1 y2
      unfold spec_VarsOf.l0
      repeat' first
      | (with_reducible exact ih0 _ _ _)
      | (with_reducible exact spec_CountByte.mono _ _ _)
      | (with_reducible exact LeO.refl _)
      | (with_reducible exact LeO.none _)
      | (with_reducible refine LeO.ite ?_ ?_)
      | (with_reducible refine LeO.bind ?_ (fun _ => ?_))
      | exact ih0 _ _ _
      | exact spec_CountByte.mono _ _ _
      | exact LeO.none _
      | refine LeO.ite ?_ ?_
      | refine LeO.bind ?_ (fun _ => ?_)
theorem spec_VarsOf.mono : ∀ a0 k, LeO (spec_VarsOf.f k a0) (spec_VarsOf.f (k + 1) a0) := by
  intro a0 k
  have ih0 := spec_VarsOf.mono_l k
  unfold spec_VarsOf.f
  repeat' first
      | (with_reducible exact ih0 _ _ _)
      | (with_reducible exact spec_CountByte.mono _ _ _)
      | (with_reducible exact LeO.refl _)
      | (with_reducible exact LeO.none _)
      | (with_reducible refine LeO.ite ?_ ?_)
      | (with_reducible refine LeO.bind ?_ (fun _ => ?_))
      | exact ih0 _ _ _
      | exact spec_CountByte.mono _ _ _
      | exact LeO.none _
      | refine LeO.ite ?_ ?_
      | refine LeO.bind ?_ (fun _ => ?_)
set_option maxHeartbeats 8000000 in
set_option maxRecDepth 100000 in
theorem spec_VarsOf.calls (k : Nat) (a0 : ByteArray) (r : ByteArray) (w : World) (h : spec_VarsOf.f k a0 = some r) :
    Calls Try.prog 22 #[.string a0] w fun e w' => e = .returned (.string r) ∧ Drawn0 w w' := by
  have H : (spec_VarsOf.l0 k a0 (⟨#[]⟩ : ByteArray) 0) = some r := h
  clear h
  have H' := Aside0.mk H
  clear H
  go_enter Try.func22, Try.ntmps22
  go_wp2
  first | go_loopg [3, 4] k (fun kq v3 v4 w' => ∃ (x3_1 : ByteArray) (x4_1 : Int), v3 = .string x3_1 ∧ v4 = .int .i64 x4_1 ∧ Aside0 (spec_VarsOf.l0 kq a0 x3_1 x4_1 = some r) ∧ Aside0 (kq ≤ k) ∧ Drawn0 w w') | (simp only [Act.put, List.setIfInBounds_toArray, List.set_cons_succ, List.set_cons_zero]; go_loopg [3, 4] k (fun kq v3 v4 w' => ∃ (x3_1 : ByteArray) (x4_1 : Int), v3 = .string x3_1 ∧ v4 = .int .i64 x4_1 ∧ Aside0 (spec_VarsOf.l0 kq a0 x3_1 x4_1 = some r) ∧ Aside0 (kq ≤ k) ∧ Drawn0 w w'))
  case atStart => exact ⟨((⟨#[]⟩ : ByteArray)), (0), (by first | rfl | (simp; done) | (simp [*]; done)), (by first | rfl | (simp; done) | (simp [*]; done)), H', ⟨Nat.le_refl _⟩, by repeat (first | exact Drawn0.refl _ | apply Drawn0.step)⟩
  case round =>
    clear H'
    obtain ⟨x3_1, x4_1, rfl, rfl, HA, HK1, ⟨m1, rfl⟩⟩ := hrel
    cases gk with
    | zero => exact absurd HA.out (by simp [spec_VarsOf.l0])
    | succ k1 =>
      have H := HA.out
      clear HA
      simp only [spec_VarsOf.l0] at H
      by_cases c2 : x4_1 < 3
      · rw [if_pos c2] at H
        have c2b0 : decide (x4_1 < 3) = true := decide_eq_true c2
        clear c2
        by_cases c3 : 0 ≤ x4_1
        · rw [if_pos c3] at H
          have c3b0 : decide (0 ≤ x4_1) = true := decide_eq_true c3
          clear c3
          replace H := Option.bind_eq_some_iff.mp H
          obtain ⟨t22001, A50, H⟩ := H
          replace H : (if t22001 > 0 then (if x4_1 ≤ (wrap64 (x4_1 + 1)) then (if (wrap64 (x4_1 + 1)) ≤ 3 then (if x3_1.size + ((⟨#[88, 89, 90]⟩ : ByteArray).extract (x4_1 : Int).toNat ((wrap64 (x4_1 + 1)) : Int).toNat).size ≤ 9223372036854775807 then (spec_VarsOf.l0 k1 a0 (x3_1 ++ ((⟨#[88, 89, 90]⟩ : ByteArray).extract (x4_1 : Int).toNat ((wrap64 (x4_1 + 1)) : Int).toNat)) (wrap64 (x4_1 + 1))) else (none)) else (none)) else (none)) else (spec_VarsOf.l0 k1 a0 x3_1 (wrap64 (x4_1 + 1)))) = some r := H
          have A5 := Aside0.mk A50
          clear A50
          by_cases c6 : t22001 > 0
          · rw [if_pos c6] at H
            have c6b0 : decide (0 < t22001) = true := decide_eq_true c6
            clear c6
            have c7b0 := eq_true (of_decide_eq_true (by first | (with_reducible assumption) | assumption) : 0 ≤ x4_1)
            by_cases c8 : x4_1 ≤ (wrap64 (x4_1 + 1))
            · rw [if_pos c8] at H
              have c8b0 := eq_true c8
              have c8b1 : decide (x4_1 ≤ (wrap64 (x4_1 + 1))) = true := decide_eq_true c8
              by_cases c9 : (wrap64 (x4_1 + 1)) ≤ 3
              · rw [if_pos c9] at H
                have c9b0 := eq_true c9
                have c9b1 : decide ((wrap64 (x4_1 + 1)) ≤ 3) = true := decide_eq_true c9
                by_cases c10 : x3_1.size + ((⟨#[88, 89, 90]⟩ : ByteArray).extract (x4_1 : Int).toNat ((wrap64 (x4_1 + 1)) : Int).toNat).size ≤ 9223372036854775807
                · rw [if_pos c10] at H
                  have c10z := c10
                  try simp at c10z
                  try replace c10z := eq_false (Nat.not_lt.2 c10z)
                  have c10b0 := eq_true c10
                  have c10b1 : decide (x3_1.size + ((⟨#[88, 89, 90]⟩ : ByteArray).extract (x4_1 : Int).toNat ((wrap64 (x4_1 + 1)) : Int).toNat).size ≤ 9223372036854775807) = true := decide_eq_true c10
                  try have c10b2 : (9223372036854775807 < x3_1.size + ((⟨#[88, 89, 90]⟩ : ByteArray).extract (x4_1 : Int).toNat ((wrap64 (x4_1 + 1)) : Int).toNat).size) = False := eq_false (Nat.not_lt.2 c10)
                  have H' := Aside0.mk H
                  clear H
                  have p4 : 0 ≤ (x4_1 : Int) := of_decide_eq_true (by first | (with_reducible assumption) | assumption)
                  have q4 : x4_1 < (3 : Int) := of_decide_eq_true (by first | (with_reducible assumption) | assumption)
                  have hx4 := bt_at (⟨#[88, 89, 90]⟩ : ByteArray) x4_1
                  replace p4 := eq_true p4
                  replace q4 := eq_true q4
                  go_wp2_with (first | ((with_reducible refine gate_callee (f := 49) rfl ?_); refine goesL_ (some 12) rfl rfl Try.func49 (by kernel_rfl) rfl #[.string a0, .int .u8 (bt (⟨#[88, 89, 90]⟩ : ByteArray) x4_1)] rfl (by (try simp only [List.map_toArray, List.map_cons, List.map_nil]); first | done | rfl | (simp only [List.length_drop, List.length_take]; rfl)) ?_; (with_reducible refine (spec_CountByte.calls k1 a0 (bt (⟨#[88, 89, 90]⟩ : ByteArray) x4_1) t22001 _ A5.out).mono ?_); rintro e w' ⟨rfl, ⟨nd, rfl⟩⟩; refine ⟨_, rfl, ?_⟩))
                  go_roundg k1
                  case measure => have := HK1.out; omega
                  case rel => exact ⟨(x3_1 ++ ((⟨#[88, 89, 90]⟩ : ByteArray).extract (x4_1 : Int).toNat ((wrap64 (x4_1 + 1)) : Int).toNat)), (wrap64 (x4_1 + 1)), (by first | rfl | (simp; done) | (simp [*]; done)), (by first | rfl | (simp; done) | (simp [*]; done)), H', ⟨by have := HK1.out; omega⟩, by repeat (first | exact Drawn0.refl _ | apply Drawn0.step)⟩
                · rw [if_neg c10] at H
                  exact absurd H (by simp)
              · rw [if_neg c9] at H
                exact absurd H (by simp)
            · rw [if_neg c8] at H
              exact absurd H (by simp)
          · rw [if_neg c6] at H
            have c6b0 : decide (0 < t22001) = false := decide_eq_false c6
            clear c6
            have H' := Aside0.mk H
            clear H
            have p4 : 0 ≤ (x4_1 : Int) := of_decide_eq_true (by first | (with_reducible assumption) | assumption)
            have q4 : x4_1 < (3 : Int) := of_decide_eq_true (by first | (with_reducible assumption) | assumption)
            have hx4 := bt_at (⟨#[88, 89, 90]⟩ : ByteArray) x4_1
            replace p4 := eq_true p4
            replace q4 := eq_true q4
            go_wp2_with (first | ((with_reducible refine gate_callee (f := 49) rfl ?_); refine goesL_ (some 12) rfl rfl Try.func49 (by kernel_rfl) rfl #[.string a0, .int .u8 (bt (⟨#[88, 89, 90]⟩ : ByteArray) x4_1)] rfl (by (try simp only [List.map_toArray, List.map_cons, List.map_nil]); first | done | rfl | (simp only [List.length_drop, List.length_take]; rfl)) ?_; (with_reducible refine (spec_CountByte.calls k1 a0 (bt (⟨#[88, 89, 90]⟩ : ByteArray) x4_1) t22001 _ A5.out).mono ?_); rintro e w' ⟨rfl, ⟨nd, rfl⟩⟩; refine ⟨_, rfl, ?_⟩))
            go_roundg k1
            case measure => have := HK1.out; omega
            case rel => exact ⟨(x3_1), (wrap64 (x4_1 + 1)), (by first | rfl | (simp; done) | (simp [*]; done)), (by first | rfl | (simp; done) | (simp [*]; done)), H', ⟨by have := HK1.out; omega⟩, by repeat (first | exact Drawn0.refl _ | apply Drawn0.step)⟩
        · rw [if_neg c3] at H
          exact absurd H (by simp)
      · rw [if_neg c2] at H
        have c2b0 : decide (x4_1 < 3) = false := decide_eq_false c2
        clear c2
        obtain rfl := Option.some.inj H
        go_wp2
        go_ret
        exact ⟨by first | rfl | (simp; done) | (simp [*]; done), by repeat (first | exact Drawn0.refl _ | apply Drawn0.step)⟩

/-! ### spec_ValueOf: function 23 -/
def spec_ValueOf.f (a0_0 : ByteArray) (a0_1 : ByteArray) (a0_2 : ByteArray) (a1 : Int) : Option (ByteArray) := if a1 = 88 then (some a0_0) else (if a1 = 89 then (some a0_1) else (if a1 = 90 then (some a0_2) else (some (⟨#[]⟩ : ByteArray))))
set_option maxHeartbeats 8000000 in
set_option maxRecDepth 100000 in
theorem spec_ValueOf.calls (a0_0 : ByteArray) (a0_1 : ByteArray) (a0_2 : ByteArray) (a1 : Int) (r : ByteArray) (w : World) (h : spec_ValueOf.f a0_0 a0_1 a0_2 a1 = some r) :
    Calls Try.prog 23 #[.agg #[.string a0_0, .string a0_1, .string a0_2], .int .u8 a1] w fun e w' => e = .returned (.string r) ∧ Below w.heap.size w w' := by
  have hu26 := Try.underlying26
  have HB := Aside0.mk (Below.refl w.heap.size w)
  have H : (if a1 = 88 then (some a0_0) else (if a1 = 89 then (some a0_1) else (if a1 = 90 then (some a0_2) else (some (⟨#[]⟩ : ByteArray))))) = some r := h
  clear h
  by_cases c3 : a1 = 88
  · rw [if_pos c3] at H
    have c3b0 : (a1 == 88) = true := beq_iff_eq.mpr c3
    have c3b1 : (a1 != 88) = false := bne_eq_false_iff_eq.mpr c3
    clear c3
    obtain rfl := Option.some.inj H
    go_enter Try.func23, Try.ntmps23
    go_wp2_with (first | ((with_reducible refine gate_dst (N := 2) rfl ?_); refine box_event ?hg (N := 2) ?hd (cs := #[.string a0_0, .string a0_1, .string a0_2]) (t := 26) ?hr ?_; (case hd => rfl); (case hg => rfl); (case hr => first | (go_simp; done) | (go_simp; rfl)); intro gb23001 hg w4 hbox hb; have n0_ := Aside0.mk (below_step (by repeat (first | (with_reducible first | exact HB.out | apply below_alloc | apply pw_below_drewN | apply below_drew1) | exact HB.out)) hb); have n1_ := Aside0.mk (hbox); have n2_ := Aside0.mk ((by rw [hg]; exact (below_size (by repeat (first | (with_reducible first | exact HB.out | apply below_alloc | apply pw_below_drewN | apply below_drew1) | exact HB.out))) : w.heap.size ≤ gb23001)); have n3_ := Aside0.mk ((by rw [hg]; exact (below_size (by repeat (first | (with_reducible first | exact HB.out | apply below_alloc | apply pw_below_drewN | apply below_drew1) | exact HB.out))) : w.heap.size ≤ gb23001)); clear HB; have HB := n0_; have BK23001 := n1_; have GW23001 := n2_; have GE23001 := n3_; clear n0_ n1_ n2_ n3_; clear hb hbox hg; have hcz5_0 : w4.cell? ⟨gb23001, 0, none⟩ = some (.string a0_0) := (blk_cell BK23001.out 0).trans rfl; have hcz5_1 : w4.cell? ⟨gb23001, 1, none⟩ = some (.string a0_1) := (blk_cell BK23001.out 1).trans rfl; have hcz5_2 : w4.cell? ⟨gb23001, 2, none⟩ = some (.string a0_2) := (blk_cell BK23001.out 2).trans rfl; have hfz5_0 := blk_frozen BK23001.out 0; have hfz5_1 := blk_frozen BK23001.out 1; have hfz5_2 := blk_frozen BK23001.out 2))
    go_ret
    exact ⟨by first | rfl | (simp [errW_none, errW_some] <;> rfl) | (simp [*, errW_none, errW_some] <;> rfl), by repeat (first | (with_reducible first | exact HB.out | apply below_alloc | apply pw_below_drewN | apply below_drew1 | refine below_set ?_ GE23001.out) | exact HB.out)⟩
  · rw [if_neg c3] at H
    have c3b0 : (a1 == 88) = false := beq_eq_false_iff_ne.mpr c3
    have c3b1 : (a1 != 88) = true := bne_iff_ne.mpr c3
    by_cases c6 : a1 = 89
    · rw [if_pos c6] at H
      have c6b0 : (a1 == 89) = true := beq_iff_eq.mpr c6
      have c6b1 : (a1 != 89) = false := bne_eq_false_iff_eq.mpr c6
      clear c6
      obtain rfl := Option.some.inj H
      go_enter Try.func23, Try.ntmps23
      go_wp2_with (first | ((with_reducible refine gate_dst (N := 2) rfl ?_); refine box_event ?hg (N := 2) ?hd (cs := #[.string a0_0, .string a0_1, .string a0_2]) (t := 26) ?hr ?_; (case hd => rfl); (case hg => rfl); (case hr => first | (go_simp; done) | (go_simp; rfl)); intro gb23001 hg w7 hbox hb; have n0_ := Aside0.mk (below_step (by repeat (first | (with_reducible first | exact HB.out | apply below_alloc | apply pw_below_drewN | apply below_drew1) | exact HB.out)) hb); have n1_ := Aside0.mk (hbox); have n2_ := Aside0.mk ((by rw [hg]; exact (below_size (by repeat (first | (with_reducible first | exact HB.out | apply below_alloc | apply pw_below_drewN | apply below_drew1) | exact HB.out))) : w.heap.size ≤ gb23001)); have n3_ := Aside0.mk ((by rw [hg]; exact (below_size (by repeat (first | (with_reducible first | exact HB.out | apply below_alloc | apply pw_below_drewN | apply below_drew1) | exact HB.out))) : w.heap.size ≤ gb23001)); clear HB; have HB := n0_; have BK23001 := n1_; have GW23001 := n2_; have GE23001 := n3_; clear n0_ n1_ n2_ n3_; clear hb hbox hg; have hcz8_0 : w7.cell? ⟨gb23001, 0, none⟩ = some (.string a0_0) := (blk_cell BK23001.out 0).trans rfl; have hcz8_1 : w7.cell? ⟨gb23001, 1, none⟩ = some (.string a0_1) := (blk_cell BK23001.out 1).trans rfl; have hcz8_2 : w7.cell? ⟨gb23001, 2, none⟩ = some (.string a0_2) := (blk_cell BK23001.out 2).trans rfl; have hfz8_0 := blk_frozen BK23001.out 0; have hfz8_1 := blk_frozen BK23001.out 1; have hfz8_2 := blk_frozen BK23001.out 2))
      go_ret
      exact ⟨by first | rfl | (simp [errW_none, errW_some] <;> rfl) | (simp [*, errW_none, errW_some] <;> rfl), by repeat (first | (with_reducible first | exact HB.out | apply below_alloc | apply pw_below_drewN | apply below_drew1 | refine below_set ?_ GE23001.out) | exact HB.out)⟩
    · rw [if_neg c6] at H
      have c6b0 : (a1 == 89) = false := beq_eq_false_iff_ne.mpr c6
      have c6b1 : (a1 != 89) = true := bne_iff_ne.mpr c6
      by_cases c9 : a1 = 90
      · rw [if_pos c9] at H
        have c9b0 : (a1 == 90) = true := beq_iff_eq.mpr c9
        have c9b1 : (a1 != 90) = false := bne_eq_false_iff_eq.mpr c9
        clear c9
        obtain rfl := Option.some.inj H
        go_enter Try.func23, Try.ntmps23
        go_wp2_with (first | ((with_reducible refine gate_dst (N := 2) rfl ?_); refine box_event ?hg (N := 2) ?hd (cs := #[.string a0_0, .string a0_1, .string a0_2]) (t := 26) ?hr ?_; (case hd => rfl); (case hg => rfl); (case hr => first | (go_simp; done) | (go_simp; rfl)); intro gb23001 hg w10 hbox hb; have n0_ := Aside0.mk (below_step (by repeat (first | (with_reducible first | exact HB.out | apply below_alloc | apply pw_below_drewN | apply below_drew1) | exact HB.out)) hb); have n1_ := Aside0.mk (hbox); have n2_ := Aside0.mk ((by rw [hg]; exact (below_size (by repeat (first | (with_reducible first | exact HB.out | apply below_alloc | apply pw_below_drewN | apply below_drew1) | exact HB.out))) : w.heap.size ≤ gb23001)); have n3_ := Aside0.mk ((by rw [hg]; exact (below_size (by repeat (first | (with_reducible first | exact HB.out | apply below_alloc | apply pw_below_drewN | apply below_drew1) | exact HB.out))) : w.heap.size ≤ gb23001)); clear HB; have HB := n0_; have BK23001 := n1_; have GW23001 := n2_; have GE23001 := n3_; clear n0_ n1_ n2_ n3_; clear hb hbox hg; have hcz11_0 : w10.cell? ⟨gb23001, 0, none⟩ = some (.string a0_0) := (blk_cell BK23001.out 0).trans rfl; have hcz11_1 : w10.cell? ⟨gb23001, 1, none⟩ = some (.string a0_1) := (blk_cell BK23001.out 1).trans rfl; have hcz11_2 : w10.cell? ⟨gb23001, 2, none⟩ = some (.string a0_2) := (blk_cell BK23001.out 2).trans rfl; have hfz11_0 := blk_frozen BK23001.out 0; have hfz11_1 := blk_frozen BK23001.out 1; have hfz11_2 := blk_frozen BK23001.out 2))
        go_ret
        exact ⟨by first | rfl | (simp [errW_none, errW_some] <;> rfl) | (simp [*, errW_none, errW_some] <;> rfl), by repeat (first | (with_reducible first | exact HB.out | apply below_alloc | apply pw_below_drewN | apply below_drew1 | refine below_set ?_ GE23001.out) | exact HB.out)⟩
      · rw [if_neg c9] at H
        have c9b0 : (a1 == 90) = false := beq_eq_false_iff_ne.mpr c9
        have c9b1 : (a1 != 90) = true := bne_iff_ne.mpr c9
        obtain rfl := Option.some.inj H
        go_enter Try.func23, Try.ntmps23
        go_wp2_with (first | ((with_reducible refine gate_dst (N := 2) rfl ?_); refine box_event ?hg (N := 2) ?hd (cs := #[.string a0_0, .string a0_1, .string a0_2]) (t := 26) ?hr ?_; (case hd => rfl); (case hg => rfl); (case hr => first | (go_simp; done) | (go_simp; rfl)); intro gb23001 hg w12 hbox hb; have n0_ := Aside0.mk (below_step (by repeat (first | (with_reducible first | exact HB.out | apply below_alloc | apply pw_below_drewN | apply below_drew1) | exact HB.out)) hb); have n1_ := Aside0.mk (hbox); have n2_ := Aside0.mk ((by rw [hg]; exact (below_size (by repeat (first | (with_reducible first | exact HB.out | apply below_alloc | apply pw_below_drewN | apply below_drew1) | exact HB.out))) : w.heap.size ≤ gb23001)); have n3_ := Aside0.mk ((by rw [hg]; exact (below_size (by repeat (first | (with_reducible first | exact HB.out | apply below_alloc | apply pw_below_drewN | apply below_drew1) | exact HB.out))) : w.heap.size ≤ gb23001)); clear HB; have HB := n0_; have BK23001 := n1_; have GW23001 := n2_; have GE23001 := n3_; clear n0_ n1_ n2_ n3_; clear hb hbox hg))
        go_ret
        exact ⟨by first | rfl | (simp [errW_none, errW_some] <;> rfl) | (simp [*, errW_none, errW_some] <;> rfl), by repeat (first | (with_reducible first | exact HB.out | apply below_alloc | apply pw_below_drewN | apply below_drew1 | refine below_set ?_ GE23001.out) | exact HB.out)⟩


end Go.Proofs.Ytgllnohlocfeoaa.A


namespace Go.Proofs.Ytgllnohlocfeoaa.A
open Go.RowKit Go.Proofs.Ytgllnohlocfeoaa.Ext Go.Proofs.YtgllnohlocfeoaaW.PrintWords Go.Proofs.YtgllnohlocfeoaaW.PrintLast Go.Proofs.YtgllnohlocfeoaaW.PrintMore
attribute [local go_sem] max2_int min2_int max_two min_two max_three min_three max_four min_four   -- for this text's walks alone
set_option linter.unusedVariables false
set_option linter.unusedSimpArgs false

/-! ### spec_Join: function 24 -/
def spec_Join.l0 : Nat → List ByteArray → ByteArray → List Int → Int → Option (ByteArray)
  | 0, _, _, _, _ => none
  | k + 1, x0, x1, x5, x6 => if x6 < (x0.length : Int) then (if x6 > 0 then (if x5.length + x1.size < 140737488355328 then ((some (x5 ++ bytesOf x1 : List Int)).bind fun y24004 => (if 0 ≤ x6 then (if y24004.length + (rdOf ByteArray.empty x0 x6).size < 140737488355328 then ((some (y24004 ++ bytesOf (rdOf ByteArray.empty x0 x6) : List Int)).bind fun y24008 => (if (y24008.length : Int) > 1048576 then (some (⟨#[]⟩ : ByteArray)) else (spec_Join.l0 k x0 x1 y24008 (wrap64 (x6 + 1))))) else (none)) else (none))) else (none)) else (if 0 ≤ x6 then (if x5.length + (rdOf ByteArray.empty x0 x6).size < 140737488355328 then ((some (x5 ++ bytesOf (rdOf ByteArray.empty x0 x6) : List Int)).bind fun y24012 => (if (y24012.length : Int) > 1048576 then (some (⟨#[]⟩ : ByteArray)) else (spec_Join.l0 k x0 x1 y24012 (wrap64 (x6 + 1))))) else (none)) else (none))) else (some (strOfNums x5))
def spec_Join.f (k : Nat) (l0 : List ByteArray) (a1 : ByteArray) : Option (ByteArray) := spec_Join.l0 k l0 a1 (([] : List Int)) 0
theorem spec_Join.mono_l : ∀ k, (∀ y0 y1 y2 y3, LeO (spec_Join.l0 k y0 y1 y2 y3) (spec_Join.l0 (k + 1) y0 y1 y2 y3))
  | 0 => fun _ _ _ _ r h => by simp [spec_Join.l0] at h
  | k + 1 => by
    have ih0 := spec_Join.mono_l k
    · intro y0 y1 y2 y3
      unfold spec_Join.l0
      repeat' first
      | (with_reducible exact ih0 _ _ _ _)
      | (with_reducible exact LeO.refl _)
      | (with_reducible exact LeO.none _)
      | (with_reducible refine LeO.ite ?_ ?_)
      | (with_reducible refine LeO.bind ?_ (fun _ => ?_))
      | exact ih0 _ _ _ _
      | exact LeO.none _
      | refine LeO.ite ?_ ?_
      | refine LeO.bind ?_ (fun _ => ?_)
theorem spec_Join.mono : ∀ a0 a1 k, LeO (spec_Join.f k a0 a1) (spec_Join.f (k + 1) a0 a1) := by
  intro a0 a1 k
  have ih0 := spec_Join.mono_l k
  unfold spec_Join.f
  repeat' first
      | (with_reducible exact ih0 _ _ _ _)
      | (with_reducible exact LeO.refl _)
      | (with_reducible exact LeO.none _)
      | (with_reducible refine LeO.ite ?_ ?_)
      | (with_reducible refine LeO.bind ?_ (fun _ => ?_))
      | exact ih0 _ _ _ _
      | exact LeO.none _
      | refine LeO.ite ?_ ?_
      | refine LeO.bind ?_ (fun _ => ?_)
set_option maxHeartbeats 8000000 in
set_option maxRecDepth 100000 in
theorem spec_Join.calls (k : Nat) (A0 : Option Addr) (c0 : Nat) (l0 : List ByteArray) (a1 : ByteArray) (r : ByteArray) (w : World) (hr0 : Kd.C Kd.string w A0 l0.length l0) (hc0 : l0.length ≤ c0) (h : spec_Join.f k l0 a1 = some r) :
    Calls Try.prog 24 #[.slice A0 l0.length c0, .string a1] w fun e w' => e = .returned (.string r) ∧ Below w.heap.size w w' := by
  have HR0 := Aside0.mk hr0
  have HC0 := Aside0.mk hc0
  clear hr0 hc0
  have HB := Aside0.mk (Below.refl w.heap.size w)
  have H : (spec_Join.l0 k l0 a1 (([] : List Int)) 0) = some r := h
  clear h
  obtain ⟨y24001, hy24001⟩ : ∃ y_ : List Int, y_ = (([] : List Int)) := ⟨_, rfl⟩
  replace H : (spec_Join.l0 k l0 a1 y24001 0) = some r := by first | (rw [hy24001]; with_reducible exact H) | (have H2_ := (Option.bind_some _ _).symm.trans H; rw [hy24001]; with_reducible exact H2_) | (have H2_ := (Option.bind_some _ _).symm.trans H; with_reducible exact H2_) | with_reducible exact H | (rw [hy24001]; exact H) | exact H
  have Ny24001 := Aside0.mk hy24001
  clear hy24001
  have H' := Aside0.mk H
  clear H
  go_enter Try.func24, Try.ntmps24
  go_wp2_with (first | ((with_reducible refine gate_dst (N := 7) rfl ?_); refine Kd.R_lit (Kd.int .u8) _ 5 ?hg (N := 7) ?hd (xs := ([] : List Int)) (inner := []) (ok := fun _ => True) (okp := fun _ => True) ?hr ?hp (fun _ hk => hk) trivial (Below.refl _ _) (Nat.le_refl _) (by simp) ?_; (case hd => rfl); (case hg => rfl); (case hr => first | (go_simp; done) | (go_simp; rfl)); (case hp => exact (Reps.none _ _)); intro v24002 w3 ho4 hb hg_ hnew_; clear hg_ hnew_; (first | rw [← Ny24001.out] at ho4 | (simp only [Int.reduceToNat] at ho4; rw [← Ny24001.out] at ho4)); have n0_ := Aside0.mk (Kd.R_lower ho4 (below_size (by repeat (first | (with_reducible first | exact HB.out | apply below_alloc | apply pw_below_drewN | apply below_drew1) | exact HB.out)))); have n1_ := Aside0.mk (below_step (by repeat (first | (with_reducible first | exact HB.out | apply below_alloc | apply pw_below_drewN | apply below_drew1) | exact HB.out)) hb); clear HB; have HO24003 := n0_; have HB := n1_; clear n0_ n1_; clear hb ho4))
  first | go_loopg [5, 6] k (fun kq v5 v6 w' => ∃ (x5_1 : List Int) (x6_1 : Int), v6 = .int .i64 x6_1 ∧ Aside0 (spec_Join.l0 kq l0 a1 x5_1 x6_1 = some r) ∧ Aside0 (kq ≤ k) ∧ Aside0 (Kd.R (Kd.int .u8) 5 w' w.heap.size (fun _ => True) v5 x5_1) ∧ Aside0 (Below w.heap.size w w')) | (simp only [Act.put, List.setIfInBounds_toArray, List.set_cons_succ, List.set_cons_zero]; go_loopg [5, 6] k (fun kq v5 v6 w' => ∃ (x5_1 : List Int) (x6_1 : Int), v6 = .int .i64 x6_1 ∧ Aside0 (spec_Join.l0 kq l0 a1 x5_1 x6_1 = some r) ∧ Aside0 (kq ≤ k) ∧ Aside0 (Kd.R (Kd.int .u8) 5 w' w.heap.size (fun _ => True) v5 x5_1) ∧ Aside0 (Below w.heap.size w w')))
  case atStart => exact ⟨(y24001), (0), (by first | rfl | (simp; done) | (simp [*]; done)), H', ⟨Nat.le_refl _⟩, ⟨by (with_reducible repeat (first | apply Kd.R_alloc | apply Kd.R_drewN | apply Kd.R_drew)); exact HO24003.out⟩, ⟨by repeat (first | (with_reducible first | exact HB.out | apply below_alloc | apply pw_below_drewN | apply below_drew1) | exact HB.out)⟩⟩
  case round =>
    clear H'
    try clear c2
    try clear p2
    obtain ⟨x5_1, x6_1, rfl, HA, HK1, HO_5, HB⟩ := hrel
    cases gk with
    | zero => exact absurd HA.out (by simp [spec_Join.l0])
    | succ k1 =>
      have H := HA.out
      clear HA
      simp only [spec_Join.l0] at H
      by_cases c5 : x6_1 < (l0.length : Int)
      · rw [if_pos c5] at H
        have c5b0 : decide (x6_1 < (l0.length : Int)) = true := decide_eq_true c5
        clear c5
        by_cases c6 : x6_1 > 0
        · rw [if_pos c6] at H
          have c6b0 : decide (0 < x6_1) = true := decide_eq_true c6
          clear c6
          by_cases c7 : x5_1.length + a1.size < 140737488355328
          · rw [if_pos c7] at H
            have LMc7 := Aside0.mk c7
            clear c7
            obtain ⟨y24004, hy24004⟩ : ∃ y_ : List Int, y_ = (x5_1 ++ bytesOf a1) := ⟨_, rfl⟩
            replace H : (if 0 ≤ x6_1 then (if y24004.length + (rdOf ByteArray.empty l0 x6_1).size < 140737488355328 then ((some (y24004 ++ bytesOf (rdOf ByteArray.empty l0 x6_1) : List Int)).bind fun y24008 => (if (y24008.length : Int) > 1048576 then (some (⟨#[]⟩ : ByteArray)) else (spec_Join.l0 k1 l0 a1 y24008 (wrap64 (x6_1 + 1))))) else (none)) else (none)) = some r := by first | (rw [hy24004]; with_reducible exact H) | (have H2_ := (Option.bind_some _ _).symm.trans H; rw [hy24004]; with_reducible exact H2_) | (have H2_ := (Option.bind_some _ _).symm.trans H; with_reducible exact H2_) | with_reducible exact H | (rw [hy24004]; exact H) | exact H
            have Ny24004 := Aside0.mk hy24004
            clear hy24004
            by_cases c8 : 0 ≤ x6_1
            · rw [if_pos c8] at H
              have c8b0 : decide (0 ≤ x6_1) = true := decide_eq_true c8
              clear c8
              by_cases c9 : y24004.length + (rdOf ByteArray.empty l0 x6_1).size < 140737488355328
              · rw [if_pos c9] at H
                have LMc9 := Aside0.mk c9
                clear c9
                obtain ⟨y24008, hy24008⟩ : ∃ y_ : List Int, y_ = (y24004 ++ bytesOf (rdOf ByteArray.empty l0 x6_1)) := ⟨_, rfl⟩
                replace H : (if (y24008.length : Int) > 1048576 then (some (⟨#[]⟩ : ByteArray)) else (spec_Join.l0 k1 l0 a1 y24008 (wrap64 (x6_1 + 1)))) = some r := by first | (rw [hy24008]; with_reducible exact H) | (have H2_ := (Option.bind_some _ _).symm.trans H; rw [hy24008]; with_reducible exact H2_) | (have H2_ := (Option.bind_some _ _).symm.trans H; with_reducible exact H2_) | with_reducible exact H | (rw [hy24008]; exact H) | exact H
                have Ny24008 := Aside0.mk hy24008
                clear hy24008
                by_cases c10 : (y24008.length : Int) > 1048576
                · rw [if_pos c10] at H
                  have c10b0 : decide (1048576 < (y24008.length : Int)) = true := decide_eq_true c10
                  have c10b1 : decide (1048576 < y24008.length) = true := decide_eq_true (by omega)
                  clear c10
                  obtain rfl := Option.some.inj H
                  go_wp2_with (first | (at_builtin; refine print_append_str (w0 := w) w.heap.size rfl (.tmp 16) _ 64 9 5 rfl Try.underlying64 Try.underlying9 info5 u5 x5_1 a1 rfl rfl ?aO ?aB ?aS ?aL ?_; (case aB => exact (by repeat (first | (with_reducible first | exact HB.out | apply below_alloc | apply pw_below_drewN | apply below_drew1) | exact HB.out))); (case aO => exact (Kd.own_of_R (by (with_reducible repeat (first | apply Kd.R_alloc | apply Kd.R_drewN | apply Kd.R_drew)); exact HO_5.out))); (case aS => exact (below_size (by repeat (first | (with_reducible first | exact HB.out | apply below_alloc | apply pw_below_drewN | apply below_drew1) | exact HB.out)))); (case aL => have := LMc7.out; omega); intro v24005 w11 ho0 hb hg; have ho := Kd.R_of_own (h1 := fun _ => rfl) (ok := fun _ => True) ho0 (fun _ _ => trivial); clear ho0; have hat := True.intro; rw [← Ny24004.out] at ho; change Kd.R (Kd.int .u8) 5 w11 w.heap.size (fun _ => True) v24005 y24004 at ho; have n0_ := Aside0.mk (hb); have n1_ := Aside0.mk (ho); clear HB; clear HO_5; have HB := n0_; have HO24006 := n1_; clear n0_ n1_; clear ho hb hg hat; have p24007 : 0 ≤ (x6_1 : Int) := of_decide_eq_true (by first | (with_reducible assumption) | assumption); have q24007 : x6_1 < (l0.length : Int) := of_decide_eq_true (by first | (with_reducible assumption) | assumption); obtain ⟨ad24007, e24007, hx24007_0⟩ := Kd.at_string HR0.out x6_1 p24007 q24007; cases e24007; replace hx24007_0 := (HB.out.cell (World.block_lt_of_cell? w _ hx24007_0)).trans hx24007_0; replace p24007 := eq_true p24007; replace q24007 := eq_true q24007) | (at_builtin; refine print_append_str (w0 := w) w.heap.size rfl (.tmp 19) _ 64 9 5 rfl Try.underlying64 Try.underlying9 info5 v24005 y24004 (rdOf ByteArray.empty l0 x6_1) rfl rfl ?aO ?aB ?aS ?aL ?_; (case aB => exact (by repeat (first | (with_reducible first | exact HB.out | apply below_alloc | apply pw_below_drewN | apply below_drew1) | exact HB.out))); (case aO => exact (Kd.own_of_R (by (with_reducible repeat (first | apply Kd.R_alloc | apply Kd.R_drewN | apply Kd.R_drew)); exact HO24006.out))); (case aS => exact (below_size (by repeat (first | (with_reducible first | exact HB.out | apply below_alloc | apply pw_below_drewN | apply below_drew1) | exact HB.out)))); (case aL => have := LMc9.out; omega); intro v24009 w12 ho0 hb hg; have ho := Kd.R_of_own (h1 := fun _ => rfl) (ok := fun _ => True) ho0 (fun _ _ => trivial); clear ho0; have hat := True.intro; rw [← Ny24008.out] at ho; change Kd.R (Kd.int .u8) 5 w12 w.heap.size (fun _ => True) v24009 y24008 at ho; have n0_ := Aside0.mk (hb); have n1_ := Aside0.mk (ho); clear HB; clear HO24006; have HB := n0_; have HO24010 := n1_; clear n0_ n1_; clear ho hb hg hat; obtain ⟨Ao13, co13, eo13⟩ := Kd.R_slice HO24010.out; subst eo13))
                  go_ret
                  exact ⟨by first | rfl | (simp [errW_none, errW_some] <;> rfl) | (simp [*, errW_none, errW_some] <;> rfl), by repeat (first | (with_reducible first | exact HB.out | apply below_alloc | apply pw_below_drewN | apply below_drew1) | exact HB.out)⟩
                · rw [if_neg c10] at H
                  have c10b0 : decide (1048576 < (y24008.length : Int)) = false := decide_eq_false c10
                  have c10b1 : decide (1048576 < y24008.length) = false := decide_eq_false (by omega)
                  clear c10
                  have H' := Aside0.mk H
                  clear H
                  go_wp2_with (first | (at_builtin; refine print_append_str (w0 := w) w.heap.size rfl (.tmp 16) _ 64 9 5 rfl Try.underlying64 Try.underlying9 info5 u5 x5_1 a1 rfl rfl ?aO ?aB ?aS ?aL ?_; (case aB => exact (by repeat (first | (with_reducible first | exact HB.out | apply below_alloc | apply pw_below_drewN | apply below_drew1) | exact HB.out))); (case aO => exact (Kd.own_of_R (by (with_reducible repeat (first | apply Kd.R_alloc | apply Kd.R_drewN | apply Kd.R_drew)); exact HO_5.out))); (case aS => exact (below_size (by repeat (first | (with_reducible first | exact HB.out | apply below_alloc | apply pw_below_drewN | apply below_drew1) | exact HB.out)))); (case aL => have := LMc7.out; omega); intro v24005 w14 ho0 hb hg; have ho := Kd.R_of_own (h1 := fun _ => rfl) (ok := fun _ => True) ho0 (fun _ _ => trivial); clear ho0; have hat := True.intro; rw [← Ny24004.out] at ho; change Kd.R (Kd.int .u8) 5 w14 w.heap.size (fun _ => True) v24005 y24004 at ho; have n0_ := Aside0.mk (hb); have n1_ := Aside0.mk (ho); clear HB; clear HO_5; have HB := n0_; have HO24006 := n1_; clear n0_ n1_; clear ho hb hg hat; have p24007 : 0 ≤ (x6_1 : Int) := of_decide_eq_true (by first | (with_reducible assumption) | assumption); have q24007 : x6_1 < (l0.length : Int) := of_decide_eq_true (by first | (with_reducible assumption) | assumption); obtain ⟨ad24007, e24007, hx24007_0⟩ := Kd.at_string HR0.out x6_1 p24007 q24007; cases e24007; replace hx24007_0 := (HB.out.cell (World.block_lt_of_cell? w _ hx24007_0)).trans hx24007_0; replace p24007 := eq_true p24007; replace q24007 := eq_true q24007) | (at_builtin; refine print_append_str (w0 := w) w.heap.size rfl (.tmp 19) _ 64 9 5 rfl Try.underlying64 Try.underlying9 info5 v24005 y24004 (rdOf ByteArray.empty l0 x6_1) rfl rfl ?aO ?aB ?aS ?aL ?_; (case aB => exact (by repeat (first | (with_reducible first | exact HB.out | apply below_alloc | apply pw_below_drewN | apply below_drew1) | exact HB.out))); (case aO => exact (Kd.own_of_R (by (with_reducible repeat (first | apply Kd.R_alloc | apply Kd.R_drewN | apply Kd.R_drew)); exact HO24006.out))); (case aS => exact (below_size (by repeat (first | (with_reducible first | exact HB.out | apply below_alloc | apply pw_below_drewN | apply below_drew1) | exact HB.out)))); (case aL => have := LMc9.out; omega); intro v24009 w15 ho0 hb hg; have ho := Kd.R_of_own (h1 := fun _ => rfl) (ok := fun _ => True) ho0 (fun _ _ => trivial); clear ho0; have hat := True.intro; rw [← Ny24008.out] at ho; change Kd.R (Kd.int .u8) 5 w15 w.heap.size (fun _ => True) v24009 y24008 at ho; have n0_ := Aside0.mk (hb); have n1_ := Aside0.mk (ho); clear HB; clear HO24006; have HB := n0_; have HO24010 := n1_; clear n0_ n1_; clear ho hb hg hat; obtain ⟨Ao16, co16, eo16⟩ := Kd.R_slice HO24010.out; subst eo16))
                  go_roundg k1
                  case measure => have := HK1.out; omega
                  case rel => exact ⟨(y24008), (wrap64 (x6_1 + 1)), (by first | rfl | (simp; done) | (simp [*]; done)), H', ⟨by have := HK1.out; omega⟩, ⟨by (with_reducible repeat (first | apply Kd.R_alloc | apply Kd.R_drewN | apply Kd.R_drew)); exact HO24010.out⟩, ⟨by repeat (first | (with_reducible first | exact HB.out | apply below_alloc | apply pw_below_drewN | apply below_drew1) | exact HB.out)⟩⟩
              · rw [if_neg c9] at H
                exact absurd H (by simp)
            · rw [if_neg c8] at H
              exact absurd H (by simp)
          · rw [if_neg c7] at H
            exact absurd H (by simp)
        · rw [if_neg c6] at H
          have c6b0 : decide (0 < x6_1) = false := decide_eq_false c6
          clear c6
          by_cases c17 : 0 ≤ x6_1
          · rw [if_pos c17] at H
            have c17b0 : decide (0 ≤ x6_1) = true := decide_eq_true c17
            clear c17
            by_cases c18 : x5_1.length + (rdOf ByteArray.empty l0 x6_1).size < 140737488355328
            · rw [if_pos c18] at H
              have LMc18 := Aside0.mk c18
              clear c18
              obtain ⟨y24012, hy24012⟩ : ∃ y_ : List Int, y_ = (x5_1 ++ bytesOf (rdOf ByteArray.empty l0 x6_1)) := ⟨_, rfl⟩
              replace H : (if (y24012.length : Int) > 1048576 then (some (⟨#[]⟩ : ByteArray)) else (spec_Join.l0 k1 l0 a1 y24012 (wrap64 (x6_1 + 1)))) = some r := by first | (rw [hy24012]; with_reducible exact H) | (have H2_ := (Option.bind_some _ _).symm.trans H; rw [hy24012]; with_reducible exact H2_) | (have H2_ := (Option.bind_some _ _).symm.trans H; with_reducible exact H2_) | with_reducible exact H | (rw [hy24012]; exact H) | exact H
              have Ny24012 := Aside0.mk hy24012
              clear hy24012
              by_cases c19 : (y24012.length : Int) > 1048576
              · rw [if_pos c19] at H
                have c19b0 : decide (1048576 < (y24012.length : Int)) = true := decide_eq_true c19
                have c19b1 : decide (1048576 < y24012.length) = true := decide_eq_true (by omega)
                clear c19
                obtain rfl := Option.some.inj H
                have p24011 : 0 ≤ (x6_1 : Int) := of_decide_eq_true (by first | (with_reducible assumption) | assumption)
                have q24011 : x6_1 < (l0.length : Int) := of_decide_eq_true (by first | (with_reducible assumption) | assumption)
                obtain ⟨ad24011, e24011, hx24011_0⟩ := Kd.at_string HR0.out x6_1 p24011 q24011
                cases e24011
                replace hx24011_0 := (HB.out.cell (World.block_lt_of_cell? w _ hx24011_0)).trans hx24011_0
                replace p24011 := eq_true p24011
                replace q24011 := eq_true q24011
                go_wp2_with (first | (at_builtin; refine print_append_str (w0 := w) w.heap.size rfl (.tmp 19) _ 64 9 5 rfl Try.underlying64 Try.underlying9 info5 u5 x5_1 (rdOf ByteArray.empty l0 x6_1) rfl rfl ?aO ?aB ?aS ?aL ?_; (case aB => exact (by repeat (first | (with_reducible first | exact HB.out | apply below_alloc | apply pw_below_drewN | apply below_drew1) | exact HB.out))); (case aO => exact (Kd.own_of_R (by (with_reducible repeat (first | apply Kd.R_alloc | apply Kd.R_drewN | apply Kd.R_drew)); exact HO_5.out))); (case aS => exact (below_size (by repeat (first | (with_reducible first | exact HB.out | apply below_alloc | apply pw_below_drewN | apply below_drew1) | exact HB.out)))); (case aL => have := LMc18.out; omega); intro v24013 w20 ho0 hb hg; have ho := Kd.R_of_own (h1 := fun _ => rfl) (ok := fun _ => True) ho0 (fun _ _ => trivial); clear ho0; have hat := True.intro; rw [← Ny24012.out] at ho; change Kd.R (Kd.int .u8) 5 w20 w.heap.size (fun _ => True) v24013 y24012 at ho; have n0_ := Aside0.mk (hb); have n1_ := Aside0.mk (ho); clear HB; clear HO_5; have HB := n0_; have HO24014 := n1_; clear n0_ n1_; clear ho hb hg hat; obtain ⟨Ao21, co21, eo21⟩ := Kd.R_slice HO24014.out; subst eo21))
                go_ret
                exact ⟨by first | rfl | (simp [errW_none, errW_some] <;> rfl) | (simp [*, errW_none, errW_some] <;> rfl), by repeat (first | (with_reducible first | exact HB.out | apply below_alloc | apply pw_below_drewN | apply below_drew1) | exact HB.out)⟩
              · rw [if_neg c19] at H
                have c19b0 : decide (1048576 < (y24012.length : Int)) = false := decide_eq_false c19
                have c19b1 : decide (1048576 < y24012.length) = false := decide_eq_false (by omega)
                clear c19
                have H' := Aside0.mk H
                clear H
                have p24011 : 0 ≤ (x6_1 : Int) := of_decide_eq_true (by first | (with_reducible assumption) | assumption)
                have q24011 : x6_1 < (l0.length : Int) := of_decide_eq_true (by first | (with_reducible assumption) | assumption)
                obtain ⟨ad24011, e24011, hx24011_0⟩ := Kd.at_string HR0.out x6_1 p24011 q24011
                cases e24011
                replace hx24011_0 := (HB.out.cell (World.block_lt_of_cell? w _ hx24011_0)).trans hx24011_0
                replace p24011 := eq_true p24011
                replace q24011 := eq_true q24011
                go_wp2_with (first | (at_builtin; refine print_append_str (w0 := w) w.heap.size rfl (.tmp 19) _ 64 9 5 rfl Try.underlying64 Try.underlying9 info5 u5 x5_1 (rdOf ByteArray.empty l0 x6_1) rfl rfl ?aO ?aB ?aS ?aL ?_; (case aB => exact (by repeat (first | (with_reducible first | exact HB.out | apply below_alloc | apply pw_below_drewN | apply below_drew1) | exact HB.out))); (case aO => exact (Kd.own_of_R (by (with_reducible repeat (first | apply Kd.R_alloc | apply Kd.R_drewN | apply Kd.R_drew)); exact HO_5.out))); (case aS => exact (below_size (by repeat (first | (with_reducible first | exact HB.out | apply below_alloc | apply pw_below_drewN | apply below_drew1) | exact HB.out)))); (case aL => have := LMc18.out; omega); intro v24013 w22 ho0 hb hg; have ho := Kd.R_of_own (h1 := fun _ => rfl) (ok := fun _ => True) ho0 (fun _ _ => trivial); clear ho0; have hat := True.intro; rw [← Ny24012.out] at ho; change Kd.R (Kd.int .u8) 5 w22 w.heap.size (fun _ => True) v24013 y24012 at ho; have n0_ := Aside0.mk (hb); have n1_ := Aside0.mk (ho); clear HB; clear HO_5; have HB := n0_; have HO24014 := n1_; clear n0_ n1_; clear ho hb hg hat; obtain ⟨Ao23, co23, eo23⟩ := Kd.R_slice HO24014.out; subst eo23))
                go_roundg k1
                case measure => have := HK1.out; omega
                case rel => exact ⟨(y24012), (wrap64 (x6_1 + 1)), (by first | rfl | (simp; done) | (simp [*]; done)), H', ⟨by have := HK1.out; omega⟩, ⟨by (with_reducible repeat (first | apply Kd.R_alloc | apply Kd.R_drewN | apply Kd.R_drew)); exact HO24014.out⟩, ⟨by repeat (first | (with_reducible first | exact HB.out | apply below_alloc | apply pw_below_drewN | apply below_drew1) | exact HB.out)⟩⟩
            · rw [if_neg c18] at H
              exact absurd H (by simp)
          · rw [if_neg c17] at H
            exact absurd H (by simp)
      · rw [if_neg c5] at H
        have c5b0 : decide (x6_1 < (l0.length : Int)) = false := decide_eq_false c5
        clear c5
        obtain rfl := Option.some.inj H
        have hcv24 := own_string (P := Try.prog) Try.underlying64 Try.underlying5 Try.underlying9 (Kd.own_of_R HO_5.out)
        go_wp2
        go_ret
        exact ⟨by first | rfl | (simp [errW_none, errW_some] <;> rfl) | (simp [*, errW_none, errW_some] <;> rfl), by repeat (first | (with_reducible first | exact HB.out | apply below_alloc | apply pw_below_drewN | apply below_drew1) | exact HB.out)⟩


end Go.Proofs.Ytgllnohlocfeoaa.A


namespace Go.Proofs.Ytgllnohlocfeoaa.A
open Go.RowKit Go.Proofs.Ytgllnohlocfeoaa.Ext Go.Proofs.YtgllnohlocfeoaaW.PrintWords Go.Proofs.YtgllnohlocfeoaaW.PrintLast Go.Proofs.YtgllnohlocfeoaaW.PrintMore
attribute [local go_sem] max2_int min2_int max_two min_two max_three min_three max_four min_four   -- for this text's walks alone
set_option linter.unusedVariables false
set_option linter.unusedSimpArgs false

/-! ### spec_FormatValues: function 7 -/
def spec_FormatValues.l0 : Nat → List ByteArray → ByteArray → Int → ByteArray → ByteArray → ByteArray → Option (ByteArray)
  | 0, _, _, _, _, _, _ => none
  | k + 1, x5, x6, x7, x7002000, x7002001, x7002002 => if x7 < (x6.size : Int) then (if 0 ≤ x7 then (if x7 ≤ (wrap64 (x7 + 1)) then (if (wrap64 (x7 + 1)) ≤ (x6.size : Int) then (if (x6.extract (x7 : Int).toNat ((wrap64 (x7 + 1)) : Int).toNat).size + 1 ≤ 9223372036854775807 then ((spec_ValueOf.f x7002000 x7002001 x7002002 (bt x6 x7)).bind fun t7006 => (if ((x6.extract (x7 : Int).toNat ((wrap64 (x7 + 1)) : Int).toNat) ++ (⟨#[61]⟩ : ByteArray)).size + t7006.size ≤ 9223372036854775807 then (if x5.length < 8796093022208 then (spec_FormatValues.l0 k (x5 ++ [((x6.extract (x7 : Int).toNat ((wrap64 (x7 + 1)) : Int).toNat) ++ (⟨#[61]⟩ : ByteArray)) ++ t7006]) x6 (wrap64 (x7 + 1)) x7002000 x7002001 x7002002) else (none)) else (none))) else (none)) else (none)) else (none)) else (none)) else ((spec_Join.f k x5 (⟨#[32]⟩ : ByteArray)).bind fun t7010 => (some t7010))
def spec_FormatValues.f (k : Nat) (a0_0 : ByteArray) (a0_1 : ByteArray) (a0_2 : ByteArray) (a1 : ByteArray) : Option (ByteArray) := (spec_VarsOf.f k a1).bind fun t7005 => (spec_FormatValues.l0 k (([] : List ByteArray)) t7005 0 a0_0 a0_1 a0_2)
theorem spec_FormatValues.mono_l : ∀ k, (∀ y0 y1 y2 y3 y4 y5, LeO (spec_FormatValues.l0 k y0 y1 y2 y3 y4 y5) (spec_FormatValues.l0 (k + 1) y0 y1 y2 y3 y4 y5))
  | 0 => fun _ _ _ _ _ _ r h => by simp [spec_FormatValues.l0] at h
  | k + 1 => by
    have ih0 := spec_FormatValues.mono_l k
    · intro y0 y1 y2 y3 y4 y5
      unfold spec_FormatValues.l0
      repeat' first
      | (with_reducible exact ih0 _ _ _ _ _ _)
      | (with_reducible exact spec_Join.mono _ _ _)
      | (with_reducible exact spec_VarsOf.mono _ _)
      | (with_reducible exact LeO.refl _)
      | (with_reducible exact LeO.none _)
      | (with_reducible refine LeO.ite ?_ ?_)
      | (with_reducible refine LeO.bind ?_ (fun _ => ?_))
      | exact ih0 _ _ _ _ _ _
      | exact spec_Join.mono _ _ _
      | exact spec_VarsOf.mono _ _
      | exact LeO.none _
      | refine LeO.ite ?_ ?_
      | refine LeO.bind ?_ (fun _ => ?_)
theorem spec_FormatValues.mono : ∀ a0 a1 a2 a3 k, LeO (spec_FormatValues.f k a0 a1 a2 a3) (spec_FormatValues.f (k + 1) a0 a1 a2 a3) := by
  intro a0 a1 a2 a3 k
  have ih0 := spec_FormatValues.mono_l k
  unfold spec_FormatValues.f
  repeat' first
      | (with_reducible exact ih0 _ _ _ _ _ _)
      | (with_reducible exact spec_Join.mono _ _ _)
      | (with_reducible exact spec_VarsOf.mono _ _)
      | (with_reducible exact LeO.refl _)
      | (with_reducible exact LeO.none _)
      | (with_reducible refine LeO.ite ?_ ?_)
      | (with_reducible refine LeO.bind ?_ (fun _ => ?_))
      | exact ih0 _ _ _ _ _ _
      | exact spec_Join.mono _ _ _
      | exact spec_VarsOf.mono _ _
      | exact LeO.none _
      | refine LeO.ite ?_ ?_
      | refine LeO.bind ?_ (fun _ => ?_)
def spec_FormatValues.T6 : Bool × List (List Nat × List Nat) := (true, [([], []), ([], []), ([], []), ([], []), ([3], [3]), ([1, 2, 4], [1, 2, 4]), ([5], [5]), ([], []), ([], []), ([], []), ([8, 9], [8, 9]), ([7, 10], [7, 10]), ([6, 11], [6, 11]), ([12], [12]), ([0, 13, 11], [0, 13]), ([14, 14, 0, 1, 2, 3, 4, 5, 6, 7, 8, 9, 10, 11, 12, 13, 14], [0, 14])])
def spec_FormatValues.B6 : List Nat := [0, 0, 0, 0, 8, 30, 62, 0, 0, 0, 768, 1920, 4094, 8190, 16383, 32767]
theorem spec_FormatValues.tab6 : rtab .any (opsOf Try.f7 6) = spec_FormatValues.T6 := by kernel_rfl
theorem spec_FormatValues.bits6 : waitsOk spec_FormatValues.T6.2 spec_FormatValues.B6 = true := by kernel_rfl
set_option maxHeartbeats 8000000 in
set_option maxRecDepth 100000 in
theorem spec_FormatValues.calls (k : Nat) (a0_0 : ByteArray) (a0_1 : ByteArray) (a0_2 : ByteArray) (a1 : ByteArray) (r : ByteArray) (w : World) (h : spec_FormatValues.f k a0_0 a0_1 a0_2 a1 = some r) :
    Calls Try.prog 7 #[.agg #[.string a0_0, .string a0_1, .string a0_2], .string a1] w fun e w' => e = .returned (.string r) ∧ Below w.heap.size w w' := by
  have hu26 := Try.underlying26
  have HB := Aside0.mk (Below.refl w.heap.size w)
  have H : ((spec_VarsOf.f k a1).bind fun t7005 => (spec_FormatValues.l0 k (([] : List ByteArray)) t7005 0 a0_0 a0_1 a0_2)) = some r := h
  clear h
  obtain ⟨y7002, hy7002⟩ : ∃ y_ : List ByteArray, y_ = (([] : List ByteArray)) := ⟨_, rfl⟩
  replace H : ((spec_VarsOf.f k a1).bind fun t7005 => (spec_FormatValues.l0 k y7002 t7005 0 a0_0 a0_1 a0_2)) = some r := by first | (rw [hy7002]; with_reducible exact H) | (have H2_ := (Option.bind_some _ _).symm.trans H; rw [hy7002]; with_reducible exact H2_) | (have H2_ := (Option.bind_some _ _).symm.trans H; with_reducible exact H2_) | with_reducible exact H | (rw [hy7002]; exact H) | exact H
  have Ny7002 := Aside0.mk hy7002
  clear hy7002
  replace H := Option.bind_eq_some_iff.mp H
  obtain ⟨t7005, A30, H⟩ := H
  replace H : (spec_FormatValues.l0 k y7002 t7005 0 a0_0 a0_1 a0_2) = some r := H
  have A3 := Aside0.mk A30
  clear A30
  have H' := Aside0.mk H
  clear H
  go_enter Try.func7, Try.ntmps7
  go_wp2_with (first | ((with_reducible refine gate_dst (N := 2) rfl ?_); refine box_event ?hg (N := 2) ?hd (cs := #[.string a0_0, .string a0_1, .string a0_2]) (t := 26) ?hr ?_; (case hd => rfl); (case hg => rfl); (case hr => first | (go_simp; done) | (go_simp; rfl)); intro gb7001 hg w4 hbox hb; have n0_ := Aside0.mk (below_step (by repeat (first | (with_reducible first | exact HB.out | apply below_alloc | apply pw_below_drewN | apply below_drew1) | exact HB.out)) hb); have n1_ := Aside0.mk (hbox); have n2_ := Aside0.mk ((by rw [hg]; exact (below_size (by repeat (first | (with_reducible first | exact HB.out | apply below_alloc | apply pw_below_drewN | apply below_drew1) | exact HB.out))) : w.heap.size ≤ gb7001)); have n3_ := Aside0.mk ((by rw [hg]; exact (below_size (by repeat (first | (with_reducible first | exact HB.out | apply below_alloc | apply pw_below_drewN | apply below_drew1) | exact HB.out))) : w.heap.size ≤ gb7001)); clear HB; have HB := n0_; have BK7001 := n1_; have GW7001 := n2_; have GE7001 := n3_; clear n0_ n1_ n2_ n3_; clear hb hbox hg) | ((with_reducible refine gate_dst (N := 8) rfl ?_); refine Kd.R_lit Kd.string _ 9 ?hg (N := 8) ?hd (xs := ([] : List ByteArray)) (inner := []) (ok := fun _ => True) (okp := fun _ => True) ?hr ?hp (fun _ hk => hk) trivial (Below.refl _ _) (Nat.le_refl _) (by simp) ?_; (case hd => rfl); (case hg => rfl); (case hr => first | (go_simp; done) | (go_simp; rfl)); (case hp => exact (Reps.none _ _)); intro v7003 w5 ho6 hb hg_ hnew_; clear hg_ hnew_; (first | rw [← Ny7002.out] at ho6 | (simp only [Int.reduceToNat] at ho6; rw [← Ny7002.out] at ho6)); have n0_ := Aside0.mk (Kd.R_lower ho6 (below_size (by repeat (first | (with_reducible first | exact HB.out | apply below_alloc | apply pw_below_drewN | apply below_drew1 | refine below_set ?_ GE7001.out) | exact HB.out)))); have n1_ := Aside0.mk (blk_below (g := gb7001) (o := .cells #[.string a0_0, .string a0_1, .string a0_2] 26 (0, 0)) (by (with_reducible repeat (first | refine blk_drewN ?_ _ | refine blk_drew ?_ | refine blk_alloc ?_ _)); exact BK7001.out) hb); have n2_ := Aside0.mk (below_step (by repeat (first | (with_reducible first | exact HB.out | apply below_alloc | apply pw_below_drewN | apply below_drew1 | refine below_set ?_ GE7001.out) | exact HB.out)) hb); clear BK7001; clear HB; have HO7004 := n0_; have BK7001 := n1_; have HB := n2_; clear n0_ n1_ n2_; clear hb ho6) | ((with_reducible refine gate_callee (f := 22) rfl ?_); refine goesL_ (some 10) rfl rfl Try.func22 (by kernel_rfl) rfl #[.string a1] rfl (by (try simp only [List.map_toArray, List.map_cons, List.map_nil]); first | done | rfl | (simp only [List.length_drop, List.length_take]; rfl)) ?_; (with_reducible refine (spec_VarsOf.calls k a1 t7005 _ A3.out).mono ?_); rintro e w' ⟨rfl, ⟨nd, rfl⟩⟩; refine ⟨_, rfl, ?_⟩))
  first | go_loopg [5, 7] k (fun kq v5 v7 w' => ∃ (x5_1 : List ByteArray) (x7_1 : Int), v7 = .int .i64 x7_1 ∧ Aside0 (spec_FormatValues.l0 kq x5_1 t7005 x7_1 a0_0 a0_1 a0_2 = some r) ∧ Aside0 (kq ≤ k) ∧ Aside0 (Kd.R Kd.string 9 w' w.heap.size (fun _ => True) v5 x5_1) ∧ Aside0 (w'.heap[gb7001]? = some (.cells #[.string a0_0, .string a0_1, .string a0_2] 26 (0, 0))) ∧ Aside0 (Below w.heap.size w w')) | (simp only [Act.put, List.setIfInBounds_toArray, List.set_cons_succ, List.set_cons_zero]; go_loopg [5, 7] k (fun kq v5 v7 w' => ∃ (x5_1 : List ByteArray) (x7_1 : Int), v7 = .int .i64 x7_1 ∧ Aside0 (spec_FormatValues.l0 kq x5_1 t7005 x7_1 a0_0 a0_1 a0_2 = some r) ∧ Aside0 (kq ≤ k) ∧ Aside0 (Kd.R Kd.string 9 w' w.heap.size (fun _ => True) v5 x5_1) ∧ Aside0 (w'.heap[gb7001]? = some (.cells #[.string a0_0, .string a0_1, .string a0_2] 26 (0, 0))) ∧ Aside0 (Below w.heap.size w w')))
  case atStart => exact ⟨(y7002), (0), (by first | rfl | (simp; done) | (simp [*]; done)), H', ⟨Nat.le_refl _⟩, ⟨by (with_reducible repeat (first | apply Kd.R_alloc | apply Kd.R_drewN | apply Kd.R_drew)); exact HO7004.out⟩, ⟨by (with_reducible repeat (first | refine blk_drewN ?_ _ | refine blk_drew ?_ | refine blk_alloc ?_ _)); exact BK7001.out⟩, ⟨by repeat (first | (with_reducible first | exact HB.out | apply below_alloc | apply pw_below_drewN | apply below_drew1 | refine below_set ?_ GE7001.out) | exact HB.out)⟩⟩
  case round =>
    clear H'
    try clear c2
    try clear p2
    obtain ⟨x5_1, x7_1, rfl, HA, HK1, HO_5, BK7001, HB⟩ := hrel
    cases gk with
    | zero => exact absurd HA.out (by simp [spec_FormatValues.l0])
    | succ k1 =>
      have H := HA.out
      clear HA
      simp only [spec_FormatValues.l0] at H
      by_cases c7 : x7_1 < (t7005.size : Int)
      · rw [if_pos c7] at H
        have c7b0 : decide (x7_1 < (t7005.size : Int)) = true := decide_eq_true c7
        clear c7
        by_cases c8 : 0 ≤ x7_1
        · rw [if_pos c8] at H
          have c8b0 := eq_true c8
          have c8b1 : decide (0 ≤ x7_1) = true := decide_eq_true c8
          clear c8
          by_cases c9 : x7_1 ≤ (wrap64 (x7_1 + 1))
          · rw [if_pos c9] at H
            have c9b0 := eq_true c9
            have c9b1 : decide (x7_1 ≤ (wrap64 (x7_1 + 1))) = true := decide_eq_true c9
            by_cases c10 : (wrap64 (x7_1 + 1)) ≤ (t7005.size : Int)
            · rw [if_pos c10] at H
              have c10b0 := eq_true c10
              have c10b1 : decide ((wrap64 (x7_1 + 1)) ≤ (t7005.size : Int)) = true := decide_eq_true c10
              by_cases c11 : (t7005.extract (x7_1 : Int).toNat ((wrap64 (x7_1 + 1)) : Int).toNat).size + 1 ≤ 9223372036854775807
              · rw [if_pos c11] at H
                have c11z := c11
                try simp at c11z
                try replace c11z := eq_false (Nat.not_lt.2 c11z)
                have c11b0 := eq_true c11
                have c11b1 : decide ((t7005.extract (x7_1 : Int).toNat ((wrap64 (x7_1 + 1)) : Int).toNat).size + 1 ≤ 9223372036854775807) = true := decide_eq_true c11
                try have c11b2 : (9223372036854775807 < (t7005.extract (x7_1 : Int).toNat ((wrap64 (x7_1 + 1)) : Int).toNat).size + 1) = False := eq_false (Nat.not_lt.2 c11)
                replace H := Option.bind_eq_some_iff.mp H
                obtain ⟨t7006, A130, H⟩ := H
                replace H : (if ((t7005.extract (x7_1 : Int).toNat ((wrap64 (x7_1 + 1)) : Int).toNat) ++ (⟨#[61]⟩ : ByteArray)).size + t7006.size ≤ 9223372036854775807 then (if x5_1.length < 8796093022208 then (spec_FormatValues.l0 k1 (x5_1 ++ [((t7005.extract (x7_1 : Int).toNat ((wrap64 (x7_1 + 1)) : Int).toNat) ++ (⟨#[61]⟩ : ByteArray)) ++ t7006]) t7005 (wrap64 (x7_1 + 1)) a0_0 a0_1 a0_2) else (none)) else (none)) = some r := H
                have A13 := Aside0.mk A130
                clear A130
                by_cases c14 : ((t7005.extract (x7_1 : Int).toNat ((wrap64 (x7_1 + 1)) : Int).toNat) ++ (⟨#[61]⟩ : ByteArray)).size + t7006.size ≤ 9223372036854775807
                · rw [if_pos c14] at H
                  have c14z := c14
                  try simp at c14z
                  try replace c14z := eq_false (Nat.not_lt.2 c14z)
                  have c14b0 := eq_true c14
                  have c14b1 : decide (((t7005.extract (x7_1 : Int).toNat ((wrap64 (x7_1 + 1)) : Int).toNat) ++ (⟨#[61]⟩ : ByteArray)).size + t7006.size ≤ 9223372036854775807) = true := decide_eq_true c14
                  try have c14b2 : (9223372036854775807 < ((t7005.extract (x7_1 : Int).toNat ((wrap64 (x7_1 + 1)) : Int).toNat) ++ (⟨#[61]⟩ : ByteArray)).size + t7006.size) = False := eq_false (Nat.not_lt.2 c14)
                  by_cases c15 : x5_1.length < 8796093022208
                  · rw [if_pos c15] at H
                    have LMc15 := Aside0.mk c15
                    clear c15
                    obtain ⟨y7007, hy7007⟩ : ∃ y_ : List ByteArray, y_ = (x5_1 ++ [((t7005.extract (x7_1 : Int).toNat ((wrap64 (x7_1 + 1)) : Int).toNat) ++ (⟨#[61]⟩ : ByteArray)) ++ t7006]) := ⟨_, rfl⟩
                    replace H : (spec_FormatValues.l0 k1 y7007 t7005 (wrap64 (x7_1 + 1)) a0_0 a0_1 a0_2) = some r := by first | (rw [hy7007]; with_reducible exact H) | (have H2_ := (Option.bind_some _ _).symm.trans H; rw [hy7007]; with_reducible exact H2_) | (have H2_ := (Option.bind_some _ _).symm.trans H; with_reducible exact H2_) | with_reducible exact H | (rw [hy7007]; exact H) | exact H
                    have Ny7007 := Aside0.mk hy7007
                    clear hy7007
                    have H' := Aside0.mk H
                    clear H
                    try go_wp2
                    have n0_ := Aside0.mk (Kd.R_drew HO_5.out)
                    have n1_ := Aside0.mk (blk_drew BK7001.out)
                    have n2_ := Aside0.mk (below_drew1 HB.out)
                    clear HO_5
                    clear BK7001
                    clear HB
                    have HO_5 := n0_
                    have BK7001 := n1_
                    have HB := n2_
                    clear n0_ n1_ n2_
                    have p12 : 0 ≤ (x7_1 : Int) := of_decide_eq_true (by first | (with_reducible assumption) | assumption)
                    have q12 : x7_1 < (t7005.size : Int) := of_decide_eq_true (by first | (with_reducible assumption) | assumption)
                    have hx12 := bt_at t7005 x7_1
                    replace p12 := eq_true p12
                    replace q12 := eq_true q12
                    refine start_ (n := 16) (S := fun w' => w'.cell? ⟨gb7001, 0, none⟩ = some (.string a0_0) ∧ w'.cell? ⟨gb7001, 1, none⟩ = some (.string a0_1) ∧ w'.cell? ⟨gb7001, 2, none⟩ = some (.string a0_2)) (ds := []) #[false, false, false, false, false, false, false, false, false, false, false, false, false, false, false, false] (by kernel_rfl) rfl rfl ⟨(blk_cell BK7001.out 0).trans rfl, (blk_cell BK7001.out 1).trans rfl, (blk_cell BK7001.out 2).trans rfl⟩ (fun hHeld => ?_); refine with_tabW spec_FormatValues.tab6 spec_FormatValues.bits6 (fun HT_ HW_ => ?_)
                    generalize wr.drew = w16 at HO_5 BK7001 HB hHeld ⊢
                    refine pure_ (i := 0) (N := some 17) (v := ?_) (a' := ?_) #[true, false, false, false, false, false, false, false, false, false, false, false, false, false, false, false] rfl rfl (any_of HT_.out (by kernel_rfl)) (fun _ _ _ h => h) (Or.inl ⟨by rfl, ?_⟩) ?_ ?_
                    rotate_left
                    · intro w'
                      go_simp
                      first | with_reducible rfl | (rw [if_neg (by omega)]; done) | (rw [if_neg (by (try simp only [decide_eq_true_eq, decide_eq_false_iff_not, eq_iff_iff, iff_true, iff_false] at *); (try simp only [ByteArray.size_extract, ByteArray.size_append, show (⟨#[97, 98, 99]⟩ : ByteArray).size = 3 from rfl, show (⟨#[88, 89, 90]⟩ : ByteArray).size = 3 from rfl, show (⟨#[61]⟩ : ByteArray).size = 1 from rfl] at *); omega)]; done)
                    rotate_left
                    · simp only [Act.put, List.setIfInBounds_toArray, List.set_cons_zero, List.set_cons_succ, i64_w, i32_w]
                      rfl
                    refine pure_ (i := 1) (N := some 18) (v := ?_) (a' := ?_) #[true, true, false, false, false, false, false, false, false, false, false, false, false, false, false, false] rfl rfl (any_of HT_.out (by kernel_rfl)) (fun _ _ _ h => h) (Or.inl ⟨by rfl, ?_⟩) ?_ ?_
                    rotate_left
                    · intro w'
                      go_simp
                      first | with_reducible rfl | (rw [if_neg (by omega)]; done) | (rw [if_neg (by (try simp only [decide_eq_true_eq, decide_eq_false_iff_not, eq_iff_iff, iff_true, iff_false] at *); (try simp only [ByteArray.size_extract, ByteArray.size_append, show (⟨#[97, 98, 99]⟩ : ByteArray).size = 3 from rfl, show (⟨#[88, 89, 90]⟩ : ByteArray).size = 3 from rfl, show (⟨#[61]⟩ : ByteArray).size = 1 from rfl] at *); omega)]; done)
                    rotate_left
                    · simp only [Act.put, List.setIfInBounds_toArray, List.set_cons_zero, List.set_cons_succ, i64_w, i32_w]
                      rfl
                    refine pure_ (i := 2) (N := some 19) (v := ?_) (a' := ?_) #[true, true, true, false, false, false, false, false, false, false, false, false, false, false, false, false] rfl rfl (any_of HT_.out (by kernel_rfl)) (fun _ _ _ h => h) (Or.inl ⟨by rfl, ?_⟩) ?_ ?_
                    rotate_left
                    · intro w'
                      go_simp
                      first | with_reducible rfl | (rw [if_neg (by omega)]; done) | (rw [if_neg (by (try simp only [decide_eq_true_eq, decide_eq_false_iff_not, eq_iff_iff, iff_true, iff_false] at *); (try simp only [ByteArray.size_extract, ByteArray.size_append, show (⟨#[97, 98, 99]⟩ : ByteArray).size = 3 from rfl, show (⟨#[88, 89, 90]⟩ : ByteArray).size = 3 from rfl, show (⟨#[61]⟩ : ByteArray).size = 1 from rfl] at *); omega)]; done)
                    rotate_left
                    · simp only [Act.put, List.setIfInBounds_toArray, List.set_cons_zero, List.set_cons_succ, i64_w, i32_w]
                      rfl
                    refine pure_ (i := 3) (N := some 20) (v := ?_) (a' := ?_) #[true, true, true, true, false, false, false, false, false, false, false, false, false, false, false, false] rfl rfl (any_of HT_.out (by kernel_rfl)) (fun _ _ _ h => h) (Or.inl ⟨by rfl, ?_⟩) ?_ ?_
                    rotate_left
                    · intro w'
                      go_simp
                      first | with_reducible rfl | (rw [if_neg (by omega)]; done) | (rw [if_neg (by (try simp only [decide_eq_true_eq, decide_eq_false_iff_not, eq_iff_iff, iff_true, iff_false] at *); (try simp only [ByteArray.size_extract, ByteArray.size_append, show (⟨#[97, 98, 99]⟩ : ByteArray).size = 3 from rfl, show (⟨#[88, 89, 90]⟩ : ByteArray).size = 3 from rfl, show (⟨#[61]⟩ : ByteArray).size = 1 from rfl] at *); omega)]; done)
                    rotate_left
                    · simp only [Act.put, List.setIfInBounds_toArray, List.set_cons_zero, List.set_cons_succ, i64_w, i32_w]
                      rfl
                    refine pure_ (i := 4) (N := some 21) (v := ?_) (a' := ?_) #[true, true, true, true, true, false, false, false, false, false, false, false, false, false, false, false] rfl rfl (any_of HT_.out (by kernel_rfl)) (fun _ _ _ h => h) (Or.inl ⟨by rfl, ?_⟩) ?_ ?_
                    rotate_left
                    · intro w'
                      go_simp
                      first | with_reducible rfl | (rw [if_neg (by omega)]; done) | (rw [if_neg (by (try simp only [decide_eq_true_eq, decide_eq_false_iff_not, eq_iff_iff, iff_true, iff_false] at *); (try simp only [ByteArray.size_extract, ByteArray.size_append, show (⟨#[97, 98, 99]⟩ : ByteArray).size = 3 from rfl, show (⟨#[88, 89, 90]⟩ : ByteArray).size = 3 from rfl, show (⟨#[61]⟩ : ByteArray).size = 1 from rfl] at *); omega)]; done)
                    rotate_left
                    · simp only [Act.put, List.setIfInBounds_toArray, List.set_cons_zero, List.set_cons_succ, i64_w, i32_w]
                      rfl
                    refine pure_ (i := 5) (N := some 22) (v := ?_) (a' := ?_) #[true, true, true, true, true, true, false, false, false, false, false, false, false, false, false, false] rfl rfl (any_of HT_.out (by kernel_rfl)) (fun _ _ _ h => h) (Or.inl ⟨by rfl, ?_⟩) ?_ ?_
                    rotate_left
                    · intro w'
                      go_simp
                      first | with_reducible rfl | (rw [if_neg (by omega)]; done) | (rw [if_neg (by (try simp only [decide_eq_true_eq, decide_eq_false_iff_not, eq_iff_iff, iff_true, iff_false] at *); (try simp only [ByteArray.size_extract, ByteArray.size_append, show (⟨#[97, 98, 99]⟩ : ByteArray).size = 3 from rfl, show (⟨#[88, 89, 90]⟩ : ByteArray).size = 3 from rfl, show (⟨#[61]⟩ : ByteArray).size = 1 from rfl] at *); omega)]; done)
                    rotate_left
                    · simp only [Act.put, List.setIfInBounds_toArray, List.set_cons_zero, List.set_cons_succ, i64_w, i32_w]
                      rfl
                    refine pure_ (i := 6) (N := some 23) (v := ?_) (a' := ?_) #[true, true, true, true, true, true, true, false, false, false, false, false, false, false, false, false] rfl rfl (any_of HT_.out (by kernel_rfl)) (fun _ _ _ h => h) (Or.inl ⟨by rfl, ?_⟩) ?_ ?_
                    rotate_left
                    · intro w'
                      go_simp
                      first | with_reducible rfl | (rw [if_neg (by omega)]; done) | (rw [if_neg (by (try simp only [decide_eq_true_eq, decide_eq_false_iff_not, eq_iff_iff, iff_true, iff_false] at *); (try simp only [ByteArray.size_extract, ByteArray.size_append, show (⟨#[97, 98, 99]⟩ : ByteArray).size = 3 from rfl, show (⟨#[88, 89, 90]⟩ : ByteArray).size = 3 from rfl, show (⟨#[61]⟩ : ByteArray).size = 1 from rfl] at *); omega)]; done)
                    rotate_left
                    · simp only [Act.put, List.setIfInBounds_toArray, List.set_cons_zero, List.set_cons_succ, i64_w, i32_w]
                      rfl
                    refine pure_ (i := 8) (N := some 25) (v := ?_) (a' := ?_) #[true, true, true, true, true, true, true, false, true, false, false, false, false, false, false, false] rfl rfl (any_of HT_.out (by kernel_rfl)) (fun _ _ _ h => h) (Or.inl ⟨by rfl, ?_⟩) ?_ ?_
                    rotate_left
                    · intro w'
                      go_simp
                      first | with_reducible rfl | (rw [if_neg (by omega)]; done) | (rw [if_neg (by (try simp only [decide_eq_true_eq, decide_eq_false_iff_not, eq_iff_iff, iff_true, iff_false] at *); (try simp only [ByteArray.size_extract, ByteArray.size_append, show (⟨#[97, 98, 99]⟩ : ByteArray).size = 3 from rfl, show (⟨#[88, 89, 90]⟩ : ByteArray).size = 3 from rfl, show (⟨#[61]⟩ : ByteArray).size = 1 from rfl] at *); omega)]; done)
                    rotate_left
                    · simp only [Act.put, List.setIfInBounds_toArray, List.set_cons_zero, List.set_cons_succ, i64_w, i32_w]
                      rfl
                    refine pure_ (i := 9) (N := some 26) (v := ?_) (a' := ?_) #[true, true, true, true, true, true, true, false, true, true, false, false, false, false, false, false] rfl rfl (any_of HT_.out (by kernel_rfl)) (fun _ _ _ h => h) (Or.inl ⟨by rfl, ?_⟩) ?_ ?_
                    rotate_left
                    · intro w'
                      go_simp
                      first | with_reducible rfl | (rw [if_neg (by omega)]; done) | (rw [if_neg (by (try simp only [decide_eq_true_eq, decide_eq_false_iff_not, eq_iff_iff, iff_true, iff_false] at *); (try simp only [ByteArray.size_extract, ByteArray.size_append, show (⟨#[97, 98, 99]⟩ : ByteArray).size = 3 from rfl, show (⟨#[88, 89, 90]⟩ : ByteArray).size = 3 from rfl, show (⟨#[61]⟩ : ByteArray).size = 1 from rfl] at *); omega)]; done)
                    rotate_left
                    · simp only [Act.put, List.setIfInBounds_toArray, List.set_cons_zero, List.set_cons_succ, i64_w, i32_w]
                      rfl
                    refine take_ (i := 7) (N := some 24) (v := ?_) (a' := ?_) #[true, true, true, true, true, true, true, true, true, true, false, false, false, false, false, false] rfl rfl (take_ofW HT_.out HW_.out (by kernel_rfl)) (fun _ _ _ h => h) (Or.inl ⟨by rfl, ?_⟩) hHeld ?_ ?_
                    rotate_left
                    · rintro w' ⟨s0, s1, s2⟩
                      go_simp
                      first | with_reducible rfl | (rw [if_neg (by omega)]; done) | (rw [if_neg (by (try simp only [decide_eq_true_eq, decide_eq_false_iff_not, eq_iff_iff, iff_true, iff_false] at *); (try simp only [ByteArray.size_extract, ByteArray.size_append, show (⟨#[97, 98, 99]⟩ : ByteArray).size = 3 from rfl, show (⟨#[88, 89, 90]⟩ : ByteArray).size = 3 from rfl, show (⟨#[61]⟩ : ByteArray).size = 1 from rfl] at *); omega)]; done)
                    rotate_left
                    · simp only [Act.put, List.setIfInBounds_toArray, List.set_cons_zero, List.set_cons_succ, i64_w, i32_w]
                      rfl
                    refine take_ (i := 10) (N := some 27) (v := ?_) (a' := ?_) #[true, true, true, true, true, true, true, true, true, true, true, false, false, false, false, false] rfl rfl (take_ofW HT_.out HW_.out (by kernel_rfl)) (fun _ _ _ h => h) (Or.inl ⟨by rfl, ?_⟩) hHeld ?_ ?_
                    rotate_left
                    · rintro w' ⟨s0, s1, s2⟩
                      go_simp
                      first | with_reducible rfl | (rw [if_neg (by omega)]; done) | (rw [if_neg (by (try simp only [decide_eq_true_eq, decide_eq_false_iff_not, eq_iff_iff, iff_true, iff_false] at *); (try simp only [ByteArray.size_extract, ByteArray.size_append, show (⟨#[97, 98, 99]⟩ : ByteArray).size = 3 from rfl, show (⟨#[88, 89, 90]⟩ : ByteArray).size = 3 from rfl, show (⟨#[61]⟩ : ByteArray).size = 1 from rfl] at *); omega)]; done)
                    rotate_left
                    · simp only [Act.put, List.setIfInBounds_toArray, List.set_cons_zero, List.set_cons_succ, i64_w, i32_w]
                      rfl
                    refine one_ (i := 11) (N := some 28) #[true, true, true, true, true, true, true, true, true, true, true, true, false, false, false, false] rfl rfl (one_of HT_.out (by kernel_rfl)) (by decide) (fun K hK => ?_)
                    refine goes_ Try.func23 (by kernel_rfl) rfl #[.agg #[.string a0_0, .string a0_1, .string a0_2], .int .u8 (bt t7005 x7_1)] (by rfl) rfl rfl (by (try simp only [List.map_toArray, List.map_cons, List.map_nil]); first | done | rfl | (simp only [List.length_drop, List.length_take]; rfl)) ?_
                    with_reducible refine (spec_ValueOf.calls a0_0 a0_1 a0_2 (bt t7005 x7_1) t7006 _ A13.out).mono ?_
                    rintro e w17 ⟨rfl, hb⟩
                    refine ⟨_, rfl, ?_⟩
                    have n0_ := Aside0.mk (Kd.R_below (by (with_reducible repeat (first | apply Kd.R_alloc | apply Kd.R_drewN | apply Kd.R_drew)); exact HO_5.out) hb)
                    have n1_ := Aside0.mk (blk_below (g := gb7001) (o := .cells #[.string a0_0, .string a0_1, .string a0_2] 26 (0, 0)) (by (with_reducible repeat (first | refine blk_drewN ?_ _ | refine blk_drew ?_ | refine blk_alloc ?_ _)); exact BK7001.out) hb)
                    have n2_ := Aside0.mk (below_step (by repeat (first | (with_reducible first | exact HB.out | apply below_alloc | apply pw_below_drewN | apply below_drew1 | refine below_set ?_ GE7001.out) | exact HB.out)) hb)
                    clear HO_5
                    clear BK7001
                    clear HB
                    have HO_5 := n0_
                    have BK7001 := n1_
                    have HB := n2_
                    clear n0_ n1_ n2_
                    (try clear hb)
                    (try clear hb2)
                    (try clear hk)
                    (try clear hi)
                    refine hK.out _ _ ⟨(blk_cell BK7001.out 0).trans rfl, (blk_cell BK7001.out 1).trans rfl, (blk_cell BK7001.out 2).trans rfl⟩ (fun hHeld => ?_)
                    clear hK K
                    refine norm_ (a' := ?_) ?_ ?_
                    rotate_left
                    · show Act.put _ (some 28) _ = _
                      simp only [Act.put, List.setIfInBounds_toArray, List.set_cons_zero, List.set_cons_succ, i64_w, i32_w]
                      rfl
                    refine pure_ (i := 12) (N := some 29) (v := ?_) (a' := ?_) #[true, true, true, true, true, true, true, true, true, true, true, true, true, false, false, false] rfl rfl (any_of HT_.out (by kernel_rfl)) (fun _ _ _ h => h) (Or.inl ⟨by rfl, ?_⟩) ?_ ?_
                    rotate_left
                    · intro w'
                      go_simp
                      first | with_reducible rfl | (rw [if_neg (by omega)]; done) | (rw [if_neg (by (try simp only [decide_eq_true_eq, decide_eq_false_iff_not, eq_iff_iff, iff_true, iff_false] at *); (try simp only [ByteArray.size_extract, ByteArray.size_append, show (⟨#[97, 98, 99]⟩ : ByteArray).size = 3 from rfl, show (⟨#[88, 89, 90]⟩ : ByteArray).size = 3 from rfl, show (⟨#[61]⟩ : ByteArray).size = 1 from rfl] at *); omega)]; done)
                    rotate_left
                    · simp only [Act.put, List.setIfInBounds_toArray, List.set_cons_zero, List.set_cons_succ, i64_w, i32_w]
                      rfl
                    refine one_ (i := 13) (N := some 30) #[true, true, true, true, true, true, true, true, true, true, true, true, true, true, false, false] rfl rfl (one_of HT_.out (by kernel_rfl)) (by decide) (fun K hK => ?_)
                    refine value_ (w1 := ?_) (v := ?_) (by rfl) rfl ?_ ?_
                    rotate_left 2
                    · go_simp
                      constructor
                      · rfl
                      · rfl
                    refine hK.out _ _ ⟨(blk_cell (blk_alloc BK7001.out _) 0).trans rfl, (blk_cell (blk_alloc BK7001.out _) 1).trans rfl, (blk_cell (blk_alloc BK7001.out _) 2).trans rfl⟩ (fun hHeld => ?_)
                    clear hK K
                    refine norm_ (a' := ?_) ?_ ?_
                    rotate_left
                    · show Act.put _ (some 30) _ = _
                      simp only [Act.put, List.setIfInBounds_toArray, List.set_cons_zero, List.set_cons_succ, i64_w, i32_w]
                      rfl
                    refine one_ (i := 14) (N := some 31) #[true, true, true, true, true, true, true, true, true, true, true, true, true, true, true, false] rfl rfl (one_of HT_.out (by kernel_rfl)) (by decide) (fun K hK => ?_)
                    refine Kd.R_append_step Kd.string (w0 := w) w.heap.size (by rfl) (.tmp 17) (.tmp 30) 50 9 (.string ⟨#[]⟩) 16 rfl Try.underlying50 info9 rfl (by decide) (by omega) u5 x5_1 (((t7005.extract (x7_1 : Int).toNat ((wrap64 (x7_1 + 1)) : Int).toNat) ++ (⟨#[61]⟩ : ByteArray)) ++ t7006) [.string (((t7005.extract (x7_1 : Int).toNat ((wrap64 (x7_1 + 1)) : Int).toNat) ++ (⟨#[61]⟩ : ByteArray)) ++ t7006)] (fun _ => True) (fun _ => False) rfl rfl ?aP (fun _ hk => hk.elim) ?aF ?aO ?aB ?aS ?aL ?_
                    (case aP => exact rfl)
                    (case aB => exact (by repeat (first | (with_reducible first | exact HB.out | apply below_alloc | apply pw_below_drewN | apply below_drew1 | refine below_set ?_ GE7001.out) | exact HB.out)))
                    (case aF => exact (fun _ _ => trivial))
                    (case aO => exact (by (with_reducible repeat (first | apply Kd.R_alloc | apply Kd.R_drewN | apply Kd.R_drew)); exact HO_5.out))
                    (case aS => exact (below_size (by repeat (first | (with_reducible first | exact HB.out | apply below_alloc | apply pw_below_drewN | apply below_drew1 | refine below_set ?_ GE7001.out) | exact HB.out))))
                    (case aL => have := LMc15.out; omega)
                    intro v7008 w18 ho hb hg hat
                    rw [← Ny7007.out] at ho
                    have n0_ := Aside0.mk (blk_grown (g := gb7001) (o := .cells #[.string a0_0, .string a0_1, .string a0_2] 26 (0, 0)) (by (with_reducible repeat (first | refine blk_drewN ?_ _ | refine blk_drew ?_ | refine blk_alloc ?_ _)); exact BK7001.out) hg (Kd.R_ne HO_5.out BK7001.out (by decide)))
                    have n1_ := Aside0.mk (hb)
                    have n2_ := Aside0.mk (ho)
                    clear BK7001
                    clear HB
                    clear HO_5
                    have BK7001 := n0_
                    have HB := n1_
                    have HO7009 := n2_
                    clear n0_ n1_ n2_
                    clear ho hb hg hat
                    refine hK.out _ _ ⟨(blk_cell BK7001.out 0).trans rfl, (blk_cell BK7001.out 1).trans rfl, (blk_cell BK7001.out 2).trans rfl⟩ (fun hHeld => ?_)
                    clear hK K
                    refine norm_ (a' := ?_) ?_ ?_
                    rotate_left
                    · show Act.put _ (some 31) _ = _
                      simp only [Act.put, List.setIfInBounds_toArray, List.set_cons_zero, List.set_cons_succ, i64_w, i32_w]
                      rfl
                    refine pure_ (i := 15) (N := some 5) (v := ?_) (a' := ?_) #[true, true, true, true, true, true, true, true, true, true, true, true, true, true, true, true] rfl rfl (any_of HT_.out (by kernel_rfl)) (fun _ _ _ h => h) (Or.inl ⟨by rfl, ?_⟩) ?_ ?_
                    rotate_left
                    · intro w'
                      go_simp
                      first | with_reducible rfl | (rw [if_neg (by omega)]; done) | (rw [if_neg (by (try simp only [decide_eq_true_eq, decide_eq_false_iff_not, eq_iff_iff, iff_true, iff_false] at *); (try simp only [ByteArray.size_extract, ByteArray.size_append, show (⟨#[97, 98, 99]⟩ : ByteArray).size = 3 from rfl, show (⟨#[88, 89, 90]⟩ : ByteArray).size = 3 from rfl, show (⟨#[61]⟩ : ByteArray).size = 1 from rfl] at *); omega)]; done)
                    rotate_left
                    · simp only [Act.put, List.setIfInBounds_toArray, List.set_cons_zero, List.set_cons_succ, i64_w, i32_w]
                      rfl
                    refine done_ (done_of HT_.out (by kernel_rfl)) ?_
                    try go_wp2
                    go_roundg k1
                    case measure => have := HK1.out; omega
                    case rel => exact ⟨(y7007), (wrap64 (x7_1 + 1)), (by first | rfl | (simp; done) | (simp [*]; done)), H', ⟨by have := HK1.out; omega⟩, ⟨by (with_reducible repeat (first | apply Kd.R_alloc | apply Kd.R_drewN | apply Kd.R_drew)); exact HO7009.out⟩, ⟨by (with_reducible repeat (first | refine blk_drewN ?_ _ | refine blk_drew ?_ | refine blk_alloc ?_ _)); exact BK7001.out⟩, ⟨by repeat (first | (with_reducible first | exact HB.out | apply below_alloc | apply pw_below_drewN | apply below_drew1 | refine below_set ?_ GE7001.out) | exact HB.out)⟩⟩
                  · rw [if_neg c15] at H
                    exact absurd H (by simp)
                · rw [if_neg c14] at H
                  exact absurd H (by simp)
              · rw [if_neg c11] at H
                exact absurd H (by simp)
            · rw [if_neg c10] at H
              exact absurd H (by simp)
          · rw [if_neg c9] at H
            exact absurd H (by simp)
        · rw [if_neg c8] at H
          exact absurd H (by simp)
      · rw [if_neg c7] at H
        have c7b0 : decide (x7_1 < (t7005.size : Int)) = false := decide_eq_false c7
        clear c7
        replace H := Option.bind_eq_some_iff.mp H
        obtain ⟨t7010, A190, H⟩ := H
        replace H : (some t7010) = some r := H
        have A19 := Aside0.mk A190
        clear A190
        obtain rfl := Option.some.inj H
        obtain ⟨Ao20, co20, eo20⟩ := Kd.R_slice HO_5.out
        subst eo20
        go_wp2_with (first | ((with_reducible refine gate_callee (f := 24) rfl ?_); refine goesL_ (some 33) rfl rfl Try.func24 (by kernel_rfl) rfl #[.slice Ao20 x5_1.length co20, .string (⟨#[32]⟩ : ByteArray)] rfl (by (try simp only [List.map_toArray, List.map_cons, List.map_nil]); first | done | rfl | (simp only [List.length_drop, List.length_take]; rfl)) ?_; (with_reducible refine (spec_Join.calls k1 _ _ x5_1 (⟨#[32]⟩ : ByteArray) t7010 _ ?side1 ?side2 A19.out).mono ?_); (case side1 => repeat (first | exact (Kd.R_reads' HO_5.out).2.2 | (with_reducible refine Kd.C_alloc ?_ _) | (with_reducible refine Kd.C_drewN ?_ _) | (with_reducible refine Kd.C_drew ?_))); (case side2 => exact (Kd.R_reads' HO_5.out).2.1); rintro e w21 ⟨rfl, hb⟩; refine ⟨_, rfl, ?_⟩; have n0_ := Aside0.mk (Kd.R_below (by (with_reducible repeat (first | apply Kd.R_alloc | apply Kd.R_drewN | apply Kd.R_drew)); exact HO_5.out) hb); have n1_ := Aside0.mk (blk_below (g := gb7001) (o := .cells #[.string a0_0, .string a0_1, .string a0_2] 26 (0, 0)) (by (with_reducible repeat (first | refine blk_drewN ?_ _ | refine blk_drew ?_ | refine blk_alloc ?_ _)); exact BK7001.out) hb); have n2_ := Aside0.mk (below_step (by repeat (first | (with_reducible first | exact HB.out | apply below_alloc | apply pw_below_drewN | apply below_drew1 | refine below_set ?_ GE7001.out) | exact HB.out)) hb); clear HO_5; clear BK7001; clear HB; have HO_5 := n0_; have BK7001 := n1_; have HB := n2_; clear n0_ n1_ n2_; (try clear hb); (try clear hb2); (try clear hk); (try clear hi)))
        go_ret
        exact ⟨by first | rfl | (simp [errW_none, errW_some] <;> rfl) | (simp [*, errW_none, errW_some] <;> rfl), by repeat (first | (with_reducible first | exact HB.out | apply below_alloc | apply pw_below_drewN | apply below_drew1 | refine below_set ?_ GE7001.out) | exact HB.out)⟩


end Go.Proofs.Ytgllnohlocfeoaa.A


namespace Go.Proofs
open Go.Shelf
def Try.lays156_ren : Go.Shelf.Ren := ⟨fun | 156 => 51 | 165 => 63 | 166 => 64 | 169 => 65 | 240 => 69 | 241 => 70 | 276 => 71 | 277 => 72 | n => n, fun | 31 => 50 | 9 => 9 | 3 => 3 | 4 => 4 | 0 => 0 | 20 => 20 | 72 => 87 | 76 => 91 | 70 => 85 | 37 => 64 | 75 => 90 | 127 => 96 | 164 => 97 | 5 => 5 | 80 => 93 | n => n, fun | n => n⟩
theorem Try.lays156 : Go.Proofs.Lays.n156 Try.prog Try.lays156_ren := {
  mixed := by kernel_rfl
  f156 := Try.func51.trans (congrArg some (by kernel_rfl))
  f165 := Try.func63.trans (congrArg some (by kernel_rfl))
  f166 := Try.func64.trans (congrArg some (by kernel_rfl))
  f169 := Try.func65.trans (congrArg some (by kernel_rfl))
  f240 := Try.func69.trans (congrArg some (by kernel_rfl))
  f241 := Try.func70.trans (congrArg some (by kernel_rfl))
  f276 := Try.func71.trans (congrArg some (by kernel_rfl))
  f277 := Try.func72.trans (congrArg some (by kernel_rfl))
  t0 := Try.underlying0
  a0 := Try.isAgg0
  z0 := Try.sizeOf0
  v0 := Try.zeroValue0
  t3 := Try.underlying3
  a3 := Try.isAgg3
  z3 := Try.sizeOf3
  v3 := Try.zeroValue3
  t4 := Try.underlying4
  a4 := Try.isAgg4
  z4 := Try.sizeOf4
  v4 := Try.zeroValue4
  t9 := Try.underlying9
  a9 := Try.isAgg9
  z9 := Try.sizeOf9
  v9 := Try.zeroValue9
  t20 := Try.underlying20
  a20 := Try.isAgg20
  z20 := Try.sizeOf20
  v20 := Try.zeroValue20
  t31 := Try.underlying50
  a31 := Try.isAgg50
  z31 := Try.sizeOf50
  v31 := Try.zeroValue50
  t37 := Try.underlying64
  a37 := Try.isAgg64
  z37 := Try.sizeOf64
  v37 := Try.zeroValue64
  t70 := Try.underlying85
  a70 := Try.isAgg85
  z70 := Try.sizeOf85
  v70 := Try.zeroValue85
  t72 := Try.underlying87
  a72 := Try.isAgg87
  z72 := Try.sizeOf87
  v72 := Try.zeroValue87
  t75 := Try.underlying90
  a75 := Try.isAgg90
  z75 := Try.sizeOf90
  v75 := Try.zeroValue90
  t76 := Try.underlying91
  a76 := Try.isAgg91
  z76 := Try.sizeOf91
  v76 := Try.zeroValue91
  t127 := Try.underlying96
  a127 := Try.isAgg96
  z127 := Try.sizeOf96
  v127 := Try.zeroValue96
  t164 := Try.underlying97
  a164 := Try.isAgg97
  z164 := Try.sizeOf97
  v164 := Try.zeroValue97 }
theorem Try.Builder_Extra_156 : Builder.Extra Try.prog Try.lays156_ren := {
  sizeBuilder := by kernel_rfl
  liesBuilder := by kernel_rfl
  t5 := Try.underlying5
  a5 := Try.isAgg5
  z5 := Try.sizeOf5
  v5 := Try.zeroValue5
  infoByte := by kernel_rfl
  cellsByte := by kernel_rfl
  sizeByte := by kernel_rfl
  neB5 := by decide }

end Go.Proofs


namespace Go.Proofs.Ytgllnohlocfeoaa.Ext
set_option linter.unusedVariables false
set_option linter.unusedSimpArgs false
open Go Go.RowKit Go.Proofs Go.Proofs.YtgllnohlocfeoaaW.PrintWords

-- EXT strings.Join making
def joinB (l : List ByteArray) (s : ByteArray) : ByteArray := ⟨(Lib.join (l.map (·.data.toList)) s.data.toList).toArray⟩
def strings_Join.f (l0 : List ByteArray) (a1 : ByteArray) : Option ByteArray :=
  if l0.length ≤ 140737488355328 ∧ (Lib.join (l0.map (·.data.toList)) a1.data.toList).length ≤ 140737488355328 then some (joinB l0 a1) else none
theorem cell_spot {w : World} {a : Addr} {v : Value} (h : w.cell? a = some v) : a.spot = none ∧ a.block < w.heap.size := by
  unfold World.cell? at h
  split at h
  · next hb =>
    constructor
    · split at h
      · cases h
      · next hs => simpa using hs
    · exact (Array.getElem?_eq_some_iff.1 hb).1
  · cases h
theorem strings_Join.calls (A0 : Option Addr) (c0 : Nat) (l0 : List ByteArray) (a1 : ByteArray) (r : ByteArray) (w : World) (hr0 : Kd.C Kd.string w A0 l0.length l0) (hc0 : l0.length ≤ c0) (h : strings_Join.f l0 a1 = some r) :
    Calls Try.prog 51 #[.slice A0 l0.length c0, .string a1] w fun e w' => e = .returned (.string r) ∧ Below w.heap.size w w' := by
  unfold strings_Join.f at h
  split at h
  · next hh =>
    obtain rfl := Option.some.inj h
    by_cases hn : 0 < l0.length
    · obtain ⟨ad, rfl, hcell⟩ := hr0.2.2 hn
      have hcs : ∀ (j : Nat) x, l0[j]? = some x → w.cell? (ad.add j) = some (.string x) := by
        intro j x hj
        obtain ⟨c, _, hk, hc⟩ := hcell j x hj
        obtain rfl : c = [.string x] := hk
        have := hc 0 _ rfl
        rwa [show Kd.string.sz = 1 from rfl, Nat.mul_one, Nat.add_zero] at this
      have h0 := hcs 0 l0[0] (List.getElem?_eq_getElem hn)
      obtain ⟨hs, hb⟩ := cell_spot h0
      obtain ⟨bk, o, sp⟩ := ad
      have hs' : sp = none := by simpa [Addr.add] using hs
      subst hs'
      refine Any.strings_Join Try.lays156 Try.Builder_Extra_156 bk o c0 l0 a1 w (fun j x hj => ?_) (by simpa [Addr.add] using hb) hh.1 hc0 hh.2
      have := hcs j x hj
      unfold Addr.add at this
      split at this
      · next h0 => subst h0; simpa using this
      · exact this
    · obtain rfl : l0 = [] := List.length_eq_zero_iff.1 (by omega)
      refine (Any.strings_Join_none Try.lays156 Try.Builder_Extra_156 A0 c0 a1 w).mono ?_
      rintro e w' ⟨rfl, rfl⟩
      exact ⟨rfl, Below.refl _ _⟩
  · cases h

end Go.Proofs.Ytgllnohlocfeoaa.Ext


namespace Go.Proofs.Ytgllnohlocfeoaa.A
open Go.RowKit Go.Proofs.Ytgllnohlocfeoaa.Ext Go.Proofs.YtgllnohlocfeoaaW.PrintWords Go.Proofs.YtgllnohlocfeoaaW.PrintLast Go.Proofs.YtgllnohlocfeoaaW.PrintMore
attribute [local go_sem] max2_int min2_int max_two min_two max_three min_three max_four min_four   -- for this text's walks alone
set_option linter.unusedVariables false
set_option linter.unusedSimpArgs false

/-! ### impl_Join: function 27 -/
def impl_Join.l0 : Nat → List ByteArray → ByteArray → Int → List ByteArray → Int → Int → Option (ByteArray)
  | 0, _, _, _, _, _, _ => none
  | k + 1, x0, x1, x5, x8, x9, x10 => if x10 < x9 then (if 0 ≤ x10 then (if x10 < (x8.length : Int) then (if x10 > 0 then (if (wrap64 ((wrap64 (x5 + (x1.size : Int))) + ((rdOf ByteArray.empty x8 x10).size : Int))) > 1048576 then (some (⟨#[]⟩ : ByteArray)) else (impl_Join.l0 k x0 x1 (wrap64 ((wrap64 (x5 + (x1.size : Int))) + ((rdOf ByteArray.empty x8 x10).size : Int))) x8 x9 (wrap64 (x10 + 1)))) else (if (wrap64 (x5 + ((rdOf ByteArray.empty x8 x10).size : Int))) > 1048576 then (some (⟨#[]⟩ : ByteArray)) else (impl_Join.l0 k x0 x1 (wrap64 (x5 + ((rdOf ByteArray.empty x8 x10).size : Int))) x8 x9 (wrap64 (x10 + 1))))) else (none)) else (none)) else ((strings_Join.f x0 x1).bind fun t27001 => (some t27001))
def impl_Join.f (k : Nat) (l0 : List ByteArray) (a1 : ByteArray) : Option (ByteArray) := impl_Join.l0 k l0 a1 0 l0 (l0.length : Int) 0
theorem impl_Join.mono_l : ∀ k, (∀ y0 y1 y2 y3 y4 y5, LeO (impl_Join.l0 k y0 y1 y2 y3 y4 y5) (impl_Join.l0 (k + 1) y0 y1 y2 y3 y4 y5))
  | 0 => fun _ _ _ _ _ _ r h => by simp [impl_Join.l0] at h
  | k + 1 => by
    have ih0 := impl_Join.mono_l k
    · intro y0 y1 y2 y3 y4 y5
      unfold impl_Join.l0
      repeat' first
      | (with_reducible exact ih0 _ _ _ _ _ _)
      | (with_reducible exact LeO.refl _)
      | (with_reducible exact LeO.none _)
      | (with_reducible refine LeO.ite ?_ ?_)
      | (with_reducible refine LeO.bind ?_ (fun _ => ?_))
      | exact ih0 _ _ _ _ _ _
      | exact LeO.none _
      | refine LeO.ite ?_ ?_
      | refine LeO.bind ?_ (fun _ => ?_)
theorem impl_Join.mono : ∀ a0 a1 k, LeO (impl_Join.f k a0 a1) (impl_Join.f (k + 1) a0 a1) := by
  intro a0 a1 k
  have ih0 := impl_Join.mono_l k
  unfold impl_Join.f
  repeat' first
      | (with_reducible exact ih0 _ _ _ _ _ _)
      | (with_reducible exact LeO.refl _)
      | (with_reducible exact LeO.none _)
      | (with_reducible refine LeO.ite ?_ ?_)
      | (with_reducible refine LeO.bind ?_ (fun _ => ?_))
      | exact ih0 _ _ _ _ _ _
      | exact LeO.none _
      | refine LeO.ite ?_ ?_
      | refine LeO.bind ?_ (fun _ => ?_)
set_option maxHeartbeats 8000000 in
set_option maxRecDepth 100000 in
theorem impl_Join.calls (k : Nat) (A0 : Option Addr) (c0 : Nat) (l0 : List ByteArray) (a1 : ByteArray) (r : ByteArray) (w : World) (hr0 : Kd.C Kd.string w A0 l0.length l0) (hc0 : l0.length ≤ c0) (h : impl_Join.f k l0 a1 = some r) :
    Calls Try.prog 27 #[.slice A0 l0.length c0, .string a1] w fun e w' => e = .returned (.string r) ∧ Below w.heap.size w w' := by
  have HR0 := Aside0.mk hr0
  have HC0 := Aside0.mk hc0
  clear hr0 hc0
  have HB := Aside0.mk (Below.refl w.heap.size w)
  have H : (impl_Join.l0 k l0 a1 0 l0 (l0.length : Int) 0) = some r := h
  clear h
  have H' := Aside0.mk H
  clear H
  go_enter Try.func27, Try.ntmps27
  go_wp2
  first | go_loopg [5, 10] k (fun kq v5 v10 w' => ∃ (x5_1 : Int) (x10_1 : Int), v5 = .int .i64 x5_1 ∧ v10 = .int .i64 x10_1 ∧ Aside0 (impl_Join.l0 kq l0 a1 x5_1 l0 (l0.length : Int) x10_1 = some r) ∧ Aside0 (kq ≤ k) ∧ Aside0 (Below w.heap.size w w')) | (simp only [Act.put, List.setIfInBounds_toArray, List.set_cons_succ, List.set_cons_zero]; go_loopg [5, 10] k (fun kq v5 v10 w' => ∃ (x5_1 : Int) (x10_1 : Int), v5 = .int .i64 x5_1 ∧ v10 = .int .i64 x10_1 ∧ Aside0 (impl_Join.l0 kq l0 a1 x5_1 l0 (l0.length : Int) x10_1 = some r) ∧ Aside0 (kq ≤ k) ∧ Aside0 (Below w.heap.size w w')))
  case atStart => exact ⟨(0), (0), (by first | rfl | (simp; done) | (simp [*]; done)), (by first | rfl | (simp; done) | (simp [*]; done)), H', ⟨Nat.le_refl _⟩, ⟨by repeat (first | (with_reducible first | exact HB.out | apply below_alloc | apply pw_below_drewN | apply below_drew1) | exact HB.out)⟩⟩
  case round =>
    clear H'
    try clear c2
    try clear p2
    obtain ⟨x5_1, x10_1, rfl, rfl, HA, HK1, HB⟩ := hrel
    cases gk with
    | zero => exact absurd HA.out (by simp [impl_Join.l0])
    | succ k1 =>
      have H := HA.out
      clear HA
      simp only [impl_Join.l0] at H
      by_cases c3 : x10_1 < (l0.length : Int)
      · rw [if_pos c3] at H
        have c3b0 : decide (x10_1 < (l0.length : Int)) = true := decide_eq_true c3
        clear c3
        by_cases c4 : 0 ≤ x10_1
        · rw [if_pos c4] at H
          have c4b0 : decide (0 ≤ x10_1) = true := decide_eq_true c4
          clear c4
          by_cases c5 : x10_1 < (l0.length : Int)
          · rw [if_pos c5] at H
            have c5b0 : decide (x10_1 < (l0.length : Int)) = true := decide_eq_true c5
            clear c5
            by_cases c6 : x10_1 > 0
            · rw [if_pos c6] at H
              have c6b0 : decide (0 < x10_1) = true := decide_eq_true c6
              clear c6
              by_cases c7 : (wrap64 ((wrap64 (x5_1 + (a1.size : Int))) + ((rdOf ByteArray.empty l0 x10_1).size : Int))) > 1048576
              · rw [if_pos c7] at H
                have c7b0 : decide (1048576 < (wrap64 ((wrap64 (x5_1 + (a1.size : Int))) + ((rdOf ByteArray.empty l0 x10_1).size : Int)))) = true := decide_eq_true c7
                have c7w : decide (1048576 < (IntKind.i64.wrap ((IntKind.i64.wrap (x5_1 + (a1.size : Int))) + ((rdOf ByteArray.empty l0 x10_1).size : Int)))) = true := by simp only [i64_w]; exact c7b0
                clear c7
                obtain rfl := Option.some.inj H
                have p27002 : 0 ≤ (x10_1 : Int) := of_decide_eq_true (by first | (with_reducible assumption) | assumption)
                have q27002 : x10_1 < (l0.length : Int) := of_decide_eq_true (by first | (with_reducible assumption) | assumption)
                obtain ⟨ad27002, e27002, hx27002_0⟩ := Kd.at_string HR0.out x10_1 p27002 q27002
                cases e27002
                replace hx27002_0 := (HB.out.cell (World.block_lt_of_cell? w _ hx27002_0)).trans hx27002_0
                replace p27002 := eq_true p27002
                replace q27002 := eq_true q27002
                go_wp2
                go_ret
                exact ⟨by first | rfl | (simp [errW_none, errW_some] <;> rfl) | (simp [*, errW_none, errW_some] <;> rfl), by repeat (first | (with_reducible first | exact HB.out | apply below_alloc | apply pw_below_drewN | apply below_drew1) | exact HB.out)⟩
              · rw [if_neg c7] at H
                have c7b0 : decide (1048576 < (wrap64 ((wrap64 (x5_1 + (a1.size : Int))) + ((rdOf ByteArray.empty l0 x10_1).size : Int)))) = false := decide_eq_false c7
                have c7w : decide (1048576 < (IntKind.i64.wrap ((IntKind.i64.wrap (x5_1 + (a1.size : Int))) + ((rdOf ByteArray.empty l0 x10_1).size : Int)))) = false := by simp only [i64_w]; exact c7b0
                clear c7
                have H' := Aside0.mk H
                clear H
                have p27002 : 0 ≤ (x10_1 : Int) := of_decide_eq_true (by first | (with_reducible assumption) | assumption)
                have q27002 : x10_1 < (l0.length : Int) := of_decide_eq_true (by first | (with_reducible assumption) | assumption)
                obtain ⟨ad27002, e27002, hx27002_0⟩ := Kd.at_string HR0.out x10_1 p27002 q27002
                cases e27002
                replace hx27002_0 := (HB.out.cell (World.block_lt_of_cell? w _ hx27002_0)).trans hx27002_0
                replace p27002 := eq_true p27002
                replace q27002 := eq_true q27002
                go_wp2
                go_roundg k1
                case measure => have := HK1.out; omega
                case rel => exact ⟨(wrap64 ((wrap64 (x5_1 + (a1.size : Int))) + ((rdOf ByteArray.empty l0 x10_1).size : Int))), (wrap64 (x10_1 + 1)), (by first | rfl | (simp; done) | (simp [*]; done)), (by first | rfl | (simp; done) | (simp [*]; done)), H', ⟨by have := HK1.out; omega⟩, ⟨by repeat (first | (with_reducible first | exact HB.out | apply below_alloc | apply pw_below_drewN | apply below_drew1) | exact HB.out)⟩⟩
            · rw [if_neg c6] at H
              have c6b0 : decide (0 < x10_1) = false := decide_eq_false c6
              clear c6
              by_cases c8 : (wrap64 (x5_1 + ((rdOf ByteArray.empty l0 x10_1).size : Int))) > 1048576
              · rw [if_pos c8] at H
                have c8b0 : decide (1048576 < (wrap64 (x5_1 + ((rdOf ByteArray.empty l0 x10_1).size : Int)))) = true := decide_eq_true c8
                have c8w : decide (1048576 < (IntKind.i64.wrap (x5_1 + ((rdOf ByteArray.empty l0 x10_1).size : Int)))) = true := by simp only [i64_w]; exact c8b0
                clear c8
                obtain rfl := Option.some.inj H
                have p27002 : 0 ≤ (x10_1 : Int) := of_decide_eq_true (by first | (with_reducible assumption) | assumption)
                have q27002 : x10_1 < (l0.length : Int) := of_decide_eq_true (by first | (with_reducible assumption) | assumption)
                obtain ⟨ad27002, e27002, hx27002_0⟩ := Kd.at_string HR0.out x10_1 p27002 q27002
                cases e27002
                replace hx27002_0 := (HB.out.cell (World.block_lt_of_cell? w _ hx27002_0)).trans hx27002_0
                replace p27002 := eq_true p27002
                replace q27002 := eq_true q27002
                go_wp2
                go_ret
                exact ⟨by first | rfl | (simp [errW_none, errW_some] <;> rfl) | (simp [*, errW_none, errW_some] <;> rfl), by repeat (first | (with_reducible first | exact HB.out | apply below_alloc | apply pw_below_drewN | apply below_drew1) | exact HB.out)⟩
              · rw [if_neg c8] at H
                have c8b0 : decide (1048576 < (wrap64 (x5_1 + ((rdOf ByteArray.empty l0 x10_1).size : Int)))) = false := decide_eq_false c8
                have c8w : decide (1048576 < (IntKind.i64.wrap (x5_1 + ((rdOf ByteArray.empty l0 x10_1).size : Int)))) = false := by simp only [i64_w]; exact c8b0
                clear c8
                have H' := Aside0.mk H
                clear H
                have p27002 : 0 ≤ (x10_1 : Int) := of_decide_eq_true (by first | (with_reducible assumption) | assumption)
                have q27002 : x10_1 < (l0.length : Int) := of_decide_eq_true (by first | (with_reducible assumption) | assumption)
                obtain ⟨ad27002, e27002, hx27002_0⟩ := Kd.at_string HR0.out x10_1 p27002 q27002
                cases e27002
                replace hx27002_0 := (HB.out.cell (World.block_lt_of_cell? w _ hx27002_0)).trans hx27002_0
                replace p27002 := eq_true p27002
                replace q27002 := eq_true q27002
                go_wp2
                go_roundg k1
                case measure => have := HK1.out; omega
                case rel => exact ⟨(wrap64 (x5_1 + ((rdOf ByteArray.empty l0 x10_1).size : Int))), (wrap64 (x10_1 + 1)), (by first | rfl | (simp; done) | (simp [*]; done)), (by first | rfl | (simp; done) | (simp [*]; done)), H', ⟨by have := HK1.out; omega⟩, ⟨by repeat (first | (with_reducible first | exact HB.out | apply below_alloc | apply pw_below_drewN | apply below_drew1) | exact HB.out)⟩⟩
          · rw [if_neg c5] at H
            exact absurd H (by simp)
        · rw [if_neg c4] at H
          exact absurd H (by simp)
      · rw [if_neg c3] at H
        have c3b0 : decide (x10_1 < (l0.length : Int)) = false := decide_eq_false c3
        clear c3
        replace H := Option.bind_eq_some_iff.mp H
        obtain ⟨t27001, A90, H⟩ := H
        replace H : (some t27001) = some r := H
        have A9 := Aside0.mk A90
        clear A90
        obtain rfl := Option.some.inj H
        go_wp2_with (first | ((with_reducible refine gate_callee (f := 51) rfl ?_); refine goesL_ (some 30) rfl rfl Try.func51 (by kernel_rfl) rfl #[.slice A0 l0.length c0, .string a1] rfl (by (try simp only [List.map_toArray, List.map_cons, List.map_nil]); first | done | rfl | (simp only [List.length_drop, List.length_take]; rfl)) ?_; (with_reducible refine (strings_Join.calls _ _ l0 a1 t27001 _ ?side1 ?side2 A9.out).mono ?_); (case side1 => repeat (first | exact (Kd.C_below HR0.out HB.out) | (with_reducible refine Kd.C_alloc ?_ _) | (with_reducible refine Kd.C_drewN ?_ _) | (with_reducible refine Kd.C_drew ?_))); (case side2 => exact HC0.out); rintro e w10 ⟨rfl, hb⟩; refine ⟨_, rfl, ?_⟩; have n0_ := Aside0.mk (below_step (by repeat (first | (with_reducible first | exact HB.out | apply below_alloc | apply pw_below_drewN | apply below_drew1) | exact HB.out)) hb); clear HB; have HB := n0_; clear n0_; (try clear hb); (try clear hb2); (try clear hk); (try clear hi)))
        go_ret
        exact ⟨by first | rfl | (simp [errW_none, errW_some] <;> rfl) | (simp [*, errW_none, errW_some] <;> rfl), by repeat (first | (with_reducible first | exact HB.out | apply below_alloc | apply pw_below_drewN | apply below_drew1) | exact HB.out)⟩


end Go.Proofs.Ytgllnohlocfeoaa.A


namespace Go.Proofs.Ytgllnohlocfeoaa.A
open Go.RowKit Go.Proofs.Ytgllnohlocfeoaa.Ext Go.Proofs.YtgllnohlocfeoaaW.PrintWords Go.Proofs.YtgllnohlocfeoaaW.PrintLast Go.Proofs.YtgllnohlocfeoaaW.PrintMore
attribute [local go_sem] max2_int min2_int max_two min_two max_three min_three max_four min_four   -- for this text's walks alone
set_option linter.unusedVariables false
set_option linter.unusedSimpArgs false

/-! ### impl_ValueOf: function 26 -/
def impl_ValueOf.f (a0_0 : ByteArray) (a0_1 : ByteArray) (a0_2 : ByteArray) (a1 : Int) : Option (ByteArray) := if a1 = 88 then (some a0_0) else (if a1 = 89 then (some a0_1) else (if a1 = 90 then (some a0_2) else (some (⟨#[]⟩ : ByteArray))))
set_option maxHeartbeats 8000000 in
set_option maxRecDepth 100000 in
theorem impl_ValueOf.calls (a0_0 : ByteArray) (a0_1 : ByteArray) (a0_2 : ByteArray) (a1 : Int) (r : ByteArray) (w : World) (h : impl_ValueOf.f a0_0 a0_1 a0_2 a1 = some r) :
    Calls Try.prog 26 #[.agg #[.string a0_0, .string a0_1, .string a0_2], .int .u8 a1] w fun e w' => e = .returned (.string r) ∧ Below w.heap.size w w' := by
  have hu26 := Try.underlying26
  have HB := Aside0.mk (Below.refl w.heap.size w)
  have H : (if a1 = 88 then (some a0_0) else (if a1 = 89 then (some a0_1) else (if a1 = 90 then (some a0_2) else (some (⟨#[]⟩ : ByteArray))))) = some r := h
  clear h
  by_cases c3 : a1 = 88
  · rw [if_pos c3] at H
    have c3b0 : (a1 == 88) = true := beq_iff_eq.mpr c3
    have c3b1 : (a1 != 88) = false := bne_eq_false_iff_eq.mpr c3
    clear c3
    obtain rfl := Option.some.inj H
    go_enter Try.func26, Try.ntmps26
    go_wp2_with (first | ((with_reducible refine gate_dst (N := 2) rfl ?_); refine box_event ?hg (N := 2) ?hd (cs := #[.string a0_0, .string a0_1, .string a0_2]) (t := 26) ?hr ?_; (case hd => rfl); (case hg => rfl); (case hr => first | (go_simp; done) | (go_simp; rfl)); intro gb26001 hg w4 hbox hb; have n0_ := Aside0.mk (below_step (by repeat (first | (with_reducible first | exact HB.out | apply below_alloc | apply pw_below_drewN | apply below_drew1) | exact HB.out)) hb); have n1_ := Aside0.mk (hbox); have n2_ := Aside0.mk ((by rw [hg]; exact (below_size (by repeat (first | (with_reducible first | exact HB.out | apply below_alloc | apply pw_below_drewN | apply below_drew1) | exact HB.out))) : w.heap.size ≤ gb26001)); have n3_ := Aside0.mk ((by rw [hg]; exact (below_size (by repeat (first | (with_reducible first | exact HB.out | apply below_alloc | apply pw_below_drewN | apply below_drew1) | exact HB.out))) : w.heap.size ≤ gb26001)); clear HB; have HB := n0_; have BK26001 := n1_; have GW26001 := n2_; have GE26001 := n3_; clear n0_ n1_ n2_ n3_; clear hb hbox hg; have hcz5_0 : w4.cell? ⟨gb26001, 0, none⟩ = some (.string a0_0) := (blk_cell BK26001.out 0).trans rfl; have hcz5_1 : w4.cell? ⟨gb26001, 1, none⟩ = some (.string a0_1) := (blk_cell BK26001.out 1).trans rfl; have hcz5_2 : w4.cell? ⟨gb26001, 2, none⟩ = some (.string a0_2) := (blk_cell BK26001.out 2).trans rfl; have hfz5_0 := blk_frozen BK26001.out 0; have hfz5_1 := blk_frozen BK26001.out 1; have hfz5_2 := blk_frozen BK26001.out 2))
    go_ret
    exact ⟨by first | rfl | (simp [errW_none, errW_some] <;> rfl) | (simp [*, errW_none, errW_some] <;> rfl), by repeat (first | (with_reducible first | exact HB.out | apply below_alloc | apply pw_below_drewN | apply below_drew1 | refine below_set ?_ GE26001.out) | exact HB.out)⟩
  · rw [if_neg c3] at H
    have c3b0 : (a1 == 88) = false := beq_eq_false_iff_ne.mpr c3
    have c3b1 : (a1 != 88) = true := bne_iff_ne.mpr c3
    by_cases c6 : a1 = 89
    · rw [if_pos c6] at H
      have c6b0 : (a1 == 89) = true := beq_iff_eq.mpr c6
      have c6b1 : (a1 != 89) = false := bne_eq_false_iff_eq.mpr c6
      clear c6
      obtain rfl := Option.some.inj H
      go_enter Try.func26, Try.ntmps26
      go_wp2_with (first | ((with_reducible refine gate_dst (N := 2) rfl ?_); refine box_event ?hg (N := 2) ?hd (cs := #[.string a0_0, .string a0_1, .string a0_2]) (t := 26) ?hr ?_; (case hd => rfl); (case hg => rfl); (case hr => first | (go_simp; done) | (go_simp; rfl)); intro gb26001 hg w7 hbox hb; have n0_ := Aside0.mk (below_step (by repeat (first | (with_reducible first | exact HB.out | apply below_alloc | apply pw_below_drewN | apply below_drew1) | exact HB.out)) hb); have n1_ := Aside0.mk (hbox); have n2_ := Aside0.mk ((by rw [hg]; exact (below_size (by repeat (first | (with_reducible first | exact HB.out | apply below_alloc | apply pw_below_drewN | apply below_drew1) | exact HB.out))) : w.heap.size ≤ gb26001)); have n3_ := Aside0.mk ((by rw [hg]; exact (below_size (by repeat (first | (with_reducible first | exact HB.out | apply below_alloc | apply pw_below_drewN | apply below_drew1) | exact HB.out))) : w.heap.size ≤ gb26001)); clear HB; have HB := n0_; have BK26001 := n1_; have GW26001 := n2_; have GE26001 := n3_; clear n0_ n1_ n2_ n3_; clear hb hbox hg; have hcz8_0 : w7.cell? ⟨gb26001, 0, none⟩ = some (.string a0_0) := (blk_cell BK26001.out 0).trans rfl; have hcz8_1 : w7.cell? ⟨gb26001, 1, none⟩ = some (.string a0_1) := (blk_cell BK26001.out 1).trans rfl; have hcz8_2 : w7.cell? ⟨gb26001, 2, none⟩ = some (.string a0_2) := (blk_cell BK26001.out 2).trans rfl; have hfz8_0 := blk_frozen BK26001.out 0; have hfz8_1 := blk_frozen BK26001.out 1; have hfz8_2 := blk_frozen BK26001.out 2))
      go_ret
      exact ⟨by first | rfl | (simp [errW_none, errW_some] <;> rfl) | (simp [*, errW_none, errW_some] <;> rfl), by repeat (first | (with_reducible first | exact HB.out | apply below_alloc | apply pw_below_drewN | apply below_drew1 | refine below_set ?_ GE26001.out) | exact HB.out)⟩
    · rw [if_neg c6] at H
      have c6b0 : (a1 == 89) = false := beq_eq_false_iff_ne.mpr c6
      have c6b1 : (a1 != 89) = true := bne_iff_ne.mpr c6
      by_cases c9 : a1 = 90
      · rw [if_pos c9] at H
        have c9b0 : (a1 == 90) = true := beq_iff_eq.mpr c9
        have c9b1 : (a1 != 90) = false := bne_eq_false_iff_eq.mpr c9
        clear c9
        obtain rfl := Option.some.inj H
        go_enter Try.func26, Try.ntmps26
        go_wp2_with (first | ((with_reducible refine gate_dst (N := 2) rfl ?_); refine box_event ?hg (N := 2) ?hd (cs := #[.string a0_0, .string a0_1, .string a0_2]) (t := 26) ?hr ?_; (case hd => rfl); (case hg => rfl); (case hr => first | (go_simp; done) | (go_simp; rfl)); intro gb26001 hg w10 hbox hb; have n0_ := Aside0.mk (below_step (by repeat (first | (with_reducible first | exact HB.out | apply below_alloc | apply pw_below_drewN | apply below_drew1) | exact HB.out)) hb); have n1_ := Aside0.mk (hbox); have n2_ := Aside0.mk ((by rw [hg]; exact (below_size (by repeat (first | (with_reducible first | exact HB.out | apply below_alloc | apply pw_below_drewN | apply below_drew1) | exact HB.out))) : w.heap.size ≤ gb26001)); have n3_ := Aside0.mk ((by rw [hg]; exact (below_size (by repeat (first | (with_reducible first | exact HB.out | apply below_alloc | apply pw_below_drewN | apply below_drew1) | exact HB.out))) : w.heap.size ≤ gb26001)); clear HB; have HB := n0_; have BK26001 := n1_; have GW26001 := n2_; have GE26001 := n3_; clear n0_ n1_ n2_ n3_; clear hb hbox hg; have hcz11_0 : w10.cell? ⟨gb26001, 0, none⟩ = some (.string a0_0) := (blk_cell BK26001.out 0).trans rfl; have hcz11_1 : w10.cell? ⟨gb26001, 1, none⟩ = some (.string a0_1) := (blk_cell BK26001.out 1).trans rfl; have hcz11_2 : w10.cell? ⟨gb26001, 2, none⟩ = some (.string a0_2) := (blk_cell BK26001.out 2).trans rfl; have hfz11_0 := blk_frozen BK26001.out 0; have hfz11_1 := blk_frozen BK26001.out 1; have hfz11_2 := blk_frozen BK26001.out 2))
        go_ret
        exact ⟨by first | rfl | (simp [errW_none, errW_some] <;> rfl) | (simp [*, errW_none, errW_some] <;> rfl), by repeat (first | (with_reducible first | exact HB.out | apply below_alloc | apply pw_below_drewN | apply below_drew1 | refine below_set ?_ GE26001.out) | exact HB.out)⟩
      · rw [if_neg c9] at H
        have c9b0 : (a1 == 90) = false := beq_eq_false_iff_ne.mpr c9
        have c9b1 : (a1 != 90) = true := bne_iff_ne.mpr c9
        obtain rfl := Option.some.inj H
        go_enter Try.func26, Try.ntmps26
        go_wp2_with (first | ((with_reducible refine gate_dst (N := 2) rfl ?_); refine box_event ?hg (N := 2) ?hd (cs := #[.string a0_0, .string a0_1, .string a0_2]) (t := 26) ?hr ?_; (case hd => rfl); (case hg => rfl); (case hr => first | (go_simp; done) | (go_simp; rfl)); intro gb26001 hg w12 hbox hb; have n0_ := Aside0.mk (below_step (by repeat (first | (with_reducible first | exact HB.out | apply below_alloc | apply pw_below_drewN | apply below_drew1) | exact HB.out)) hb); have n1_ := Aside0.mk (hbox); have n2_ := Aside0.mk ((by rw [hg]; exact (below_size (by repeat (first | (with_reducible first | exact HB.out | apply below_alloc | apply pw_below_drewN | apply below_drew1) | exact HB.out))) : w.heap.size ≤ gb26001)); have n3_ := Aside0.mk ((by rw [hg]; exact (below_size (by repeat (first | (with_reducible first | exact HB.out | apply below_alloc | apply pw_below_drewN | apply below_drew1) | exact HB.out))) : w.heap.size ≤ gb26001)); clear HB; have HB := n0_; have BK26001 := n1_; have GW26001 := n2_; have GE26001 := n3_; clear n0_ n1_ n2_ n3_; clear hb hbox hg))
        go_ret
        exact ⟨by first | rfl | (simp [errW_none, errW_some] <;> rfl) | (simp [*, errW_none, errW_some] <;> rfl), by repeat (first | (with_reducible first | exact HB.out | apply below_alloc | apply pw_below_drewN | apply below_drew1 | refine below_set ?_ GE26001.out) | exact HB.out)⟩

/-! ### impl_FormatValues: function 9 -/
def impl_FormatValues.l0 : Nat → ByteArray → List ByteArray → Int → ByteArray → ByteArray → ByteArray → Option (ByteArray)
  | 0, _, _, _, _, _, _ => none
  | k + 1, x1, x5, x8, x9002000, x9002001, x9002002 => if x8 < 3 then (if 0 ≤ x8 then ((strings_IndexByte.f x1 (bt (⟨#[88, 89, 90]⟩ : ByteArray) x8)).bind fun t9006 => (if t9006 ≥ 0 then (if x8 ≤ (wrap64 (x8 + 1)) then (if (wrap64 (x8 + 1)) ≤ 3 then (if ((⟨#[88, 89, 90]⟩ : ByteArray).extract (x8 : Int).toNat ((wrap64 (x8 + 1)) : Int).toNat).size + 1 ≤ 9223372036854775807 then ((impl_ValueOf.f x9002000 x9002001 x9002002 (bt (⟨#[88, 89, 90]⟩ : ByteArray) x8)).bind fun t9007 => (if (((⟨#[88, 89, 90]⟩ : ByteArray).extract (x8 : Int).toNat ((wrap64 (x8 + 1)) : Int).toNat) ++ (⟨#[61]⟩ : ByteArray)).size + t9007.size ≤ 9223372036854775807 then (if x5.length < 8796093022208 then (impl_FormatValues.l0 k x1 (x5 ++ [(((⟨#[88, 89, 90]⟩ : ByteArray).extract (x8 : Int).toNat ((wrap64 (x8 + 1)) : Int).toNat) ++ (⟨#[61]⟩ : ByteArray)) ++ t9007]) (wrap64 (x8 + 1)) x9002000 x9002001 x9002002) else (none)) else (none))) else (none)) else (none)) else (none)) else (impl_FormatValues.l0 k x1 x5 (wrap64 (x8 + 1)) x9002000 x9002001 x9002002))) else (none)) else ((impl_Join.f k x5 (⟨#[32]⟩ : ByteArray)).bind fun t9005 => (some t9005))
def impl_FormatValues.f (k : Nat) (a0_0 : ByteArray) (a0_1 : ByteArray) (a0_2 : ByteArray) (a1 : ByteArray) : Option (ByteArray) := impl_FormatValues.l0 k a1 (([] : List ByteArray)) 0 a0_0 a0_1 a0_2
theorem impl_FormatValues.mono_l : ∀ k, (∀ y0 y1 y2 y3 y4 y5, LeO (impl_FormatValues.l0 k y0 y1 y2 y3 y4 y5) (impl_FormatValues.l0 (k + 1) y0 y1 y2 y3 y4 y5))
  | 0 => fun _ _ _ _ _ _ r h => by simp [impl_FormatValues.l0] at h
  | k + 1 => by
    have ih0 := impl_FormatValues.mono_l k
    · intro y0 y1 y2 y3 y4 y5
      unfold impl_FormatValues.l0
      repeat' first
      | (with_reducible exact ih0 _ _ _ _ _ _)
      | (with_reducible exact impl_Join.mono _ _ _)
      | (with_reducible exact LeO.refl _)
      | (with_reducible exact LeO.none _)
      | (with_reducible refine LeO.ite ?_ ?_)
      | (with_reducible refine LeO.bind ?_ (fun _ => ?_))
      | exact ih0 _ _ _ _ _ _
      | exact impl_Join.mono _ _ _
      | exact LeO.none _
      | refine LeO.ite ?_ ?_
      | refine LeO.bind ?_ (fun _ => ?_)
theorem impl_FormatValues.mono : ∀ a0 a1 a2 a3 k, LeO (impl_FormatValues.f k a0 a1 a2 a3) (impl_FormatValues.f (k + 1) a0 a1 a2 a3) := by
  intro a0 a1 a2 a3 k
  have ih0 := impl_FormatValues.mono_l k
  unfold impl_FormatValues.f
  repeat' first
      | (with_reducible exact ih0 _ _ _ _ _ _)
      | (with_reducible exact impl_Join.mono _ _ _)
      | (with_reducible exact LeO.refl _)
      | (with_reducible exact LeO.none _)
      | (with_reducible refine LeO.ite ?_ ?_)
      | (with_reducible refine LeO.bind ?_ (fun _ => ?_))
      | exact ih0 _ _ _ _ _ _
      | exact impl_Join.mono _ _ _
      | exact LeO.none _
      | refine LeO.ite ?_ ?_
      | refine LeO.bind ?_ (fun _ => ?_)
def impl_FormatValues.T6 : Bool × List (List Nat × List Nat) := (true, [([], []), ([], []), ([], []), ([2], [2]), ([1, 3], [1, 3]), ([4], [4]), ([], []), ([], []), ([7], [7]), ([6, 8], [6, 8]), ([5, 9], [5, 9]), ([10], [10]), ([0, 11, 9], [0, 11]), ([12, 12, 0, 1, 2, 3, 4, 5, 6, 7, 8, 9, 10, 11, 12], [0, 12])])
def impl_FormatValues.B6 : List Nat := [0, 0, 0, 4, 14, 30, 0, 0, 128, 448, 1022, 2046, 4095, 8191]
theorem impl_FormatValues.tab6 : rtab .any (opsOf Try.f9 6) = impl_FormatValues.T6 := by kernel_rfl
theorem impl_FormatValues.bits6 : waitsOk impl_FormatValues.T6.2 impl_FormatValues.B6 = true := by kernel_rfl
set_option maxHeartbeats 8000000 in
set_option maxRecDepth 100000 in
theorem impl_FormatValues.calls (k : Nat) (a0_0 : ByteArray) (a0_1 : ByteArray) (a0_2 : ByteArray) (a1 : ByteArray) (r : ByteArray) (w : World) (h : impl_FormatValues.f k a0_0 a0_1 a0_2 a1 = some r) :
    Calls Try.prog 9 #[.agg #[.string a0_0, .string a0_1, .string a0_2], .string a1] w fun e w' => e = .returned (.string r) ∧ Below w.heap.size w w' := by
  have hu26 := Try.underlying26
  have HB := Aside0.mk (Below.refl w.heap.size w)
  have H : (impl_FormatValues.l0 k a1 (([] : List ByteArray)) 0 a0_0 a0_1 a0_2) = some r := h
  clear h
  obtain ⟨y9002, hy9002⟩ : ∃ y_ : List ByteArray, y_ = (([] : List ByteArray)) := ⟨_, rfl⟩
  replace H : (impl_FormatValues.l0 k a1 y9002 0 a0_0 a0_1 a0_2) = some r := by first | (rw [hy9002]; with_reducible exact H) | (have H2_ := (Option.bind_some _ _).symm.trans H; rw [hy9002]; with_reducible exact H2_) | (have H2_ := (Option.bind_some _ _).symm.trans H; with_reducible exact H2_) | with_reducible exact H | (rw [hy9002]; exact H) | exact H
  have Ny9002 := Aside0.mk hy9002
  clear hy9002
  have H' := Aside0.mk H
  clear H
  go_enter Try.func9, Try.ntmps9
  go_wp2_with (first | ((with_reducible refine gate_dst (N := 2) rfl ?_); refine box_event ?hg (N := 2) ?hd (cs := #[.string a0_0, .string a0_1, .string a0_2]) (t := 26) ?hr ?_; (case hd => rfl); (case hg => rfl); (case hr => first | (go_simp; done) | (go_simp; rfl)); intro gb9001 hg w3 hbox hb; have n0_ := Aside0.mk (below_step (by repeat (first | (with_reducible first | exact HB.out | apply below_alloc | apply pw_below_drewN | apply below_drew1) | exact HB.out)) hb); have n1_ := Aside0.mk (hbox); have n2_ := Aside0.mk ((by rw [hg]; exact (below_size (by repeat (first | (with_reducible first | exact HB.out | apply below_alloc | apply pw_below_drewN | apply below_drew1) | exact HB.out))) : w.heap.size ≤ gb9001)); have n3_ := Aside0.mk ((by rw [hg]; exact (below_size (by repeat (first | (with_reducible first | exact HB.out | apply below_alloc | apply pw_below_drewN | apply below_drew1) | exact HB.out))) : w.heap.size ≤ gb9001)); clear HB; have HB := n0_; have BK9001 := n1_; have GW9001 := n2_; have GE9001 := n3_; clear n0_ n1_ n2_ n3_; clear hb hbox hg) | ((with_reducible refine gate_dst (N := 7) rfl ?_); refine Kd.R_lit Kd.string _ 9 ?hg (N := 7) ?hd (xs := ([] : List ByteArray)) (inner := []) (ok := fun _ => True) (okp := fun _ => True) ?hr ?hp (fun _ hk => hk) trivial (Below.refl _ _) (Nat.le_refl _) (by simp) ?_; (case hd => rfl); (case hg => rfl); (case hr => first | (go_simp; done) | (go_simp; rfl)); (case hp => exact (Reps.none _ _)); intro v9003 w4 ho5 hb hg_ hnew_; clear hg_ hnew_; (first | rw [← Ny9002.out] at ho5 | (simp only [Int.reduceToNat] at ho5; rw [← Ny9002.out] at ho5)); have n0_ := Aside0.mk (Kd.R_lower ho5 (below_size (by repeat (first | (with_reducible first | exact HB.out | apply below_alloc | apply pw_below_drewN | apply below_drew1 | refine below_set ?_ GE9001.out) | exact HB.out)))); have n1_ := Aside0.mk (blk_below (g := gb9001) (o := .cells #[.string a0_0, .string a0_1, .string a0_2] 26 (0, 0)) (by (with_reducible repeat (first | refine blk_drewN ?_ _ | refine blk_drew ?_ | refine blk_alloc ?_ _)); exact BK9001.out) hb); have n2_ := Aside0.mk (below_step (by repeat (first | (with_reducible first | exact HB.out | apply below_alloc | apply pw_below_drewN | apply below_drew1 | refine below_set ?_ GE9001.out) | exact HB.out)) hb); clear BK9001; clear HB; have HO9004 := n0_; have BK9001 := n1_; have HB := n2_; clear n0_ n1_ n2_; clear hb ho5))
  first | go_loopg [5, 8] k (fun kq v5 v8 w' => ∃ (x5_1 : List ByteArray) (x8_1 : Int), v8 = .int .i64 x8_1 ∧ Aside0 (impl_FormatValues.l0 kq a1 x5_1 x8_1 a0_0 a0_1 a0_2 = some r) ∧ Aside0 (kq ≤ k) ∧ Aside0 (Kd.R Kd.string 9 w' w.heap.size (fun _ => True) v5 x5_1) ∧ Aside0 (w'.heap[gb9001]? = some (.cells #[.string a0_0, .string a0_1, .string a0_2] 26 (0, 0))) ∧ Aside0 (Below w.heap.size w w')) | (simp only [Act.put, List.setIfInBounds_toArray, List.set_cons_succ, List.set_cons_zero]; go_loopg [5, 8] k (fun kq v5 v8 w' => ∃ (x5_1 : List ByteArray) (x8_1 : Int), v8 = .int .i64 x8_1 ∧ Aside0 (impl_FormatValues.l0 kq a1 x5_1 x8_1 a0_0 a0_1 a0_2 = some r) ∧ Aside0 (kq ≤ k) ∧ Aside0 (Kd.R Kd.string 9 w' w.heap.size (fun _ => True) v5 x5_1) ∧ Aside0 (w'.heap[gb9001]? = some (.cells #[.string a0_0, .string a0_1, .string a0_2] 26 (0, 0))) ∧ Aside0 (Below w.heap.size w w')))
  case atStart => exact ⟨(y9002), (0), (by first | rfl | (simp; done) | (simp [*]; done)), H', ⟨Nat.le_refl _⟩, ⟨by (with_reducible repeat (first | apply Kd.R_alloc | apply Kd.R_drewN | apply Kd.R_drew)); exact HO9004.out⟩, ⟨by (with_reducible repeat (first | refine blk_drewN ?_ _ | refine blk_drew ?_ | refine blk_alloc ?_ _)); exact BK9001.out⟩, ⟨by repeat (first | (with_reducible first | exact HB.out | apply below_alloc | apply pw_below_drewN | apply below_drew1 | refine below_set ?_ GE9001.out) | exact HB.out)⟩⟩
  case round =>
    clear H'
    try clear p2
    obtain ⟨x5_1, x8_1, rfl, HA, HK1, HO_5, BK9001, HB⟩ := hrel
    cases gk with
    | zero => exact absurd HA.out (by simp [impl_FormatValues.l0])
    | succ k1 =>
      have H := HA.out
      clear HA
      simp only [impl_FormatValues.l0] at H
      by_cases c6 : x8_1 < 3
      · rw [if_pos c6] at H
        have c6b0 : decide (x8_1 < 3) = true := decide_eq_true c6
        clear c6
        by_cases c7 : 0 ≤ x8_1
        · rw [if_pos c7] at H
          have c7b0 : decide (0 ≤ x8_1) = true := decide_eq_true c7
          clear c7
          replace H := Option.bind_eq_some_iff.mp H
          obtain ⟨t9006, A90, H⟩ := H
          replace H : (if t9006 ≥ 0 then (if x8_1 ≤ (wrap64 (x8_1 + 1)) then (if (wrap64 (x8_1 + 1)) ≤ 3 then (if ((⟨#[88, 89, 90]⟩ : ByteArray).extract (x8_1 : Int).toNat ((wrap64 (x8_1 + 1)) : Int).toNat).size + 1 ≤ 9223372036854775807 then ((impl_ValueOf.f a0_0 a0_1 a0_2 (bt (⟨#[88, 89, 90]⟩ : ByteArray) x8_1)).bind fun t9007 => (if (((⟨#[88, 89, 90]⟩ : ByteArray).extract (x8_1 : Int).toNat ((wrap64 (x8_1 + 1)) : Int).toNat) ++ (⟨#[61]⟩ : ByteArray)).size + t9007.size ≤ 9223372036854775807 then (if x5_1.length < 8796093022208 then (impl_FormatValues.l0 k1 a1 (x5_1 ++ [(((⟨#[88, 89, 90]⟩ : ByteArray).extract (x8_1 : Int).toNat ((wrap64 (x8_1 + 1)) : Int).toNat) ++ (⟨#[61]⟩ : ByteArray)) ++ t9007]) (wrap64 (x8_1 + 1)) a0_0 a0_1 a0_2) else (none)) else (none))) else (none)) else (none)) else (none)) else (impl_FormatValues.l0 k1 a1 x5_1 (wrap64 (x8_1 + 1)) a0_0 a0_1 a0_2)) = some r := H
          have A9 := Aside0.mk A90
          clear A90
          by_cases c10 : t9006 ≥ 0
          · rw [if_pos c10] at H
            have c10b0 : decide (0 ≤ t9006) = true := decide_eq_true c10
            clear c10
            have c11b0 := eq_true (of_decide_eq_true (by first | (with_reducible assumption) | assumption) : 0 ≤ x8_1)
            by_cases c12 : x8_1 ≤ (wrap64 (x8_1 + 1))
            · rw [if_pos c12] at H
              have c12b0 := eq_true c12
              have c12b1 : decide (x8_1 ≤ (wrap64 (x8_1 + 1))) = true := decide_eq_true c12
              by_cases c13 : (wrap64 (x8_1 + 1)) ≤ 3
              · rw [if_pos c13] at H
                have c13b0 := eq_true c13
                have c13b1 : decide ((wrap64 (x8_1 + 1)) ≤ 3) = true := decide_eq_true c13
                by_cases c14 : ((⟨#[88, 89, 90]⟩ : ByteArray).extract (x8_1 : Int).toNat ((wrap64 (x8_1 + 1)) : Int).toNat).size + 1 ≤ 9223372036854775807
                · rw [if_pos c14] at H
                  have c14z := c14
                  try simp at c14z
                  try replace c14z := eq_false (Nat.not_lt.2 c14z)
                  have c14b0 := eq_true c14
                  have c14b1 : decide (((⟨#[88, 89, 90]⟩ : ByteArray).extract (x8_1 : Int).toNat ((wrap64 (x8_1 + 1)) : Int).toNat).size + 1 ≤ 9223372036854775807) = true := decide_eq_true c14
                  try have c14b2 : (9223372036854775807 < ((⟨#[88, 89, 90]⟩ : ByteArray).extract (x8_1 : Int).toNat ((wrap64 (x8_1 + 1)) : Int).toNat).size + 1) = False := eq_false (Nat.not_lt.2 c14)
                  replace H := Option.bind_eq_some_iff.mp H
                  obtain ⟨t9007, A160, H⟩ := H
                  replace H : (if (((⟨#[88, 89, 90]⟩ : ByteArray).extract (x8_1 : Int).toNat ((wrap64 (x8_1 + 1)) : Int).toNat) ++ (⟨#[61]⟩ : ByteArray)).size + t9007.size ≤ 9223372036854775807 then (if x5_1.length < 8796093022208 then (impl_FormatValues.l0 k1 a1 (x5_1 ++ [(((⟨#[88, 89, 90]⟩ : ByteArray).extract (x8_1 : Int).toNat ((wrap64 (x8_1 + 1)) : Int).toNat) ++ (⟨#[61]⟩ : ByteArray)) ++ t9007]) (wrap64 (x8_1 + 1)) a0_0 a0_1 a0_2) else (none)) else (none)) = some r := H
                  have A16 := Aside0.mk A160
                  clear A160
                  by_cases c17 : (((⟨#[88, 89, 90]⟩ : ByteArray).extract (x8_1 : Int).toNat ((wrap64 (x8_1 + 1)) : Int).toNat) ++ (⟨#[61]⟩ : ByteArray)).size + t9007.size ≤ 9223372036854775807
                  · rw [if_pos c17] at H
                    have c17z := c17
                    try simp at c17z
                    try replace c17z := eq_false (Nat.not_lt.2 c17z)
                    have c17b0 := eq_true c17
                    have c17b1 : decide ((((⟨#[88, 89, 90]⟩ : ByteArray).extract (x8_1 : Int).toNat ((wrap64 (x8_1 + 1)) : Int).toNat) ++ (⟨#[61]⟩ : ByteArray)).size + t9007.size ≤ 9223372036854775807) = true := decide_eq_true c17
                    try have c17b2 : (9223372036854775807 < (((⟨#[88, 89, 90]⟩ : ByteArray).extract (x8_1 : Int).toNat ((wrap64 (x8_1 + 1)) : Int).toNat) ++ (⟨#[61]⟩ : ByteArray)).size + t9007.size) = False := eq_false (Nat.not_lt.2 c17)
                    by_cases c18 : x5_1.length < 8796093022208
                    · rw [if_pos c18] at H
                      have LMc18 := Aside0.mk c18
                      clear c18
                      obtain ⟨y9008, hy9008⟩ : ∃ y_ : List ByteArray, y_ = (x5_1 ++ [(((⟨#[88, 89, 90]⟩ : ByteArray).extract (x8_1 : Int).toNat ((wrap64 (x8_1 + 1)) : Int).toNat) ++ (⟨#[61]⟩ : ByteArray)) ++ t9007]) := ⟨_, rfl⟩
                      replace H : (impl_FormatValues.l0 k1 a1 y9008 (wrap64 (x8_1 + 1)) a0_0 a0_1 a0_2) = some r := by first | (rw [hy9008]; with_reducible exact H) | (have H2_ := (Option.bind_some _ _).symm.trans H; rw [hy9008]; with_reducible exact H2_) | (have H2_ := (Option.bind_some _ _).symm.trans H; with_reducible exact H2_) | with_reducible exact H | (rw [hy9008]; exact H) | exact H
                      have Ny9008 := Aside0.mk hy9008
                      clear hy9008
                      have H' := Aside0.mk H
                      clear H
                      have p8 : 0 ≤ (x8_1 : Int) := of_decide_eq_true (by first | (with_reducible assumption) | assumption)
                      have q8 : x8_1 < (3 : Int) := of_decide_eq_true (by first | (with_reducible assumption) | assumption)
                      have hx8 := bt_at (⟨#[88, 89, 90]⟩ : ByteArray) x8_1
                      replace p8 := eq_true p8
                      replace q8 := eq_true q8
                      try go_wp2_with (first | ((with_reducible refine gate_callee (f := 25) rfl ?_); refine goesL_ (some 14) rfl rfl Try.func25 (by kernel_rfl) rfl #[.string a1, .int .u8 (bt (⟨#[88, 89, 90]⟩ : ByteArray) x8_1)] rfl (by (try simp only [List.map_toArray, List.map_cons, List.map_nil]); first | done | rfl | (simp only [List.length_drop, List.length_take]; rfl)) ?_; (with_reducible refine (strings_IndexByte.calls a1 (bt (⟨#[88, 89, 90]⟩ : ByteArray) x8_1) t9006 _ A9.out).mono ?_); rintro e w' ⟨rfl, ⟨nd, rfl⟩⟩; refine ⟨_, rfl, ?_⟩))
                      (try (rw [drewN_self wr]; generalize hq_ : World.drewN wr _ = wr; have n0_ : Aside0 (Kd.R Kd.string 9 wr w.heap.size (fun _ => True) u5 x5_1) := ⟨by rw [← hq_]; exact (by (with_reducible repeat (first | apply Kd.R_alloc | apply Kd.R_drewN | apply Kd.R_drew)); exact HO_5.out)⟩; have n1_ : Aside0 (wr.heap[gb9001]? = some (.cells #[.string a0_0, .string a0_1, .string a0_2] 26 (0, 0))) := ⟨by rw [← hq_]; exact (by (with_reducible repeat (first | refine blk_drewN ?_ _ | refine blk_drew ?_ | refine blk_alloc ?_ _)); exact BK9001.out)⟩; have n2_ : Aside0 (Below w.heap.size w wr) := ⟨by rw [← hq_]; exact (by repeat (first | (with_reducible first | exact HB.out | apply below_alloc | apply pw_below_drewN | apply below_drew1 | refine below_set ?_ GE9001.out) | exact HB.out))⟩; clear HO_5 BK9001 HB hq_; have HO_5 := n0_; have BK9001 := n1_; have HB := n2_; clear n0_ n1_ n2_))
                      have n0_ := Aside0.mk (Kd.R_drew HO_5.out)
                      have n1_ := Aside0.mk (blk_drew BK9001.out)
                      have n2_ := Aside0.mk (below_drew1 HB.out)
                      clear HO_5
                      clear BK9001
                      clear HB
                      have HO_5 := n0_
                      have BK9001 := n1_
                      have HB := n2_
                      clear n0_ n1_ n2_
                      have p15 : 0 ≤ (x8_1 : Int) := of_decide_eq_true (by first | (with_reducible assumption) | assumption)
                      have q15 : x8_1 < (3 : Int) := of_decide_eq_true (by first | (with_reducible assumption) | assumption)
                      have hx15 := bt_at (⟨#[88, 89, 90]⟩ : ByteArray) x8_1
                      replace p15 := eq_true p15
                      replace q15 := eq_true q15
                      refine start_ (n := 14) (S := fun w' => w'.cell? ⟨gb9001, 0, none⟩ = some (.string a0_0) ∧ w'.cell? ⟨gb9001, 1, none⟩ = some (.string a0_1) ∧ w'.cell? ⟨gb9001, 2, none⟩ = some (.string a0_2)) (ds := []) #[false, false, false, false, false, false, false, false, false, false, false, false, false, false] (by kernel_rfl) rfl rfl ⟨(blk_cell BK9001.out 0).trans rfl, (blk_cell BK9001.out 1).trans rfl, (blk_cell BK9001.out 2).trans rfl⟩ (fun hHeld => ?_); refine with_tabW impl_FormatValues.tab6 impl_FormatValues.bits6 (fun HT_ HW_ => ?_)
                      generalize wr.drew = w19 at HO_5 BK9001 HB hHeld ⊢
                      refine pure_ (i := 0) (N := some 16) (v := ?_) (a' := ?_) #[true, false, false, false, false, false, false, false, false, false, false, false, false, false] rfl rfl (any_of HT_.out (by kernel_rfl)) (fun _ _ _ h => h) (Or.inl ⟨by rfl, ?_⟩) ?_ ?_
                      rotate_left
                      · intro w'
                        go_simp
                        first | with_reducible rfl | (rw [if_neg (by omega)]; done) | (rw [if_neg (by (try simp only [decide_eq_true_eq, decide_eq_false_iff_not, eq_iff_iff, iff_true, iff_false] at *); (try simp only [ByteArray.size_extract, ByteArray.size_append, show (⟨#[97, 98, 99]⟩ : ByteArray).size = 3 from rfl, show (⟨#[88, 89, 90]⟩ : ByteArray).size = 3 from rfl, show (⟨#[61]⟩ : ByteArray).size = 1 from rfl] at *); omega)]; done)
                      rotate_left
                      · simp only [Act.put, List.setIfInBounds_toArray, List.set_cons_zero, List.set_cons_succ, i64_w, i32_w]
                        rfl
                      refine pure_ (i := 1) (N := some 17) (v := ?_) (a' := ?_) #[true, true, false, false, false, false, false, false, false, false, false, false, false, false] rfl rfl (any_of HT_.out (by kernel_rfl)) (fun _ _ _ h => h) (Or.inl ⟨by rfl, ?_⟩) ?_ ?_
                      rotate_left
                      · intro w'
                        go_simp
                        first | with_reducible rfl | (rw [if_neg (by omega)]; done) | (rw [if_neg (by (try simp only [decide_eq_true_eq, decide_eq_false_iff_not, eq_iff_iff, iff_true, iff_false] at *); (try simp only [ByteArray.size_extract, ByteArray.size_append, show (⟨#[97, 98, 99]⟩ : ByteArray).size = 3 from rfl, show (⟨#[88, 89, 90]⟩ : ByteArray).size = 3 from rfl, show (⟨#[61]⟩ : ByteArray).size = 1 from rfl] at *); omega)]; done)
                      rotate_left
                      · simp only [Act.put, List.setIfInBounds_toArray, List.set_cons_zero, List.set_cons_succ, i64_w, i32_w]
                        rfl
                      refine pure_ (i := 2) (N := some 18) (v := ?_) (a' := ?_) #[true, true, true, false, false, false, false, false, false, false, false, false, false, false] rfl rfl (any_of HT_.out (by kernel_rfl)) (fun _ _ _ h => h) (Or.inl ⟨by rfl, ?_⟩) ?_ ?_
                      rotate_left
                      · intro w'
                        go_simp
                        first | with_reducible rfl | (rw [if_neg (by omega)]; done) | (rw [if_neg (by (try simp only [decide_eq_true_eq, decide_eq_false_iff_not, eq_iff_iff, iff_true, iff_false] at *); (try simp only [ByteArray.size_extract, ByteArray.size_append, show (⟨#[97, 98, 99]⟩ : ByteArray).size = 3 from rfl, show (⟨#[88, 89, 90]⟩ : ByteArray).size = 3 from rfl, show (⟨#[61]⟩ : ByteArray).size = 1 from rfl] at *); omega)]; done)
                      rotate_left
                      · simp only [Act.put, List.setIfInBounds_toArray, List.set_cons_zero, List.set_cons_succ, i64_w, i32_w]
                        rfl
                      refine pure_ (i := 3) (N := some 19) (v := ?_) (a' := ?_) #[true, true, true, true, false, false, false, false, false, false, false, false, false, false] rfl rfl (any_of HT_.out (by kernel_rfl)) (fun _ _ _ h => h) (Or.inl ⟨by rfl, ?_⟩) ?_ ?_
                      rotate_left
                      · intro w'
                        go_simp
                        first | with_reducible rfl | (rw [if_neg (by omega)]; done) | (rw [if_neg (by (try simp only [decide_eq_true_eq, decide_eq_false_iff_not, eq_iff_iff, iff_true, iff_false] at *); (try simp only [ByteArray.size_extract, ByteArray.size_append, show (⟨#[97, 98, 99]⟩ : ByteArray).size = 3 from rfl, show (⟨#[88, 89, 90]⟩ : ByteArray).size = 3 from rfl, show (⟨#[61]⟩ : ByteArray).size = 1 from rfl] at *); omega)]; done)
                      rotate_left
                      · simp only [Act.put, List.setIfInBounds_toArray, List.set_cons_zero, List.set_cons_succ, i64_w, i32_w]
                        rfl
                      refine pure_ (i := 4) (N := some 20) (v := ?_) (a' := ?_) #[true, true, true, true, true, false, false, false, false, false, false, false, false, false] rfl rfl (any_of HT_.out (by kernel_rfl)) (fun _ _ _ h => h) (Or.inl ⟨by rfl, ?_⟩) ?_ ?_
                      rotate_left
                      · intro w'
                        go_simp
                        first | with_reducible rfl | (rw [if_neg (by omega)]; done) | (rw [if_neg (by (try simp only [decide_eq_true_eq, decide_eq_false_iff_not, eq_iff_iff, iff_true, iff_false] at *); (try simp only [ByteArray.size_extract, ByteArray.size_append, show (⟨#[97, 98, 99]⟩ : ByteArray).size = 3 from rfl, show (⟨#[88, 89, 90]⟩ : ByteArray).size = 3 from rfl, show (⟨#[61]⟩ : ByteArray).size = 1 from rfl] at *); omega)]; done)
                      rotate_left
                      · simp only [Act.put, List.setIfInBounds_toArray, List.set_cons_zero, List.set_cons_succ, i64_w, i32_w]
                        rfl
                      refine pure_ (i := 5) (N := some 21) (v := ?_) (a' := ?_) #[true, true, true, true, true, true, false, false, false, false, false, false, false, false] rfl rfl (any_of HT_.out (by kernel_rfl)) (fun _ _ _ h => h) (Or.inl ⟨by rfl, ?_⟩) ?_ ?_
                      rotate_left
                      · intro w'
                        go_simp
                        first | with_reducible rfl | (rw [if_neg (by omega)]; done) | (rw [if_neg (by (try simp only [decide_eq_true_eq, decide_eq_false_iff_not, eq_iff_iff, iff_true, iff_false] at *); (try simp only [ByteArray.size_extract, ByteArray.size_append, show (⟨#[97, 98, 99]⟩ : ByteArray).size = 3 from rfl, show (⟨#[88, 89, 90]⟩ : ByteArray).size = 3 from rfl, show (⟨#[61]⟩ : ByteArray).size = 1 from rfl] at *); omega)]; done)
                      rotate_left
                      · simp only [Act.put, List.setIfInBounds_toArray, List.set_cons_zero, List.set_cons_succ, i64_w, i32_w]
                        rfl
                      refine pure_ (i := 7) (N := some 23) (v := ?_) (a' := ?_) #[true, true, true, true, true, true, false, true, false, false, false, false, false, false] rfl rfl (any_of HT_.out (by kernel_rfl)) (fun _ _ _ h => h) (Or.inl ⟨by rfl, ?_⟩) ?_ ?_
                      rotate_left
                      · intro w'
                        go_simp
                        first | with_reducible rfl | (rw [if_neg (by omega)]; done) | (rw [if_neg (by (try simp only [decide_eq_true_eq, decide_eq_false_iff_not, eq_iff_iff, iff_true, iff_false] at *); (try simp only [ByteArray.size_extract, ByteArray.size_append, show (⟨#[97, 98, 99]⟩ : ByteArray).size = 3 from rfl, show (⟨#[88, 89, 90]⟩ : ByteArray).size = 3 from rfl, show (⟨#[61]⟩ : ByteArray).size = 1 from rfl] at *); omega)]; done)
                      rotate_left
                      · simp only [Act.put, List.setIfInBounds_toArray, List.set_cons_zero, List.set_cons_succ, i64_w, i32_w]
                        rfl
                      refine take_ (i := 6) (N := some 22) (v := ?_) (a' := ?_) #[true, true, true, true, true, true, true, true, false, false, false, false, false, false] rfl rfl (take_ofW HT_.out HW_.out (by kernel_rfl)) (fun _ _ _ h => h) (Or.inl ⟨by rfl, ?_⟩) hHeld ?_ ?_
                      rotate_left
                      · rintro w' ⟨s0, s1, s2⟩
                        go_simp
                        first | with_reducible rfl | (rw [if_neg (by omega)]; done) | (rw [if_neg (by (try simp only [decide_eq_true_eq, decide_eq_false_iff_not, eq_iff_iff, iff_true, iff_false] at *); (try simp only [ByteArray.size_extract, ByteArray.size_append, show (⟨#[97, 98, 99]⟩ : ByteArray).size = 3 from rfl, show (⟨#[88, 89, 90]⟩ : ByteArray).size = 3 from rfl, show (⟨#[61]⟩ : ByteArray).size = 1 from rfl] at *); omega)]; done)
                      rotate_left
                      · simp only [Act.put, List.setIfInBounds_toArray, List.set_cons_zero, List.set_cons_succ, i64_w, i32_w]
                        rfl
                      refine take_ (i := 8) (N := some 24) (v := ?_) (a' := ?_) #[true, true, true, true, true, true, true, true, true, false, false, false, false, false] rfl rfl (take_ofW HT_.out HW_.out (by kernel_rfl)) (fun _ _ _ h => h) (Or.inl ⟨by rfl, ?_⟩) hHeld ?_ ?_
                      rotate_left
                      · rintro w' ⟨s0, s1, s2⟩
                        go_simp
                        first | with_reducible rfl | (rw [if_neg (by omega)]; done) | (rw [if_neg (by (try simp only [decide_eq_true_eq, decide_eq_false_iff_not, eq_iff_iff, iff_true, iff_false] at *); (try simp only [ByteArray.size_extract, ByteArray.size_append, show (⟨#[97, 98, 99]⟩ : ByteArray).size = 3 from rfl, show (⟨#[88, 89, 90]⟩ : ByteArray).size = 3 from rfl, show (⟨#[61]⟩ : ByteArray).size = 1 from rfl] at *); omega)]; done)
                      rotate_left
                      · simp only [Act.put, List.setIfInBounds_toArray, List.set_cons_zero, List.set_cons_succ, i64_w, i32_w]
                        rfl
                      refine one_ (i := 9) (N := some 25) #[true, true, true, true, true, true, true, true, true, true, false, false, false, false] rfl rfl (one_of HT_.out (by kernel_rfl)) (by decide) (fun K hK => ?_)
                      refine goes_ Try.func26 (by kernel_rfl) rfl #[.agg #[.string a0_0, .string a0_1, .string a0_2], .int .u8 (bt (⟨#[88, 89, 90]⟩ : ByteArray) x8_1)] (by rfl) rfl rfl (by (try simp only [List.map_toArray, List.map_cons, List.map_nil]); first | done | rfl | (simp only [List.length_drop, List.length_take]; rfl)) ?_
                      with_reducible refine (impl_ValueOf.calls a0_0 a0_1 a0_2 (bt (⟨#[88, 89, 90]⟩ : ByteArray) x8_1) t9007 _ A16.out).mono ?_
                      rintro e w20 ⟨rfl, hb⟩
                      refine ⟨_, rfl, ?_⟩
                      have n0_ := Aside0.mk (Kd.R_below (by (with_reducible repeat (first | apply Kd.R_alloc | apply Kd.R_drewN | apply Kd.R_drew)); exact HO_5.out) hb)
                      have n1_ := Aside0.mk (blk_below (g := gb9001) (o := .cells #[.string a0_0, .string a0_1, .string a0_2] 26 (0, 0)) (by (with_reducible repeat (first | refine blk_drewN ?_ _ | refine blk_drew ?_ | refine blk_alloc ?_ _)); exact BK9001.out) hb)
                      have n2_ := Aside0.mk (below_step (by repeat (first | (with_reducible first | exact HB.out | apply below_alloc | apply pw_below_drewN | apply below_drew1 | refine below_set ?_ GE9001.out) | exact HB.out)) hb)
                      clear HO_5
                      clear BK9001
                      clear HB
                      have HO_5 := n0_
                      have BK9001 := n1_
                      have HB := n2_
                      clear n0_ n1_ n2_
                      (try clear hb)
                      (try clear hb2)
                      (try clear hk)
                      (try clear hi)
                      refine hK.out _ _ ⟨(blk_cell BK9001.out 0).trans rfl, (blk_cell BK9001.out 1).trans rfl, (blk_cell BK9001.out 2).trans rfl⟩ (fun hHeld => ?_)
                      clear hK K
                      refine norm_ (a' := ?_) ?_ ?_
                      rotate_left
                      · show Act.put _ (some 25) _ = _
                        simp only [Act.put, List.setIfInBounds_toArray, List.set_cons_zero, List.set_cons_succ, i64_w, i32_w]
                        rfl
                      refine pure_ (i := 10) (N := some 26) (v := ?_) (a' := ?_) #[true, true, true, true, true, true, true, true, true, true, true, false, false, false] rfl rfl (any_of HT_.out (by kernel_rfl)) (fun _ _ _ h => h) (Or.inl ⟨by rfl, ?_⟩) ?_ ?_
                      rotate_left
                      · intro w'
                        go_simp
                        first | with_reducible rfl | (rw [if_neg (by omega)]; done) | (rw [if_neg (by (try simp only [decide_eq_true_eq, decide_eq_false_iff_not, eq_iff_iff, iff_true, iff_false] at *); (try simp only [ByteArray.size_extract, ByteArray.size_append, show (⟨#[97, 98, 99]⟩ : ByteArray).size = 3 from rfl, show (⟨#[88, 89, 90]⟩ : ByteArray).size = 3 from rfl, show (⟨#[61]⟩ : ByteArray).size = 1 from rfl] at *); omega)]; done)
                      rotate_left
                      · simp only [Act.put, List.setIfInBounds_toArray, List.set_cons_zero, List.set_cons_succ, i64_w, i32_w]
                        rfl
                      refine one_ (i := 11) (N := some 27) #[true, true, true, true, true, true, true, true, true, true, true, true, false, false] rfl rfl (one_of HT_.out (by kernel_rfl)) (by decide) (fun K hK => ?_)
                      refine value_ (w1 := ?_) (v := ?_) (by rfl) rfl ?_ ?_
                      rotate_left 2
                      · go_simp
                        constructor
                        · rfl
                        · rfl
                      refine hK.out _ _ ⟨(blk_cell (blk_alloc BK9001.out _) 0).trans rfl, (blk_cell (blk_alloc BK9001.out _) 1).trans rfl, (blk_cell (blk_alloc BK9001.out _) 2).trans rfl⟩ (fun hHeld => ?_)
                      clear hK K
                      refine norm_ (a' := ?_) ?_ ?_
                      rotate_left
                      · show Act.put _ (some 27) _ = _
                        simp only [Act.put, List.setIfInBounds_toArray, List.set_cons_zero, List.set_cons_succ, i64_w, i32_w]
                        rfl
                      refine one_ (i := 12) (N := some 28) #[true, true, true, true, true, true, true, true, true, true, true, true, true, false] rfl rfl (one_of HT_.out (by kernel_rfl)) (by decide) (fun K hK => ?_)
                      refine Kd.R_append_step Kd.string (w0 := w) w.heap.size (by rfl) (.tmp 16) (.tmp 27) 50 9 (.string ⟨#[]⟩) 16 rfl Try.underlying50 info9 rfl (by decide) (by omega) u5 x5_1 ((((⟨#[88, 89, 90]⟩ : ByteArray).extract (x8_1 : Int).toNat ((wrap64 (x8_1 + 1)) : Int).toNat) ++ (⟨#[61]⟩ : ByteArray)) ++ t9007) [.string ((((⟨#[88, 89, 90]⟩ : ByteArray).extract (x8_1 : Int).toNat ((wrap64 (x8_1 + 1)) : Int).toNat) ++ (⟨#[61]⟩ : ByteArray)) ++ t9007)] (fun _ => True) (fun _ => False) rfl rfl ?aP (fun _ hk => hk.elim) ?aF ?aO ?aB ?aS ?aL ?_
                      (case aP => exact rfl)
                      (case aB => exact (by repeat (first | (with_reducible first | exact HB.out | apply below_alloc | apply pw_below_drewN | apply below_drew1 | refine below_set ?_ GE9001.out) | exact HB.out)))
                      (case aF => exact (fun _ _ => trivial))
                      (case aO => exact (by (with_reducible repeat (first | apply Kd.R_alloc | apply Kd.R_drewN | apply Kd.R_drew)); exact HO_5.out))
                      (case aS => exact (below_size (by repeat (first | (with_reducible first | exact HB.out | apply below_alloc | apply pw_below_drewN | apply below_drew1 | refine below_set ?_ GE9001.out) | exact HB.out))))
                      (case aL => have := LMc18.out; omega)
                      intro v9009 w21 ho hb hg hat
                      rw [← Ny9008.out] at ho
                      have n0_ := Aside0.mk (blk_grown (g := gb9001) (o := .cells #[.string a0_0, .string a0_1, .string a0_2] 26 (0, 0)) (by (with_reducible repeat (first | refine blk_drewN ?_ _ | refine blk_drew ?_ | refine blk_alloc ?_ _)); exact BK9001.out) hg (Kd.R_ne HO_5.out BK9001.out (by decide)))
                      have n1_ := Aside0.mk (hb)
                      have n2_ := Aside0.mk (ho)
                      clear BK9001
                      clear HB
                      clear HO_5
                      have BK9001 := n0_
                      have HB := n1_
                      have HO9010 := n2_
                      clear n0_ n1_ n2_
                      clear ho hb hg hat
                      refine hK.out _ _ ⟨(blk_cell BK9001.out 0).trans rfl, (blk_cell BK9001.out 1).trans rfl, (blk_cell BK9001.out 2).trans rfl⟩ (fun hHeld => ?_)
                      clear hK K
                      refine norm_ (a' := ?_) ?_ ?_
                      rotate_left
                      · show Act.put _ (some 28) _ = _
                        simp only [Act.put, List.setIfInBounds_toArray, List.set_cons_zero, List.set_cons_succ, i64_w, i32_w]
                        rfl
                      refine pure_ (i := 13) (N := some 5) (v := ?_) (a' := ?_) #[true, true, true, true, true, true, true, true, true, true, true, true, true, true] rfl rfl (any_of HT_.out (by kernel_rfl)) (fun _ _ _ h => h) (Or.inl ⟨by rfl, ?_⟩) ?_ ?_
                      rotate_left
                      · intro w'
                        go_simp
                        first | with_reducible rfl | (rw [if_neg (by omega)]; done) | (rw [if_neg (by (try simp only [decide_eq_true_eq, decide_eq_false_iff_not, eq_iff_iff, iff_true, iff_false] at *); (try simp only [ByteArray.size_extract, ByteArray.size_append, show (⟨#[97, 98, 99]⟩ : ByteArray).size = 3 from rfl, show (⟨#[88, 89, 90]⟩ : ByteArray).size = 3 from rfl, show (⟨#[61]⟩ : ByteArray).size = 1 from rfl] at *); omega)]; done)
                      rotate_left
                      · simp only [Act.put, List.setIfInBounds_toArray, List.set_cons_zero, List.set_cons_succ, i64_w, i32_w]
                        rfl
                      refine done_ (done_of HT_.out (by kernel_rfl)) ?_
                      try go_wp2
                      go_roundg k1
                      case measure => have := HK1.out; omega
                      case rel => exact ⟨(y9008), (wrap64 (x8_1 + 1)), (by first | rfl | (simp; done) | (simp [*]; done)), H', ⟨by have := HK1.out; omega⟩, ⟨by (with_reducible repeat (first | apply Kd.R_alloc | apply Kd.R_drewN | apply Kd.R_drew)); exact HO9010.out⟩, ⟨by (with_reducible repeat (first | refine blk_drewN ?_ _ | refine blk_drew ?_ | refine blk_alloc ?_ _)); exact BK9001.out⟩, ⟨by repeat (first | (with_reducible first | exact HB.out | apply below_alloc | apply pw_below_drewN | apply below_drew1 | refine below_set ?_ GE9001.out) | exact HB.out)⟩⟩
                    · rw [if_neg c18] at H
                      exact absurd H (by simp)
                  · rw [if_neg c17] at H
                    exact absurd H (by simp)
                · rw [if_neg c14] at H
                  exact absurd H (by simp)
              · rw [if_neg c13] at H
                exact absurd H (by simp)
            · rw [if_neg c12] at H
              exact absurd H (by simp)
          · rw [if_neg c10] at H
            have c10b0 : decide (0 ≤ t9006) = false := decide_eq_false c10
            clear c10
            have H' := Aside0.mk H
            clear H
            have p8 : 0 ≤ (x8_1 : Int) := of_decide_eq_true (by first | (with_reducible assumption) | assumption)
            have q8 : x8_1 < (3 : Int) := of_decide_eq_true (by first | (with_reducible assumption) | assumption)
            have hx8 := bt_at (⟨#[88, 89, 90]⟩ : ByteArray) x8_1
            replace p8 := eq_true p8
            replace q8 := eq_true q8
            go_wp2_with (first | ((with_reducible refine gate_callee (f := 25) rfl ?_); refine goesL_ (some 14) rfl rfl Try.func25 (by kernel_rfl) rfl #[.string a1, .int .u8 (bt (⟨#[88, 89, 90]⟩ : ByteArray) x8_1)] rfl (by (try simp only [List.map_toArray, List.map_cons, List.map_nil]); first | done | rfl | (simp only [List.length_drop, List.length_take]; rfl)) ?_; (with_reducible refine (strings_IndexByte.calls a1 (bt (⟨#[88, 89, 90]⟩ : ByteArray) x8_1) t9006 _ A9.out).mono ?_); rintro e w' ⟨rfl, ⟨nd, rfl⟩⟩; refine ⟨_, rfl, ?_⟩))
            go_roundg k1
            case measure => have := HK1.out; omega
            case rel => exact ⟨(x5_1), (wrap64 (x8_1 + 1)), (by first | rfl | (simp; done) | (simp [*]; done)), H', ⟨by have := HK1.out; omega⟩, ⟨by (with_reducible repeat (first | apply Kd.R_alloc | apply Kd.R_drewN | apply Kd.R_drew)); exact HO_5.out⟩, ⟨by (with_reducible repeat (first | refine blk_drewN ?_ _ | refine blk_drew ?_ | refine blk_alloc ?_ _)); exact BK9001.out⟩, ⟨by repeat (first | (with_reducible first | exact HB.out | apply below_alloc | apply pw_below_drewN | apply below_drew1 | refine below_set ?_ GE9001.out) | exact HB.out)⟩⟩
        · rw [if_neg c7] at H
          exact absurd H (by simp)
      · rw [if_neg c6] at H
        have c6b0 : decide (x8_1 < 3) = false := decide_eq_false c6
        clear c6
        replace H := Option.bind_eq_some_iff.mp H
        obtain ⟨t9005, A220, H⟩ := H
        replace H : (some t9005) = some r := H
        have A22 := Aside0.mk A220
        clear A220
        obtain rfl := Option.some.inj H
        obtain ⟨Ao23, co23, eo23⟩ := Kd.R_slice HO_5.out
        subst eo23
        go_wp2_with (first | ((with_reducible refine gate_callee (f := 27) rfl ?_); refine goesL_ (some 31) rfl rfl Try.func27 (by kernel_rfl) rfl #[.slice Ao23 x5_1.length co23, .string (⟨#[32]⟩ : ByteArray)] rfl (by (try simp only [List.map_toArray, List.map_cons, List.map_nil]); first | done | rfl | (simp only [List.length_drop, List.length_take]; rfl)) ?_; (with_reducible refine (impl_Join.calls k1 _ _ x5_1 (⟨#[32]⟩ : ByteArray) t9005 _ ?side1 ?side2 A22.out).mono ?_); (case side1 => repeat (first | exact (Kd.R_reads' HO_5.out).2.2 | (with_reducible refine Kd.C_alloc ?_ _) | (with_reducible refine Kd.C_drewN ?_ _) | (with_reducible refine Kd.C_drew ?_))); (case side2 => exact (Kd.R_reads' HO_5.out).2.1); rintro e w24 ⟨rfl, hb⟩; refine ⟨_, rfl, ?_⟩; have n0_ := Aside0.mk (Kd.R_below (by (with_reducible repeat (first | apply Kd.R_alloc | apply Kd.R_drewN | apply Kd.R_drew)); exact HO_5.out) hb); have n1_ := Aside0.mk (blk_below (g := gb9001) (o := .cells #[.string a0_0, .string a0_1, .string a0_2] 26 (0, 0)) (by (with_reducible repeat (first | refine blk_drewN ?_ _ | refine blk_drew ?_ | refine blk_alloc ?_ _)); exact BK9001.out) hb); have n2_ := Aside0.mk (below_step (by repeat (first | (with_reducible first | exact HB.out | apply below_alloc | apply pw_below_drewN | apply below_drew1 | refine below_set ?_ GE9001.out) | exact HB.out)) hb); clear HO_5; clear BK9001; clear HB; have HO_5 := n0_; have BK9001 := n1_; have HB := n2_; clear n0_ n1_ n2_; (try clear hb); (try clear hb2); (try clear hk); (try clear hi)))
        go_ret
        exact ⟨by first | rfl | (simp [errW_none, errW_some] <;> rfl) | (simp [*, errW_none, errW_some] <;> rfl), by repeat (first | (with_reducible first | exact HB.out | apply below_alloc | apply pw_below_drewN | apply below_drew1 | refine below_set ?_ GE9001.out) | exact HB.out)⟩


end Go.Proofs.Ytgllnohlocfeoaa.A


namespace Go.Proofs.Ytgllnohlocfeoaa.A
open Go.RowKit Go.Proofs.Ytgllnohlocfeoaa.Ext Go.Proofs.YtgllnohlocfeoaaW.PrintWords Go.Proofs.YtgllnohlocfeoaaW.PrintLast Go.Proofs.YtgllnohlocfeoaaW.PrintMore
attribute [local go_sem] max2_int min2_int max_two min_two max_three min_three max_four min_four   -- for this text's walks alone
set_option linter.unusedVariables false
set_option linter.unusedSimpArgs false

/-! ### laws_FnExactFormatValues: function 3 -/
def laws_FnExactFormatValues.f (k : Nat) (a0_0 : ByteArray) (a0_1 : ByteArray) (a0_2 : ByteArray) (a1 : ByteArray) : Option (Bool) := if (a1.size : Int) > 1048576 then (some true) else ((laws_szValues.f a0_0 a0_1 a0_2 1048576).bind fun t3002 => (if t3002 < 0 then (some true) else ((laws_toValues.f a0_0 a0_1 a0_2).bind fun bt3003 => ((spec_FormatValues.f k bt3003.1 bt3003.2.1 bt3003.2.2 a1).bind fun t3006 => ((laws_toValues.f a0_0 a0_1 a0_2).bind fun bt3007 => ((impl_FormatValues.f k bt3007.1 bt3007.2.1 bt3007.2.2 a1).bind fun t3010 => (if t3010.toList = t3006.toList then (some true) else (some false))))))))
theorem laws_FnExactFormatValues.mono : ∀ a0 a1 a2 a3 k, LeO (laws_FnExactFormatValues.f k a0 a1 a2 a3) (laws_FnExactFormatValues.f (k + 1) a0 a1 a2 a3) := by
  intro a0 a1 a2 a3 k
  unfold laws_FnExactFormatValues.f
  repeat' first
      | (with_reducible exact impl_FormatValues.mono _ _ _ _ _)
      | (with_reducible exact spec_FormatValues.mono _ _ _ _ _)
      | (with_reducible exact LeO.refl _)
      | (with_reducible exact LeO.none _)
      | (with_reducible refine LeO.ite ?_ ?_)
      | (with_reducible refine LeO.bind ?_ (fun _ => ?_))
      | exact impl_FormatValues.mono _ _ _ _ _
      | exact spec_FormatValues.mono _ _ _ _ _
      | exact LeO.none _
      | refine LeO.ite ?_ ?_
      | refine LeO.bind ?_ (fun _ => ?_)
set_option maxHeartbeats 8000000 in
set_option maxRecDepth 100000 in
theorem laws_FnExactFormatValues.calls (k : Nat) (a0_0 : ByteArray) (a0_1 : ByteArray) (a0_2 : ByteArray) (a1 : ByteArray) (r : Bool) (w : World) (h : laws_FnExactFormatValues.f k a0_0 a0_1 a0_2 a1 = some r) (hr_ : r = true) :
    Calls Try.prog 3 #[.agg #[.string a0_0, .string a0_1, .string a0_2], .string a1] w fun e w' => e = .returned (.bool r) ∧ Below w.heap.size w w' := by
  have HRT_ := Aside0.mk hr_
  clear hr_
  have hu23 := Try.underlying23
  have HB := Aside0.mk (Below.refl w.heap.size w)
  have H : (if (a1.size : Int) > 1048576 then (some true) else ((laws_szValues.f a0_0 a0_1 a0_2 1048576).bind fun t3002 => (if t3002 < 0 then (some true) else ((laws_toValues.f a0_0 a0_1 a0_2).bind fun bt3003 => ((spec_FormatValues.f k bt3003.1 bt3003.2.1 bt3003.2.2 a1).bind fun t3006 => ((laws_toValues.f a0_0 a0_1 a0_2).bind fun bt3007 => ((impl_FormatValues.f k bt3007.1 bt3007.2.1 bt3007.2.2 a1).bind fun t3010 => (if t3010.toList = t3006.toList then (some true) else (some false))))))))) = some r := h
  clear h
  by_cases c3 : (a1.size : Int) > 1048576
  · rw [if_pos c3] at H
    have c3b0 : decide (1048576 < (a1.size : Int)) = true := decide_eq_true c3
    have c3b1 : decide (1048576 < a1.size) = true := decide_eq_true (by omega)
    clear c3
    obtain rfl := Option.some.inj H
    go_enter Try.func3, Try.ntmps3
    go_wp2_with (first | ((with_reducible refine gate_dst (N := 2) rfl ?_); refine box_event ?hg (N := 2) ?hd (cs := #[.string a0_0, .string a0_1, .string a0_2]) (t := 23) ?hr ?_; (case hd => rfl); (case hg => rfl); (case hr => first | (go_simp; done) | (go_simp; rfl)); intro gb3001 hg w4 hbox hb; have n0_ := Aside0.mk (below_step (by repeat (first | (with_reducible first | exact HB.out | apply below_alloc | apply pw_below_drewN | apply below_drew1) | exact HB.out)) hb); have n1_ := Aside0.mk (hbox); have n2_ := Aside0.mk ((by rw [hg]; exact (below_size (by repeat (first | (with_reducible first | exact HB.out | apply below_alloc | apply pw_below_drewN | apply below_drew1) | exact HB.out))) : w.heap.size ≤ gb3001)); have n3_ := Aside0.mk ((by rw [hg]; exact (below_size (by repeat (first | (with_reducible first | exact HB.out | apply below_alloc | apply pw_below_drewN | apply below_drew1) | exact HB.out))) : w.heap.size ≤ gb3001)); clear HB; have HB := n0_; have BK3001 := n1_; have GW3001 := n2_; have GE3001 := n3_; clear n0_ n1_ n2_ n3_; clear hb hbox hg))
    go_ret
    exact ⟨by first | rfl | (simp [errW_none, errW_some] <;> rfl) | (simp [*, errW_none, errW_some] <;> rfl), by repeat (first | (with_reducible first | exact HB.out | apply below_alloc | apply pw_below_drewN | apply below_drew1 | refine below_set ?_ GE3001.out) | exact HB.out)⟩
  · rw [if_neg c3] at H
    have c3b0 : decide (1048576 < (a1.size : Int)) = false := decide_eq_false c3
    have c3b1 : decide (1048576 < a1.size) = false := decide_eq_false (by omega)
    clear c3
    replace H := Option.bind_eq_some_iff.mp H
    obtain ⟨t3002, A50, H⟩ := H
    replace H : (if t3002 < 0 then (some true) else ((laws_toValues.f a0_0 a0_1 a0_2).bind fun bt3003 => ((spec_FormatValues.f k bt3003.1 bt3003.2.1 bt3003.2.2 a1).bind fun t3006 => ((laws_toValues.f a0_0 a0_1 a0_2).bind fun bt3007 => ((impl_FormatValues.f k bt3007.1 bt3007.2.1 bt3007.2.2 a1).bind fun t3010 => (if t3010.toList = t3006.toList then (some true) else (some false))))))) = some r := H
    have A5 := Aside0.mk A50
    clear A50
    by_cases c6 : t3002 < 0
    · rw [if_pos c6] at H
      have c6b0 : decide (t3002 < 0) = true := decide_eq_true c6
      clear c6
      obtain rfl := Option.some.inj H
      go_enter Try.func3, Try.ntmps3
      go_wp2_with (first | ((with_reducible refine gate_dst (N := 2) rfl ?_); refine box_event ?hg (N := 2) ?hd (cs := #[.string a0_0, .string a0_1, .string a0_2]) (t := 23) ?hr ?_; (case hd => rfl); (case hg => rfl); (case hr => first | (go_simp; done) | (go_simp; rfl)); intro gb3001 hg w7 hbox hb; have n0_ := Aside0.mk (below_step (by repeat (first | (with_reducible first | exact HB.out | apply below_alloc | apply pw_below_drewN | apply below_drew1) | exact HB.out)) hb); have n1_ := Aside0.mk (hbox); have n2_ := Aside0.mk ((by rw [hg]; exact (below_size (by repeat (first | (with_reducible first | exact HB.out | apply below_alloc | apply pw_below_drewN | apply below_drew1) | exact HB.out))) : w.heap.size ≤ gb3001)); have n3_ := Aside0.mk ((by rw [hg]; exact (below_size (by repeat (first | (with_reducible first | exact HB.out | apply below_alloc | apply pw_below_drewN | apply below_drew1) | exact HB.out))) : w.heap.size ≤ gb3001)); clear HB; have HB := n0_; have BK3001 := n1_; have GW3001 := n2_; have GE3001 := n3_; clear n0_ n1_ n2_ n3_; clear hb hbox hg; have hcz8_0 : w7.cell? ⟨gb3001, 0, none⟩ = some (.string a0_0) := (blk_cell BK3001.out 0).trans rfl; have hcz8_1 : w7.cell? ⟨gb3001, 1, none⟩ = some (.string a0_1) := (blk_cell BK3001.out 1).trans rfl; have hcz8_2 : w7.cell? ⟨gb3001, 2, none⟩ = some (.string a0_2) := (blk_cell BK3001.out 2).trans rfl; have hfz8_0 := blk_frozen BK3001.out 0; have hfz8_1 := blk_frozen BK3001.out 1; have hfz8_2 := blk_frozen BK3001.out 2) | ((with_reducible refine gate_callee (f := 6) rfl ?_); refine goesL_ (some 13) rfl rfl Try.func6 (by kernel_rfl) rfl #[.agg #[.string a0_0, .string a0_1, .string a0_2], .int .i64 1048576] rfl (by (try simp only [List.map_toArray, List.map_cons, List.map_nil]); first | done | rfl | (simp only [List.length_drop, List.length_take]; rfl)) ?_; (with_reducible refine (laws_szValues.calls a0_0 a0_1 a0_2 1048576 t3002 _ A5.out).mono ?_); rintro e w9 ⟨rfl, hb⟩; refine ⟨_, rfl, ?_⟩; have n0_ := Aside0.mk (blk_below (g := gb3001) (o := .cells #[.string a0_0, .string a0_1, .string a0_2] 23 (0, 0)) (by (with_reducible repeat (first | refine blk_drewN ?_ _ | refine blk_drew ?_ | refine blk_alloc ?_ _)); exact BK3001.out) hb); have n1_ := Aside0.mk (below_step (by repeat (first | (with_reducible first | exact HB.out | apply below_alloc | apply pw_below_drewN | apply below_drew1 | refine below_set ?_ GE3001.out) | exact HB.out)) hb); clear BK3001; clear HB; have BK3001 := n0_; have HB := n1_; clear n0_ n1_; (try clear hb); (try clear hb2); (try clear hk); (try clear hi)))
      go_ret
      exact ⟨by first | rfl | (simp [errW_none, errW_some] <;> rfl) | (simp [*, errW_none, errW_some] <;> rfl), by repeat (first | (with_reducible first | exact HB.out | apply below_alloc | apply pw_below_drewN | apply below_drew1 | refine below_set ?_ GE3001.out) | exact HB.out)⟩
    · rw [if_neg c6] at H
      have c6b0 : decide (t3002 < 0) = false := decide_eq_false c6
      clear c6
      replace H := Option.bind_eq_some_iff.mp H
      obtain ⟨⟨t3003, t3004, t3005⟩, A100, H⟩ := H
      replace H : ((spec_FormatValues.f k t3003 t3004 t3005 a1).bind fun t3006 => ((laws_toValues.f a0_0 a0_1 a0_2).bind fun bt3007 => ((impl_FormatValues.f k bt3007.1 bt3007.2.1 bt3007.2.2 a1).bind fun t3010 => (if t3010.toList = t3006.toList then (some true) else (some false))))) = some r := H
      have A10 := Aside0.mk A100
      clear A100
      replace H := Option.bind_eq_some_iff.mp H
      obtain ⟨t3006, A110, H⟩ := H
      replace H : ((laws_toValues.f a0_0 a0_1 a0_2).bind fun bt3007 => ((impl_FormatValues.f k bt3007.1 bt3007.2.1 bt3007.2.2 a1).bind fun t3010 => (if t3010.toList = t3006.toList then (some true) else (some false)))) = some r := H
      have A11 := Aside0.mk A110
      clear A110
      replace H := Option.bind_eq_some_iff.mp H
      obtain ⟨⟨t3007, t3008, t3009⟩, A120, H⟩ := H
      replace H : ((impl_FormatValues.f k t3007 t3008 t3009 a1).bind fun t3010 => (if t3010.toList = t3006.toList then (some true) else (some false))) = some r := H
      have A12 := Aside0.mk A120
      clear A120
      replace H := Option.bind_eq_some_iff.mp H
      obtain ⟨t3010, A130, H⟩ := H
      replace H : (if t3010.toList = t3006.toList then (some true) else (some false)) = some r := H
      have A13 := Aside0.mk A130
      clear A130
      by_cases c14 : t3010.toList = t3006.toList
      · rw [if_pos c14] at H
        have c14b0 : (t3010.toList == t3006.toList) = true := beq_iff_eq.mpr c14
        have c14b1 : (t3010.toList != t3006.toList) = false := bne_eq_false_iff_eq.mpr c14
        clear c14
        obtain rfl := Option.some.inj H
        go_enter Try.func3, Try.ntmps3
        go_wp2_with (first | ((with_reducible refine gate_dst (N := 2) rfl ?_); refine box_event ?hg (N := 2) ?hd (cs := #[.string a0_0, .string a0_1, .string a0_2]) (t := 23) ?hr ?_; (case hd => rfl); (case hg => rfl); (case hr => first | (go_simp; done) | (go_simp; rfl)); intro gb3001 hg w15 hbox hb; have n0_ := Aside0.mk (below_step (by repeat (first | (with_reducible first | exact HB.out | apply below_alloc | apply pw_below_drewN | apply below_drew1) | exact HB.out)) hb); have n1_ := Aside0.mk (hbox); have n2_ := Aside0.mk ((by rw [hg]; exact (below_size (by repeat (first | (with_reducible first | exact HB.out | apply below_alloc | apply pw_below_drewN | apply below_drew1) | exact HB.out))) : w.heap.size ≤ gb3001)); have n3_ := Aside0.mk ((by rw [hg]; exact (below_size (by repeat (first | (with_reducible first | exact HB.out | apply below_alloc | apply pw_below_drewN | apply below_drew1) | exact HB.out))) : w.heap.size ≤ gb3001)); clear HB; have HB := n0_; have BK3001 := n1_; have GW3001 := n2_; have GE3001 := n3_; clear n0_ n1_ n2_ n3_; clear hb hbox hg; have hcz16_0 : w15.cell? ⟨gb3001, 0, none⟩ = some (.string a0_0) := (blk_cell BK3001.out 0).trans rfl; have hcz16_1 : w15.cell? ⟨gb3001, 1, none⟩ = some (.string a0_1) := (blk_cell BK3001.out 1).trans rfl; have hcz16_2 : w15.cell? ⟨gb3001, 2, none⟩ = some (.string a0_2) := (blk_cell BK3001.out 2).trans rfl; have hfz16_0 := blk_frozen BK3001.out 0; have hfz16_1 := blk_frozen BK3001.out 1; have hfz16_2 := blk_frozen BK3001.out 2) | ((with_reducible refine gate_callee (f := 6) rfl ?_); refine goesL_ (some 13) rfl rfl Try.func6 (by kernel_rfl) rfl #[.agg #[.string a0_0, .string a0_1, .string a0_2], .int .i64 1048576] rfl (by (try simp only [List.map_toArray, List.map_cons, List.map_nil]); first | done | rfl | (simp only [List.length_drop, List.length_take]; rfl)) ?_; (with_reducible refine (laws_szValues.calls a0_0 a0_1 a0_2 1048576 t3002 _ A5.out).mono ?_); rintro e w17 ⟨rfl, hb⟩; refine ⟨_, rfl, ?_⟩; have n0_ := Aside0.mk (blk_below (g := gb3001) (o := .cells #[.string a0_0, .string a0_1, .string a0_2] 23 (0, 0)) (by (with_reducible repeat (first | refine blk_drewN ?_ _ | refine blk_drew ?_ | refine blk_alloc ?_ _)); exact BK3001.out) hb); have n1_ := Aside0.mk (below_step (by repeat (first | (with_reducible first | exact HB.out | apply below_alloc | apply pw_below_drewN | apply below_drew1 | refine below_set ?_ GE3001.out) | exact HB.out)) hb); clear BK3001; clear HB; have BK3001 := n0_; have HB := n1_; clear n0_ n1_; (try clear hb); (try clear hb2); (try clear hk); (try clear hi); have hcz18_0 : w17.cell? ⟨gb3001, 0, none⟩ = some (.string a0_0) := (blk_cell BK3001.out 0).trans rfl; have hcz18_1 : w17.cell? ⟨gb3001, 1, none⟩ = some (.string a0_1) := (blk_cell BK3001.out 1).trans rfl; have hcz18_2 : w17.cell? ⟨gb3001, 2, none⟩ = some (.string a0_2) := (blk_cell BK3001.out 2).trans rfl; have hfz18_0 := blk_frozen BK3001.out 0; have hfz18_1 := blk_frozen BK3001.out 1; have hfz18_2 := blk_frozen BK3001.out 2) | ((with_reducible refine gate_callee (f := 8) rfl ?_); refine goesL_ (some 17) rfl rfl Try.func8 (by kernel_rfl) rfl #[.agg #[.string a0_0, .string a0_1, .string a0_2]] rfl (by (try simp only [List.map_toArray, List.map_cons, List.map_nil]); first | done | rfl | (simp only [List.length_drop, List.length_take]; rfl)) ?_; (with_reducible refine (laws_toValues.calls a0_0 a0_1 a0_2 t3003 t3004 t3005 _ A10.out).mono ?_); rintro e w19 ⟨rfl, hb⟩; refine ⟨_, rfl, ?_⟩; have n0_ := Aside0.mk (blk_below (g := gb3001) (o := .cells #[.string a0_0, .string a0_1, .string a0_2] 23 (0, 0)) (by (with_reducible repeat (first | refine blk_drewN ?_ _ | refine blk_drew ?_ | refine blk_alloc ?_ _)); exact BK3001.out) hb); have n1_ := Aside0.mk (below_step (by repeat (first | (with_reducible first | exact HB.out | apply below_alloc | apply pw_below_drewN | apply below_drew1 | refine below_set ?_ GE3001.out) | exact HB.out)) hb); clear BK3001; clear HB; have BK3001 := n0_; have HB := n1_; clear n0_ n1_; (try clear hb); (try clear hb2); (try clear hk); (try clear hi)) | ((with_reducible refine gate_callee (f := 7) rfl ?_); refine goesL_ (some 19) rfl rfl Try.func7 (by kernel_rfl) rfl #[.agg #[.string t3003, .string t3004, .string t3005], .string a1] rfl (by (try simp only [List.map_toArray, List.map_cons, List.map_nil]); first | done | rfl | (simp only [List.length_drop, List.length_take]; rfl)) ?_; (with_reducible refine (spec_FormatValues.calls k t3003 t3004 t3005 a1 t3006 _ A11.out).mono ?_); rintro e w20 ⟨rfl, hb⟩; refine ⟨_, rfl, ?_⟩; have n0_ := Aside0.mk (blk_below (g := gb3001) (o := .cells #[.string a0_0, .string a0_1, .string a0_2] 23 (0, 0)) (by (with_reducible repeat (first | refine blk_drewN ?_ _ | refine blk_drew ?_ | refine blk_alloc ?_ _)); exact BK3001.out) hb); have n1_ := Aside0.mk (below_step (by repeat (first | (with_reducible first | exact HB.out | apply below_alloc | apply pw_below_drewN | apply below_drew1 | refine below_set ?_ GE3001.out) | exact HB.out)) hb); clear BK3001; clear HB; have BK3001 := n0_; have HB := n1_; clear n0_ n1_; (try clear hb); (try clear hb2); (try clear hk); (try clear hi); have hcz21_0 : w20.cell? ⟨gb3001, 0, none⟩ = some (.string a0_0) := (blk_cell BK3001.out 0).trans rfl; have hcz21_1 : w20.cell? ⟨gb3001, 1, none⟩ = some (.string a0_1) := (blk_cell BK3001.out 1).trans rfl; have hcz21_2 : w20.cell? ⟨gb3001, 2, none⟩ = some (.string a0_2) := (blk_cell BK3001.out 2).trans rfl; have hfz21_0 := blk_frozen BK3001.out 0; have hfz21_1 := blk_frozen BK3001.out 1; have hfz21_2 := blk_frozen BK3001.out 2) | ((with_reducible refine gate_callee (f := 8) rfl ?_); refine goesL_ (some 21) rfl rfl Try.func8 (by kernel_rfl) rfl #[.agg #[.string a0_0, .string a0_1, .string a0_2]] rfl (by (try simp only [List.map_toArray, List.map_cons, List.map_nil]); first | done | rfl | (simp only [List.length_drop, List.length_take]; rfl)) ?_; (with_reducible refine (laws_toValues.calls a0_0 a0_1 a0_2 t3007 t3008 t3009 _ A12.out).mono ?_); rintro e w22 ⟨rfl, hb⟩; refine ⟨_, rfl, ?_⟩; have n0_ := Aside0.mk (blk_below (g := gb3001) (o := .cells #[.string a0_0, .string a0_1, .string a0_2] 23 (0, 0)) (by (with_reducible repeat (first | refine blk_drewN ?_ _ | refine blk_drew ?_ | refine blk_alloc ?_ _)); exact BK3001.out) hb); have n1_ := Aside0.mk (below_step (by repeat (first | (with_reducible first | exact HB.out | apply below_alloc | apply pw_below_drewN | apply below_drew1 | refine below_set ?_ GE3001.out) | exact HB.out)) hb); clear BK3001; clear HB; have BK3001 := n0_; have HB := n1_; clear n0_ n1_; (try clear hb); (try clear hb2); (try clear hk); (try clear hi)) | ((with_reducible refine gate_callee (f := 9) rfl ?_); refine goesL_ (some 23) rfl rfl Try.func9 (by kernel_rfl) rfl #[.agg #[.string t3007, .string t3008, .string t3009], .string a1] rfl (by (try simp only [List.map_toArray, List.map_cons, List.map_nil]); first | done | rfl | (simp only [List.length_drop, List.length_take]; rfl)) ?_; (with_reducible refine (impl_FormatValues.calls k t3007 t3008 t3009 a1 t3010 _ A13.out).mono ?_); rintro e w23 ⟨rfl, hb⟩; refine ⟨_, rfl, ?_⟩; have n0_ := Aside0.mk (blk_below (g := gb3001) (o := .cells #[.string a0_0, .string a0_1, .string a0_2] 23 (0, 0)) (by (with_reducible repeat (first | refine blk_drewN ?_ _ | refine blk_drew ?_ | refine blk_alloc ?_ _)); exact BK3001.out) hb); have n1_ := Aside0.mk (below_step (by repeat (first | (with_reducible first | exact HB.out | apply below_alloc | apply pw_below_drewN | apply below_drew1 | refine below_set ?_ GE3001.out) | exact HB.out)) hb); clear BK3001; clear HB; have BK3001 := n0_; have HB := n1_; clear n0_ n1_; (try clear hb); (try clear hb2); (try clear hk); (try clear hi)))
        go_ret
        exact ⟨by first | rfl | (simp [errW_none, errW_some] <;> rfl) | (simp [*, errW_none, errW_some] <;> rfl), by repeat (first | (with_reducible first | exact HB.out | apply below_alloc | apply pw_below_drewN | apply below_drew1 | refine below_set ?_ GE3001.out) | exact HB.out)⟩
      · rw [if_neg c14] at H
        have c14b0 : (t3010.toList == t3006.toList) = false := beq_eq_false_iff_ne.mpr c14
        have c14b1 : (t3010.toList != t3006.toList) = true := bne_iff_ne.mpr c14
        exact absurd ((Option.some.inj H).trans HRT_.out) (by decide)

end Go.Proofs.Ytgllnohlocfeoaa.A


namespace Go.Proofs.Ytgllnohlocfeoaa.Br
set_option linter.unusedVariables false
set_option linter.unusedSimpArgs false
open Go Go.Proofs.YtgllnohlocfeoaaW.PrintWords

/-- Whatever reads at type t, with at most n of fuel, is of kind d and well formed. -/
def BrN (P : Program) (n : Nat) (t : TypeId) {α : Type} (d : Kd α) (wf : α → Prop) : Prop :=
  ∀ (H : Type) (enc : TypeId × Value → H) (w : World) (base : Nat) (spare : Nat → Bool) (held : Bool) (m : Nat) (cs : List Value) (x : DataW H × List MemPlace),
    m ≤ n → DataW.trod enc P w base spare held m t cs = some x → ∃ a, d.K w a cs ∧ wf a
def Br (P : Program) (t : TypeId) {α : Type} (d : Kd α) (wf : α → Prop) : Prop := ∀ n, BrN P n t d wf

/-- The same of the fields of a struct, from offset o on. -/
def BF (P : Program) (n : Nat) (fs : List Field) (o : Nat) {α : Type} (d : Kd α) (wf : α → Prop) : Prop :=
  ∀ (H : Type) (enc : TypeId × Value → H) (w : World) (base : Nat) (spare : Nat → Bool) (held : Bool) (m : Nat) (cs : List Value) (xs : List (DataW H × List MemPlace)),
    m ≤ n → cs.length = d.sz → xs.length = fs.length →
    (∀ (i : Nat) (f : Field), fs[i]? = some f → DataW.trod enc P w base spare held m f.type ((cs.drop (f.offset - o)).take (P.cellsOf f.type)) = xs[i]?) → ∃ a, d.K w a cs ∧ wf a

theorem BrN.mono {P : Program} {n m : Nat} {t : TypeId} {α : Type} {d : Kd α} {wf : α → Prop} (h : BrN P n t d wf) (hm : m ≤ n) : BrN P m t d wf :=
  fun H enc w base spare held k cs x hk => h H enc w base spare held k cs x (Nat.le_trans hk hm)
theorem BrN.imp {P : Program} {n : Nat} {t : TypeId} {α : Type} {d : Kd α} {wf wf' : α → Prop} (h : BrN P n t d wf) (hi : ∀ a, wf a → wf' a) : BrN P n t d wf' :=
  fun H enc w base spare held k cs x hk hx => by
    obtain ⟨a, h1, h2⟩ := h H enc w base spare held k cs x hk hx
    exact ⟨a, h1, hi a h2⟩
theorem BrN.zero (P : Program) (t : TypeId) {α : Type} (d : Kd α) (wf : α → Prop) : BrN P 0 t d wf := by
  intro H enc w base spare held m cs x hm hx
  obtain rfl : m = 0 := by omega
  simp [DataW.trod] at hx

theorem br_string {P : Program} {t : TypeId} (ht : P.underlying t = some .string) (n : Nat) : BrN P n t Kd.string (fun s => s.size ≤ 9223372036854775807) := by
  intro H enc w base spare held m cs x _ hx
  obtain ⟨a, rfl, _, hw⟩ := DataW.trod_string ht hx
  exact ⟨a, rfl, by simpa [maxLen] using hw⟩

theorem bf_one {P : Program} {n o : Nat} {f : Field} {α : Type} {d : Kd α} {wf : α → Prop} (ho : f.offset = o) (hs : P.cellsOf f.type = d.sz) (h : BrN P n f.type d wf) : BF P n [f] o d wf := by
  intro H enc w base spare held m cs xs hm hl hx hf
  have g := hf 0 f rfl
  rw [ho, Nat.sub_self, List.drop_zero, hs, ← hl, List.take_length, List.getElem?_eq_getElem (by simp at hx; omega)] at g
  exact h H enc w base spare held m cs _ hm g
theorem bf_cons {P : Program} {n o : Nat} {f : Field} {fs : List Field} {α β : Type} {d : Kd α} {d' : Kd β} {wf : α → Prop} {wf' : β → Prop} (ho : f.offset = o) (hs : P.cellsOf f.type = d.sz) (h : BrN P n f.type d wf)
    (hfs : BF P n fs (o + d.sz) d' wf') (hle : ∀ g ∈ fs, o + d.sz ≤ g.offset) : BF P n (f :: fs) o (Kd.pair d d') (fun x => wf x.1 ∧ wf' x.2) := by
  intro H enc w base spare held m cs xs hm hl hx hf
  have hl' : cs.length = d.sz + d'.sz := hl
  have g := hf 0 f rfl
  rw [ho, Nat.sub_self, List.drop_zero, hs, List.getElem?_eq_getElem (by simp at hx; omega)] at g
  obtain ⟨a, ha, hwa⟩ := h H enc w base spare held m _ _ hm g
  cases xs with
  | nil => simp at hx
  | cons y ys =>
    obtain ⟨b, hb, hwb⟩ := hfs H enc w base spare held m (cs.drop d.sz) ys hm (by rw [List.length_drop]; omega) (by simpa using hx) (fun i q hq => by
      have g2 := hf (i + 1) q (by simpa using hq)
      have hm : q ∈ fs := List.mem_of_getElem? hq
      have := hle q hm
      rw [List.drop_drop, show d.sz + (q.offset - (o + d.sz)) = q.offset - o by omega]
      simpa using g2)
    exact ⟨(a, b), ⟨cs.take d.sz, cs.drop d.sz, (List.take_append_drop _ _).symm, ha, hb⟩, hwa, hwb⟩
theorem br_struct {P : Program} {t : TypeId} {fs : Array Field} {α : Type} {d : Kd α} {wf : α → Prop} {n : Nat} (ht : P.underlying t = some (.struct fs)) (hs : P.cellsOf t = d.sz) (h : BF P n fs.toList 0 d wf) : BrN P (n + 1) t d wf := by
  intro H enc w base spare held m cs x hm hx
  obtain ⟨xs, k, rfl, _, hl, hxs, hf⟩ := DataW.trod_struct ht hx
  exact h H enc w base spare held k cs xs (by omega) (by rw [hl, hs]) (by simpa using hxs) (fun i f hi => by simpa using hf i f (by simpa using hi))
theorem br_struct' {P : Program} {t : TypeId} {fs : Array Field} {α : Type} {d : Kd α} {wf : α → Prop} (ht : P.underlying t = some (.struct fs)) (hs : P.cellsOf t = d.sz) (h : ∀ n, BF P n fs.toList 0 d wf) (n : Nat) : BrN P n t d wf :=
  (br_struct ht hs (h n)).mono (Nat.le_succ n)
theorem arr_of {xs : Array Value} {l : List Value} (h : xs.toList = l) : xs = l.toArray := by rw [← h]

end Go.Proofs.Ytgllnohlocfeoaa.Br


namespace Go.Proofs.Ytgllnohlocfeoaa.Pure
open Go Go.RowKit Go.Proofs.Ytgllnohlocfeoaa.Br Go.Proofs.YtgllnohlocfeoaaW.PrintWords Go.Proofs.YtgllnohlocfeoaaW.PrintLast Go.Proofs.Ytgllnohlocfeoaa.A Go.Proofs.Ytgllnohlocfeoaa.Ext
set_option linter.unusedVariables false
def FnExactFormatValues.Pure : Prop := ∀ (a0_0 : ByteArray) (a0_1 : ByteArray) (a0_2 : ByteArray) (a1 : ByteArray), ((a0_0 : ByteArray).size ≤ 9223372036854775807) → ((a0_1 : ByteArray).size ≤ 9223372036854775807) → ((a0_2 : ByteArray).size ≤ 9223372036854775807) → ((a1 : ByteArray).size ≤ 9223372036854775807) → ∃ k, laws_FnExactFormatValues.f k a0_0 a0_1 a0_2 a1 = some true
end Go.Proofs.Ytgllnohlocfeoaa.Pure

namespace Go.Proofs.Ytgllnohlocfeoaa.Pl
set_option linter.unusedVariables false
set_option linter.unusedSimpArgs false
open Go.RowKit Go.Proofs.YtgllnohlocfeoaaW.PrintWords

/-- From some number of rounds on, it answers r. -/
def Evt {α : Type} (g : Nat → Option α) (r : α) : Prop := ∃ K, ∀ k, K ≤ k → g k = some r
section
variable {α β : Type}
theorem Evt.const {g : Option α} {r : α} (h : g = some r) : Evt (fun _ => g) r := ⟨0, fun _ _ => h⟩
theorem Evt.ret (r : α) : Evt (fun _ => some r) r := Evt.const rfl
theorem Evt.bind {g : Nat → Option α} {f : Nat → α → Option β} {a : α} {r : β} (hg : Evt g a) (hf : Evt (fun k => f k a) r) : Evt (fun k => (g k).bind (f k)) r := by
  obtain ⟨K, hK⟩ := hg
  obtain ⟨L, hL⟩ := hf
  exact ⟨max K L, fun k hk => by show (g k).bind (f k) = some r; rw [hK k (by omega)]; exact hL k (by omega)⟩
theorem Evt.bindc {g : Option α} {f : Nat → α → Option β} {a : α} {r : β} (hg : g = some a) (hf : Evt (fun k => f k a) r) : Evt (fun k => g.bind (f k)) r := Evt.bind (Evt.const hg) hf
theorem Evt.step {g : Nat → Option α} {r : α} (h : Evt (fun k => g (k + 1)) r) : Evt g r := by
  obtain ⟨K, hK⟩ := h
  exact ⟨K + 1, fun k hk => by
    obtain ⟨m, rfl⟩ : ∃ m, k = m + 1 := ⟨k - 1, by omega⟩
    exact hK m (by omega)⟩
theorem Evt.pos {c : Prop} [Decidable c] {t e : Nat → Option α} {r : α} (h : c) (ht : Evt t r) : Evt (fun k => if c then t k else e k) r := by
  obtain ⟨K, hK⟩ := ht
  exact ⟨K, fun k hk => (if_pos h).trans (hK k hk)⟩
theorem Evt.neg {c : Prop} [Decidable c] {t e : Nat → Option α} {r : α} (h : ¬ c) (ht : Evt e r) : Evt (fun k => if c then t k else e k) r := by
  obtain ⟨K, hK⟩ := ht
  exact ⟨K, fun k hk => (if_neg h).trans (hK k hk)⟩
theorem Evt.ite {c : Prop} [Decidable c] {t e : Nat → Option α} {x y : α} (ht : c → Evt t x) (he : ¬ c → Evt e y) : Evt (fun k => if c then t k else e k) (if c then x else y) := by
  by_cases h : c
  · rw [if_pos h]; exact Evt.pos h (ht h)
  · rw [if_neg h]; exact Evt.neg h (he h)
theorem Evt.get {g : Nat → Option α} {r : α} (h : Evt g r) : ∃ k, g k = some r := by
  obtain ⟨K, hK⟩ := h
  exact ⟨K, hK K (Nat.le_refl _)⟩
theorem Evt.of_eq {g g' : Nat → Option α} {r : α} (h : ∀ k, g k = g' k) (h' : Evt g' r) : Evt g r := by
  obtain ⟨K, hK⟩ := h'
  exact ⟨K, fun k hk => by rw [h]; exact hK k hk⟩
theorem Evt.cast {g : Nat → Option α} {r r' : α} (h : Evt g r) (e : r = r') : Evt g r' := e ▸ h
/-- A loop that counts up from 0 to n: what it answers at i is R i. -/
theorem Evt.up (l : Nat → Int → Option α) (n : Nat) (R : Nat → α) (hend : Evt (fun k => l k (n : Int)) (R n))
    (hstep : ∀ i : Nat, i < n → Evt (fun k => l k ((i + 1 : Nat) : Int)) (R (i + 1)) → Evt (fun k => l k (i : Int)) (R i)) : Evt (fun k => l k 0) (R 0) := by
  have h : ∀ d i : Nat, i + d = n → Evt (fun k => l k (i : Int)) (R i) := by
    intro d
    induction d with
    | zero => intro i hi; obtain rfl : i = n := by omega
              exact hend
    | succ d ih => intro i hi; exact hstep i (by omega) (ih (i + 1) (by omega))
  exact h n 0 (by omega)
end

theorem w64 {x : Int} (h : -9223372036854775808 ≤ x) (h' : x ≤ 9223372036854775807) : wrap64 x = x := by unfold wrap64; omega
/-- The counter's next value. -/
theorem w64s {i : Nat} (h : i < 9223372036854775807) : wrap64 ((i : Int) + 1) = ((i + 1 : Nat) : Int) := by
  rw [w64 (by omega) (by omega)]; omega

theorem bt0 (s : ByteArray) (i : Int) : 0 ≤ bt s i := (bt_range s i).1
theorem bt255 (s : ByteArray) (i : Int) : bt s i ≤ 255 := (bt_range s i).2
theorem bt_get (s : ByteArray) (i : Nat) (h : i < (bytesOf s).length) : bt s (i : Int) = (bytesOf s)[i] := by
  rw [← rd_bytesOf]
  simp [rd, h]
theorem bytesOf_inj {s t : ByteArray} (h : bytesOf s = bytesOf t) : s = t := by
  have h1 : s.data.toList = t.data.toList := by
    refine List.map_inj_right (f := fun b : UInt8 => (b.toNat : Int)) (fun x y hxy => ?_) |>.1 h
    exact UInt8.toNat_inj.1 (Int.ofNat_inj.1 hxy)
  cases s; cases t
  simp only [ByteArray.mk.injEq]
  exact Array.toList_inj.1 h1
theorem toList_eq_iff (s t : ByteArray) : s.toList = t.toList ↔ s = t := by
  rw [Lib.toList_data, Lib.toList_data]
  constructor
  · intro h
    cases s; cases t
    simp only [ByteArray.mk.injEq]
    exact Array.toList_inj.1 h
  · rintro rfl; rfl
theorem toList_nil_iff (s : ByteArray) : s.toList = ([] : List UInt8) ↔ s.size = 0 := by
  rw [Lib.toList_data, ← data_length, List.length_eq_zero_iff]
theorem mem_bytes (s : ByteArray) {c : Int} (h : c ∈ bytesOf s) : 0 ≤ c ∧ c ≤ 255 := by
  unfold bytesOf at h
  obtain ⟨b, _, rfl⟩ := List.mem_map.1 h
  have := b.toNat_lt
  omega
theorem bytesOf_append (s t : ByteArray) : bytesOf (s ++ t) = bytesOf s ++ bytesOf t := by
  simp [bytesOf, ByteArray.data_append]
theorem bytesOf_extract (s : ByteArray) (a b : Nat) : bytesOf (s.extract a b) = ((bytesOf s).drop a).take (b - a) := by
  have h := Lib.extract_toList s a b
  rw [Lib.toList_data] at h
  unfold bytesOf
  rw [h, List.map_take, List.map_drop]
theorem bytesOf_tail (s : ByteArray) (a : Nat) : bytesOf (s.extract a s.size) = (bytesOf s).drop a := by
  rw [bytesOf_extract, List.take_of_length_le]
  rw [List.length_drop, bytesOf_length]
  exact Nat.le_refl _

/-- A letter's number. -/
def ltI (c : Int) : Int := if 97 = c then 0 else if 98 = c then 1 else if 99 = c then 2 else -1
def varI (c : Int) : Int := if 88 = c then 0 else if 89 = c then 1 else if 90 = c then 2 else -1
def isVr (c : Int) : Bool := decide (88 ≤ c ∧ c ≤ 90)
theorem ix_abc : ∀ n : Nat, n < 256 → Lib.indexByte [97, 98, 99] n.toUInt8 = ltI (n : Int) := by decide +kernel
theorem ix_XYZ : ∀ n : Nat, n < 256 → Lib.indexByte [88, 89, 90] n.toUInt8 = varI (n : Int) := by decide +kernel
theorem varI_isVar (c : Int) : decide (varI c ≥ 0) = isVr c := by
  unfold varI isVr
  split
  · subst_vars; rfl
  · split
    · subst_vars; rfl
    · split
      · subst_vars; rfl
      · simp; omega
theorem ltI_nonneg (c : Int) : 0 ≤ ltI c ↔ (97 ≤ c ∧ c ≤ 99) := by
  unfold ltI
  split
  · subst_vars; simp
  · split
    · subst_vars; simp
    · split
      · subst_vars; simp
      · simp; omega
theorem ltI_le (c : Int) : ltI c ≤ 2 := by
  unfold ltI
  repeat' split
  all_goals omega
theorem ltI_ge (c : Int) : -1 ≤ ltI c := by
  unfold ltI
  repeat' split
  all_goals omega
theorem bt_abc0 : bt (⟨#[97, 98, 99]⟩ : ByteArray) 0 = 97 := by decide
theorem bt_abc1 : bt (⟨#[97, 98, 99]⟩ : ByteArray) 1 = 98 := by decide
theorem bt_abc2 : bt (⟨#[97, 98, 99]⟩ : ByteArray) 2 = 99 := by decide
theorem bt_XYZ0 : bt (⟨#[88, 89, 90]⟩ : ByteArray) 0 = 88 := by decide
theorem bt_XYZ1 : bt (⟨#[88, 89, 90]⟩ : ByteArray) 1 = 89 := by decide
theorem bt_XYZ2 : bt (⟨#[88, 89, 90]⟩ : ByteArray) 2 = 90 := by decide
theorem w64_a : wrap64 1 = 1 := by unfold wrap64; omega
theorem w64_b : wrap64 2 = 2 := by unfold wrap64; omega
theorem w64_c : wrap64 3 = 3 := by unfold wrap64; omega
theorem w64_1 : wrap64 (0 + 1) = 1 := by unfold wrap64; omega
theorem w64_2 : wrap64 (1 + 1) = 2 := by unfold wrap64; omega
theorem w64_3 : wrap64 (2 + 1) = 3 := by unfold wrap64; omega

theorem indexByte_nonneg (l : List UInt8) (c : UInt8) : 0 ≤ Lib.indexByte l c ↔ c ∈ l := by
  induction l with
  | nil => simp [Lib.indexByte]
  | cons b l ih =>
    unfold Lib.indexByte
    by_cases h : b = c
    · subst h; simp
    · have hb : (b == c) = false := by simpa using h
      rw [hb]
      have hge := Lib.indexByte_ge l c
      by_cases h2 : Lib.indexByte l c = -1
      · simp only [h2]
        simp
        refine ⟨fun e => h e.symm, fun hm => ?_⟩
        have := ih.2 hm
        omega
      · have h3 : (Lib.indexByte l c == -1) = false := by simpa using h2
        rw [h3]
        simp
        constructor
        · intro _; exact .inr (ih.1 (by omega))
        · rintro (e | hm)
          · exact absurd e.symm h
          · have := ih.2 hm; omega
theorem mem_data (s : ByteArray) (n : Nat) (hn : n < 256) : n.toUInt8 ∈ s.data.toList ↔ (n : Int) ∈ bytesOf s := by
  unfold bytesOf
  rw [List.mem_map]
  constructor
  · intro h
    exact ⟨_, h, by simp [Nat.mod_eq_of_lt hn]⟩
  · rintro ⟨b, hb, e⟩
    have e2 : b.toNat = n := by omega
    subst e2
    simpa using hb
theorem w64_sub {a : Int} {n : Nat} (ha : -1 ≤ a) (ha' : a ≤ 1048576) (hn : n ≤ 9223372036854775807) : wrap64 (a - (n : Int)) = a - (n : Int) := w64 (by omega) (by omega)
end Go.Proofs.Ytgllnohlocfeoaa.Pl

namespace Go.Proofs.Ytgllnohlocfeoaa.F
set_option linter.unusedVariables false
set_option linter.unusedSimpArgs false
open Go Go.RowKit Go.Proofs.YtgllnohlocfeoaaW.PrintWords Go.Proofs.Ytgllnohlocfeoaa.Pl Go.Proofs.Ytgllnohlocfeoaa.A Go.Proofs.Ytgllnohlocfeoaa.Ext

def nmB (l : List UInt8) : List Int := l.map fun b => (b.toNat : Int)
theorem strOfNums_nmB (l : List UInt8) : strOfNums (nmB l) = ⟨l.toArray⟩ := by
  simp [strOfNums, nmB, List.map_map, Function.comp_def]
/-- What is there, then each further string behind a separator; none if it gets too long. -/
def jn (s : ByteArray) : List ByteArray → Bool → List Int → Option (List Int)
  | [], _, acc => some acc
  | x :: l, fst, acc =>
    if ((if fst = true then acc else acc ++ bytesOf s) ++ bytesOf x).length > 1048576 then none else jn s l false ((if fst = true then acc else acc ++ bytesOf s) ++ bytesOf x)
def outJ (o : Option (List Int)) : ByteArray := match o with | some a => strOfNums a | none => (⟨#[]⟩ : ByteArray)
def joinP (l : List ByteArray) (s : ByteArray) : ByteArray := outJ (jn s l true [])
theorem jn_tail (s : ByteArray) (l : List ByteArray) : ∀ (acc a : List Int), acc.length ≤ 1048576 → jn s l false acc = some a → a = acc ++ nmB (Lib.joinTail s.data.toList (l.map (·.data.toList))) ∧ a.length ≤ 1048576 := by
  induction l with
  | nil =>
    intro acc a ha h
    simp only [jn, Option.some.injEq] at h
    subst h
    exact ⟨by simp [Lib.joinTail, nmB], ha⟩
  | cons x l ih =>
    intro acc a ha h
    simp only [jn, Bool.false_eq_true, if_false] at h
    split at h
    · cases h
    · next hl =>
      obtain ⟨h1, h2⟩ := ih _ _ (by omega) h
      refine ⟨?_, h2⟩
      rw [h1]
      simp [Lib.joinTail, nmB, bytesOf]
theorem jn_all (s : ByteArray) (l : List ByteArray) (a : List Int) (h : jn s l true [] = some a) : a = nmB (Lib.join (l.map (·.data.toList)) s.data.toList) ∧ a.length ≤ 1048576 := by
  cases l with
  | nil =>
    simp only [jn, Option.some.injEq] at h
    subst h
    exact ⟨rfl, by decide⟩
  | cons x l =>
    simp only [jn, if_true, List.nil_append] at h
    split at h
    · cases h
    · next hl =>
      obtain ⟨h1, h2⟩ := jn_tail s l _ _ (by omega) h
      refine ⟨?_, h2⟩
      rw [h1, List.map_cons, Lib.join_cons]
      simp [nmB, bytesOf]
theorem jn_strings (s : ByteArray) (l : List ByteArray) (hl : l.length ≤ 1048576) (a : List Int) (h : jn s l true [] = some a) : strings_Join.f l s = some (strOfNums a) := by
  obtain ⟨h1, h2⟩ := jn_all s l a h
  have h3 : (Lib.join (l.map (·.data.toList)) s.data.toList).length ≤ 1048576 := by
    rw [h1] at h2
    simpa [nmB] using h2
  unfold strings_Join.f
  rw [if_pos ⟨by omega, by omega⟩, h1, strOfNums_nmB]
  rfl
theorem rdS_at (l : List ByteArray) (i : Nat) (h : i < l.length) : rdOf ByteArray.empty l (i : Int) = l[i] := by simp [rdOf, h]
theorem spec_Join_ev (l : List ByteArray) (s : ByteArray) (hl : l.length ≤ 1048576) (hs : s.size ≤ 1048576) (hx : ∀ x ∈ l, x.size ≤ 2097152) : Evt (fun k => spec_Join.f k l s) (joinP l s) := by
  have hh : ∀ d i : Nat, i + d = l.length → ∀ acc : List Int, acc.length ≤ 1048576 → Evt (fun k => spec_Join.l0 k l s acc (i : Int)) (outJ (jn s (l.drop i) (decide (i = 0)) acc)) := by
    intro d
    induction d with
    | zero =>
      intro i hi acc ha
      refine Evt.step ?_
      simp only [spec_Join.l0]
      rw [List.drop_of_length_le (by omega)]
      exact Evt.neg (by omega) (Evt.ret _)
    | succ d ih =>
      intro i hi acc ha
      have hi' : i < l.length := by omega
      have hxi := hx _ (List.getElem_mem hi')
      refine Evt.step ?_
      simp only [spec_Join.l0]
      rw [List.drop_eq_getElem_cons hi', rdS_at l i hi', w64s (by omega)]
      simp only [jn]
      refine Evt.pos (by omega) ?_
      by_cases h0 : i = 0
      · have hd : decide (i = 0) = true := by simpa using h0
        simp only [if_pos hd]
        refine Evt.neg (by omega) (Evt.pos (by omega) (Evt.pos (by omega) (Evt.bindc rfl ?_)))
        have hn := ih (i + 1) (by omega) (acc ++ bytesOf l[i])
        by_cases hc : (acc ++ bytesOf l[i]).length > 1048576
        · rw [if_pos hc]
          exact Evt.pos (by omega) (Evt.ret _)
        · rw [if_neg hc]
          exact Evt.neg (by omega) (hn (by omega))
      · have hd : ¬ (decide (i = 0) = true) := by simpa using h0
        simp only [if_neg hd]
        refine Evt.pos (by omega) (Evt.pos (by omega) (Evt.bindc rfl (Evt.pos (by omega) (Evt.pos (by rw [List.length_append, bytesOf_length]; omega) (Evt.bindc rfl ?_)))))
        have hn := ih (i + 1) (by omega) (acc ++ bytesOf s ++ bytesOf l[i])
        by_cases hc : (acc ++ bytesOf s ++ bytesOf l[i]).length > 1048576
        · rw [if_pos hc]
          exact Evt.pos (by omega) (Evt.ret _)
        · rw [if_neg hc]
          exact Evt.neg (by omega) (hn (by omega))
  exact hh l.length 0 (by omega) [] (by simp)
theorem impl_Join_ev (l : List ByteArray) (s : ByteArray) (hl : l.length ≤ 1048576) (hs : s.size ≤ 1048576) (hx : ∀ x ∈ l, x.size ≤ 2097152) : Evt (fun k => impl_Join.f k l s) (joinP l s) := by
  have hh : ∀ d i : Nat, i + d = l.length → ∀ acc : List Int, acc.length ≤ 1048576 → (∀ a, jn s (l.drop i) (decide (i = 0)) acc = some a → jn s l true [] = some a) → Evt (fun k => impl_Join.l0 k l s (acc.length : Int) l (l.length : Int) (i : Int)) (outJ (jn s (l.drop i) (decide (i = 0)) acc)) := by
    intro d
    induction d with
    | zero =>
      intro i hi acc ha hg
      refine Evt.step ?_
      simp only [impl_Join.l0]
      rw [List.drop_of_length_le (by omega)] at hg ⊢
      refine Evt.neg (by omega) (Evt.bindc (jn_strings s l hl acc (hg acc rfl)) (Evt.ret _))
    | succ d ih =>
      intro i hi acc ha hg
      have hi' : i < l.length := by omega
      have hxi := hx _ (List.getElem_mem hi')
      refine Evt.step ?_
      simp only [impl_Join.l0]
      rw [List.drop_eq_getElem_cons hi'] at hg ⊢
      rw [rdS_at l i hi', w64s (by omega)]
      simp only [jn] at hg ⊢
      refine Evt.pos (by omega) (Evt.pos (by omega) (Evt.pos (by omega) ?_))
      by_cases h0 : i = 0
      · have hd : decide (i = 0) = true := by simpa using h0
        simp only [if_pos hd] at hg ⊢
        refine Evt.neg (by omega) ?_
        have hn := ih (i + 1) (by omega) (acc ++ bytesOf l[i])
        have hq : wrap64 ((acc.length : Int) + (l[i].size : Int)) = ((acc ++ bytesOf l[i]).length : Int) := by
          rw [w64 (by omega) (by omega), List.length_append, bytesOf_length]
          omega
        rw [hq]
        by_cases hc : (acc ++ bytesOf l[i]).length > 1048576
        · rw [if_pos hc]
          exact Evt.pos (by omega) (Evt.ret _)
        · rw [if_neg hc] at hg ⊢
          exact Evt.neg (by omega) (hn (by omega) hg)
      · have hd : ¬ (decide (i = 0) = true) := by simpa using h0
        simp only [if_neg hd] at hg ⊢
        refine Evt.pos (by omega) ?_
        have hn := ih (i + 1) (by omega) (acc ++ bytesOf s ++ bytesOf l[i])
        have hq : wrap64 (wrap64 ((acc.length : Int) + (s.size : Int)) + (l[i].size : Int)) = ((acc ++ bytesOf s ++ bytesOf l[i]).length : Int) := by
          rw [w64 (x := (acc.length : Int) + (s.size : Int)) (by omega) (by omega), w64 (by omega) (by omega), List.length_append, List.length_append, bytesOf_length, bytesOf_length]
          omega
        rw [hq]
        by_cases hc : (acc ++ bytesOf s ++ bytesOf l[i]).length > 1048576
        · rw [if_pos hc]
          exact Evt.pos (by omega) (Evt.ret _)
        · rw [if_neg hc] at hg ⊢
          exact Evt.neg (by omega) (hn (by omega) hg)
  exact hh l.length 0 (by omega) [] (by simp) (fun a h => h)

end Go.Proofs.Ytgllnohlocfeoaa.F


namespace Go.Proofs.Ytgllnohlocfeoaa.F
set_option linter.unusedVariables false
set_option linter.unusedSimpArgs false
open Go.RowKit Go.Proofs.YtgllnohlocfeoaaW.PrintWords Go.Proofs.Ytgllnohlocfeoaa.Pl Go.Proofs.Ytgllnohlocfeoaa.A Go.Proofs.Ytgllnohlocfeoaa.Ext

/-- How often a byte occurs. -/
def cntB (l : List Int) (c : Int) : Nat := l.count c
theorem spec_CountByte_ev (s : ByteArray) (c : Int) (hs : s.size ≤ 9223372036854775807) : Evt (fun k => spec_CountByte.f k s c) ((cntB (bytesOf s) c : Nat) : Int) := by
  have h : ∀ d i n : Nat, i + d = s.size → n ≤ i → Evt (fun k => spec_CountByte.l0 k s c (n : Int) (i : Int)) (((n + cntB ((bytesOf s).drop i) c : Nat)) : Int) := by
    intro d
    induction d with
    | zero =>
      intro i n hi hn
      refine Evt.step ?_
      simp only [spec_CountByte.l0]
      rw [List.drop_of_length_le (by rw [bytesOf_length]; omega)]
      exact Evt.neg (by omega) (Evt.const (by simp [cntB]))
    | succ d ih =>
      intro i n hi hn
      refine Evt.step ?_
      simp only [spec_CountByte.l0]
      have hl : i < (bytesOf s).length := by rw [bytesOf_length]; omega
      rw [List.drop_eq_getElem_cons hl, ← bt_get s i hl, w64s (i := i) (by omega), w64s (i := n) (by omega)]
      refine Evt.pos (by omega) (Evt.pos (by omega) ?_)
      by_cases hc : bt s i = c
      · exact Evt.pos hc ((ih (i + 1) (n + 1) (by omega) (by omega)).cast (by simp [cntB, hc]; omega))
      · exact Evt.neg hc ((ih (i + 1) n (by omega) (by omega)).cast (by simp [cntB, hc]))
  have := h s.size 0 0 (by omega) (by omega)
  simpa [spec_CountByte.f] using this
theorem cntB_pos (l : List Int) (c : Int) : ((cntB l c : Nat) : Int) > 0 ↔ c ∈ l := by
  unfold cntB
  rw [show (((l.count c : Nat) : Int) > 0) = (0 < l.count c) by apply propext; omega]
  exact List.count_pos_iff

/-- The variables for which p holds, from number i on. -/
def vr (p : Int → Bool) : Nat → Int → ByteArray → ByteArray
  | 0, _, acc => acc
  | n + 1, i, acc => vr p n (i + 1) (if p (bt (⟨#[88, 89, 90]⟩ : ByteArray) i) = true then acc ++ ((⟨#[88, 89, 90]⟩ : ByteArray).extract (i : Int).toNat ((i + 1) : Int).toNat) else acc)
def varsB (s : ByteArray) : ByteArray := vr (fun c => decide (c ∈ bytesOf s)) 3 0 (⟨#[]⟩ : ByteArray)
theorem ext_size (i : Int) (h0 : 0 ≤ i) (h : i < 3) : ((⟨#[88, 89, 90]⟩ : ByteArray).extract (i : Int).toNat ((i + 1) : Int).toNat).size = 1 := by
  have : i = 0 ∨ i = 1 ∨ i = 2 := by omega
  rcases this with rfl | rfl | rfl <;> rfl
theorem spec_VarsOf_ev (s : ByteArray) (hs : s.size ≤ 9223372036854775807) : Evt (fun k => spec_VarsOf.f k s) (varsB s) := by
  have h : ∀ (n : Nat) (i : Int) (acc : ByteArray), 0 ≤ i → i + n = 3 → acc.size + n ≤ 3 → Evt (fun k => spec_VarsOf.l0 k s acc i) (vr (fun c => decide (c ∈ bytesOf s)) n i acc) := by
    intro n
    induction n with
    | zero =>
      intro i acc h0 hi ha
      refine Evt.step ?_
      simp only [spec_VarsOf.l0]
      exact Evt.neg (by omega) (Evt.ret _)
    | succ n ih =>
      intro i acc h0 hi ha
      have hx := ext_size i h0 (by omega)
      have hw : wrap64 (i + 1) = i + 1 := w64 (by omega) (by omega)
      refine Evt.step ?_
      simp only [spec_VarsOf.l0, hw, hx]
      refine Evt.pos (by omega) (Evt.pos (by omega) (Evt.bind (spec_CountByte_ev s _ hs) ?_))
      unfold vr
      by_cases hc : bt (⟨#[88, 89, 90]⟩ : ByteArray) i ∈ bytesOf s
      · refine Evt.pos ((cntB_pos _ _).2 hc) (Evt.pos (by omega) (Evt.pos (by omega) (Evt.pos (by omega) ?_)))
        exact (ih (i + 1) _ (by omega) (by omega) (by rw [ByteArray.size_append, hx]; omega)).cast (by simp [hc])
      · exact Evt.neg (fun h => hc ((cntB_pos _ _).1 h)) ((ih (i + 1) acc (by omega) (by omega) (by omega)).cast (by simp [hc]))
  simpa [spec_VarsOf.f, varsB] using h 3 0 (⟨#[]⟩ : ByteArray) (by omega) (by omega) (by decide)
theorem ib_nonneg (s : ByteArray) {c : Int} (h0 : 0 ≤ c) (h1 : c ≤ 255) : Lib.indexByte s.data.toList c.toNat.toUInt8 ≥ 0 ↔ c ∈ bytesOf s := by
  obtain ⟨n, rfl⟩ := Int.eq_ofNat_of_zero_le h0
  rw [Int.toNat_natCast, ge_iff_le, indexByte_nonneg, mem_data s n (by omega)]

end Go.Proofs.Ytgllnohlocfeoaa.F


namespace Go.Proofs.Ytgllnohlocfeoaa.F
set_option linter.unusedVariables false
set_option linter.unusedSimpArgs false
open Go Go.RowKit Go.Proofs.YtgllnohlocfeoaaW.PrintWords Go.Proofs.Ytgllnohlocfeoaa.Pl Go.Proofs.Ytgllnohlocfeoaa.A Go.Proofs.Ytgllnohlocfeoaa.Ext

def valV (a b c : ByteArray) (x : Int) : ByteArray := if x = 88 then a else if x = 89 then b else if x = 90 then c else (⟨#[]⟩ : ByteArray)
theorem spec_ValueOf_v (a b c : ByteArray) (x : Int) : spec_ValueOf.f a b c x = some (valV a b c x) := by
  unfold spec_ValueOf.f valV
  repeat' split
  all_goals rfl
theorem impl_ValueOf_v (a b c : ByteArray) (x : Int) : impl_ValueOf.f a b c x = some (valV a b c x) := by
  unfold impl_ValueOf.f valV
  repeat' split
  all_goals rfl
theorem valV_size (a b c : ByteArray) (x : Int) (ha : a.size ≤ 1048576) (hb : b.size ≤ 1048576) (hc : c.size ≤ 1048576) : (valV a b c x).size ≤ 1048576 := by
  unfold valV
  repeat' split
  all_goals first | assumption | exact Nat.zero_le _
/-- One value's text: the letter number j of vars, a sign, the value. -/
def itemV (a b c vars : ByteArray) (j : Nat) : ByteArray := (vars.extract ((j : Nat) : Int).toNat ((j + 1 : Nat) : Int).toNat ++ (⟨#[61]⟩ : ByteArray)) ++ valV a b c (bt vars (j : Int))
theorem extract1 (v : ByteArray) (j : Nat) (h : j < v.size) : (v.extract ((j : Nat) : Int).toNat ((j + 1 : Nat) : Int).toNat).size = 1 := by
  rw [ByteArray.size_extract]
  omega
theorem itemV_size (a b c vars : ByteArray) (j : Nat) (h : j < vars.size) (ha : a.size ≤ 1048576) (hb : b.size ≤ 1048576) (hc : c.size ≤ 1048576) : (itemV a b c vars j).size ≤ 2097152 := by
  have h1 := extract1 vars j h
  have h2 := valV_size a b c (bt vars (j : Int)) ha hb hc
  have h3 : (⟨#[61]⟩ : ByteArray).size = 1 := rfl
  unfold itemV
  rw [ByteArray.size_append, ByteArray.size_append]
  omega
def spB : ByteArray := (⟨#[32]⟩ : ByteArray)
theorem spec_FormatValues_l (a b c vars : ByteArray) (hv : vars.size ≤ 3) (ha : a.size ≤ 1048576) (hb : b.size ≤ 1048576) (hc : c.size ≤ 1048576) : Evt (fun k => spec_FormatValues.l0 k [] vars 0 a b c) (joinP ((List.range vars.size).map (itemV a b c vars)) spB) := by
  have hh : ∀ d i : Nat, i + d = vars.size → Evt (fun k => spec_FormatValues.l0 k ((List.range i).map (itemV a b c vars)) vars (i : Int) a b c) (joinP ((List.range vars.size).map (itemV a b c vars)) spB) := by
    intro d
    induction d with
    | zero =>
      intro i hi
      refine Evt.step ?_
      simp only [spec_FormatValues.l0]
      rw [show i = vars.size by omega]
      refine Evt.neg (by omega) (Evt.bind (spec_Join_ev _ spB (by simp; omega) (by decide) ?_) (Evt.ret _))
      intro x hx
      obtain ⟨j, hj, rfl⟩ := List.mem_map.1 hx
      exact itemV_size a b c vars j (List.mem_range.1 hj) ha hb hc
    | succ d ih =>
      intro i hi
      have h1 := extract1 vars i (by omega)
      have h2 := valV_size a b c (bt vars (i : Int)) ha hb hc
      have h3 : (⟨#[61]⟩ : ByteArray).size = 1 := rfl
      refine Evt.step ?_
      simp only [spec_FormatValues.l0]
      rw [w64s (by omega)]
      refine Evt.pos (by omega) (Evt.pos (by omega) (Evt.pos (by omega) (Evt.pos (by omega) (Evt.pos (by omega) (Evt.bindc (spec_ValueOf_v _ _ _ _) (Evt.pos (by rw [ByteArray.size_append]; omega) (Evt.pos (by simp; omega) ?_)))))))
      have hn := ih (i + 1) (by omega)
      rw [List.range_succ, List.map_append] at hn
      exact hn
  exact hh vars.size 0 (by omega)
def xyzB : ByteArray := (⟨#[88, 89, 90]⟩ : ByteArray)
/-- The texts of the values that are named, from number i on. -/
def itemsV (a b c names : ByteArray) : Nat → Nat → List ByteArray
  | 0, _ => []
  | n + 1, i => if bt xyzB (i : Int) ∈ bytesOf names then itemV a b c xyzB i :: itemsV a b c names n (i + 1) else itemsV a b c names n (i + 1)
theorem itemsV_mem (a b c names : ByteArray) (ha : a.size ≤ 1048576) (hb : b.size ≤ 1048576) (hc : c.size ≤ 1048576) (n : Nat) : ∀ i, i + n ≤ 3 → ∀ x ∈ itemsV a b c names n i, x.size ≤ 2097152 := by
  induction n with
  | zero => intro i _ x hx; cases hx
  | succ n ih =>
    intro i hi x hx
    unfold itemsV at hx
    split at hx
    · rcases List.mem_cons.1 hx with rfl | hx
      · exact itemV_size a b c xyzB i (show i < 3 by omega) ha hb hc
      · exact ih (i + 1) (by omega) x hx
    · exact ih (i + 1) (by omega) x hx
theorem itemsV_len (a b c names : ByteArray) (n : Nat) : ∀ i, (itemsV a b c names n i).length ≤ n := by
  induction n with
  | zero => intro i; exact Nat.le_refl _
  | succ n ih =>
    intro i
    have := ih (i + 1)
    unfold itemsV
    split
    · simp only [List.length_cons]; omega
    · omega
theorem impl_FormatValues_ev (a b c names : ByteArray) (ha : a.size ≤ 1048576) (hb : b.size ≤ 1048576) (hc : c.size ≤ 1048576) : Evt (fun k => impl_FormatValues.f k a b c names) (joinP (itemsV a b c names 3 0) spB) := by
  have hh : ∀ d i : Nat, i + d = 3 → ∀ acc : List ByteArray, acc.length ≤ i → acc ++ itemsV a b c names d i = itemsV a b c names 3 0 → Evt (fun k => impl_FormatValues.l0 k names acc (i : Int) a b c) (joinP (itemsV a b c names 3 0) spB) := by
    intro d
    induction d with
    | zero =>
      intro i hi acc hl he
      refine Evt.step ?_
      simp only [impl_FormatValues.l0]
      have e : acc = itemsV a b c names 3 0 := by simpa [itemsV] using he
      have hlen := itemsV_len a b c names 3 0
      rw [e]
      exact Evt.neg (by omega) (Evt.bind (impl_Join_ev _ spB (by omega) (by decide) (itemsV_mem a b c names ha hb hc 3 0 (by omega))) (Evt.ret _))
    | succ d ih =>
      intro i hi acc hl he
      have h1 := extract1 xyzB i (show i < 3 by omega)
      have h1' : ((⟨#[88, 89, 90]⟩ : ByteArray).extract ((i : Nat) : Int).toNat ((i + 1 : Nat) : Int).toNat).size = 1 := h1
      have h2 := valV_size a b c (bt xyzB (i : Int)) ha hb hc
      have h2' : (valV a b c (bt (⟨#[88, 89, 90]⟩ : ByteArray) (i : Int))).size ≤ 1048576 := h2
      have h3 : (⟨#[61]⟩ : ByteArray).size = 1 := rfl
      unfold itemsV at he
      refine Evt.step ?_
      simp only [impl_FormatValues.l0]
      rw [w64s (by omega)]
      refine Evt.pos (by omega) (Evt.pos (by omega) (Evt.bindc rfl ?_))
      by_cases hm : bt xyzB (i : Int) ∈ bytesOf names
      · rw [if_pos hm] at he
        refine Evt.pos ((ib_nonneg names (bt0 _ _) (bt255 _ _)).2 hm) (Evt.pos (by omega) (Evt.pos (by omega) (Evt.pos (by omega) (Evt.bindc (impl_ValueOf_v _ _ _ _) (Evt.pos (by rw [ByteArray.size_append]; omega) (Evt.pos (by omega) ?_))))))
        exact ih (i + 1) (by omega) _ (by simp; omega) (by rw [List.append_assoc]; exact he)
      · rw [if_neg hm] at he
        exact Evt.neg (fun h => hm ((ib_nonneg names (bt0 _ _) (bt255 _ _)).1 h)) (ih (i + 1) (by omega) acc (by omega) he)
  simp only [impl_FormatValues.f]
  exact hh 3 0 (by omega) [] (by simp) (by simp)
theorem items_eq (a b c names : ByteArray) : (List.range (varsB names).size).map (itemV a b c (varsB names)) = itemsV a b c names 3 0 := by
  have b0 : bt (⟨#[88, 89, 90]⟩ : ByteArray) 0 = 88 := by decide
  have b1 : bt (⟨#[88, 89, 90]⟩ : ByteArray) (0 + 1) = 89 := by decide
  have b2 : bt (⟨#[88, 89, 90]⟩ : ByteArray) (0 + 1 + 1) = 90 := by decide
  have c0 : bt xyzB ((0 : Nat) : Int) = 88 := by decide
  have c1 : bt xyzB ((0 + 1 : Nat) : Int) = 89 := by decide
  have c2 : bt xyzB ((0 + 1 + 1 : Nat) : Int) = 90 := by decide
  have hv : varsB names = (if (88 : Int) ∈ bytesOf names then (if (89 : Int) ∈ bytesOf names then (if (90 : Int) ∈ bytesOf names then (⟨#[88, 89, 90]⟩ : ByteArray) else ⟨#[88, 89]⟩) else (if (90 : Int) ∈ bytesOf names then (⟨#[88, 90]⟩ : ByteArray) else ⟨#[88]⟩)) else (if (89 : Int) ∈ bytesOf names then (if (90 : Int) ∈ bytesOf names then (⟨#[89, 90]⟩ : ByteArray) else ⟨#[89]⟩) else (if (90 : Int) ∈ bytesOf names then (⟨#[90]⟩ : ByteArray) else ⟨#[]⟩))) := by
    unfold varsB
    simp only [vr, b0, b1, b2, decide_eq_true_eq]
    by_cases h0 : (88 : Int) ∈ bytesOf names <;> by_cases h1 : (89 : Int) ∈ bytesOf names <;> by_cases h2 : (90 : Int) ∈ bytesOf names <;> simp only [h0, h1, h2, if_true, if_false] <;> decide
  rw [hv]
  simp only [itemsV, c0, c1, c2]
  have e (u : ByteArray) (j i : Nat) (h1 : u.extract ((j : Nat) : Int).toNat ((j + 1 : Nat) : Int).toNat = xyzB.extract ((i : Nat) : Int).toNat ((i + 1 : Nat) : Int).toNat) (h2 : bt u (j : Int) = bt xyzB (i : Int)) : itemV a b c u j = itemV a b c xyzB i := by
    unfold itemV
    rw [h1, h2]
  by_cases h0 : (88 : Int) ∈ bytesOf names <;> by_cases h1 : (89 : Int) ∈ bytesOf names <;> by_cases h2 : (90 : Int) ∈ bytesOf names <;> simp only [h0, h1, h2, if_true, if_false]
  · show [itemV a b c (⟨#[88, 89, 90]⟩ : ByteArray) 0, itemV a b c (⟨#[88, 89, 90]⟩ : ByteArray) 1, itemV a b c (⟨#[88, 89, 90]⟩ : ByteArray) 2] = [itemV a b c xyzB 0, itemV a b c xyzB 1, itemV a b c xyzB 2]
    rfl
  · show [itemV a b c (⟨#[88, 89]⟩ : ByteArray) 0, itemV a b c (⟨#[88, 89]⟩ : ByteArray) 1] = [itemV a b c xyzB 0, itemV a b c xyzB 1]
    rw [e (⟨#[88, 89]⟩ : ByteArray) 0 0 (by decide) (by decide), e (⟨#[88, 89]⟩ : ByteArray) 1 1 (by decide) (by decide)]
  · show [itemV a b c (⟨#[88, 90]⟩ : ByteArray) 0, itemV a b c (⟨#[88, 90]⟩ : ByteArray) 1] = [itemV a b c xyzB 0, itemV a b c xyzB 2]
    rw [e (⟨#[88, 90]⟩ : ByteArray) 0 0 (by decide) (by decide), e (⟨#[88, 90]⟩ : ByteArray) 1 2 (by decide) (by decide)]
  · show [itemV a b c (⟨#[88]⟩ : ByteArray) 0] = [itemV a b c xyzB 0]
    rw [e (⟨#[88]⟩ : ByteArray) 0 0 (by decide) (by decide)]
  · show [itemV a b c (⟨#[89, 90]⟩ : ByteArray) 0, itemV a b c (⟨#[89, 90]⟩ : ByteArray) 1] = [itemV a b c xyzB 1, itemV a b c xyzB 2]
    rw [e (⟨#[89, 90]⟩ : ByteArray) 0 1 (by decide) (by decide), e (⟨#[89, 90]⟩ : ByteArray) 1 2 (by decide) (by decide)]
  · show [itemV a b c (⟨#[89]⟩ : ByteArray) 0] = [itemV a b c xyzB 1]
    rw [e (⟨#[89]⟩ : ByteArray) 0 1 (by decide) (by decide)]
  · show [itemV a b c (⟨#[90]⟩ : ByteArray) 0] = [itemV a b c xyzB 2]
    rw [e (⟨#[90]⟩ : ByteArray) 0 2 (by decide) (by decide)]
  · rfl
theorem varsB_size3 (s : ByteArray) : (varsB s).size ≤ 3 := by
  have h (p : Int → Bool) : ∀ (n : Nat) (i : Int) (acc : ByteArray), 0 ≤ i → i + n = 3 → (vr p n i acc).size ≤ acc.size + n := by
    intro n
    induction n with
    | zero => intro i acc _ _; exact Nat.le_refl _
    | succ n ih =>
      intro i acc h0 hi
      have hx := ext_size i h0 (by omega)
      unfold vr
      split
      · have := ih (i + 1) (acc ++ ((⟨#[88, 89, 90]⟩ : ByteArray).extract (i : Int).toNat ((i + 1) : Int).toNat)) (by omega) (by omega)
        rw [ByteArray.size_append, hx] at this
        omega
      · have := ih (i + 1) acc (by omega) (by omega)
        omega
  have := h (fun c => decide (c ∈ bytesOf s)) 3 0 (⟨#[]⟩ : ByteArray) (by omega) (by omega)
  have e : (⟨#[]⟩ : ByteArray).size = 0 := rfl
  unfold varsB
  omega
theorem spec_FormatValues_ev (a b c names : ByteArray) (hn : names.size ≤ 9223372036854775807) (ha : a.size ≤ 1048576) (hb : b.size ≤ 1048576) (hc : c.size ≤ 1048576) : Evt (fun k => spec_FormatValues.f k a b c names) (joinP (itemsV a b c names 3 0) spB) := by
  simp only [spec_FormatValues.f]
  refine Evt.bind (spec_VarsOf_ev names hn) ?_
  rw [← items_eq]
  exact spec_FormatValues_l a b c (varsB names) (varsB_size3 names) ha hb hc

end Go.Proofs.Ytgllnohlocfeoaa.F


namespace Go.Proofs.Ytgllnohlocfeoaa.F
set_option linter.unusedVariables false
set_option linter.unusedSimpArgs false
open Go.RowKit Go.Proofs.YtgllnohlocfeoaaW.PrintWords Go.Proofs.Ytgllnohlocfeoaa.Pl Go.Proofs.Ytgllnohlocfeoaa.A

theorem szValues_eq (a b c : ByteArray) (ha : a.size ≤ 9223372036854775807) (hb : b.size ≤ 9223372036854775807) (hc : c.size ≤ 9223372036854775807) :
    ∃ t, laws_szValues.f a b c 1048576 = some t ∧ (t < 0 ∨ a.size + b.size + c.size ≤ 1048576) := by
  unfold laws_szValues.f
  rw [w64_sub (by omega) (by omega) ha]
  by_cases h1 : (1048576 : Int) - a.size < 0
  · exact ⟨-1, by rw [if_pos h1], .inl (by omega)⟩
  rw [if_neg h1, w64_sub (by omega) (by omega) hb]
  by_cases h2 : (1048576 : Int) - a.size - b.size < 0
  · exact ⟨-1, by rw [if_pos h2], .inl (by omega)⟩
  rw [if_neg h2, w64_sub (by omega) (by omega) hc]
  by_cases h3 : (1048576 : Int) - a.size - b.size - c.size < 0
  · exact ⟨-1, by rw [if_pos h3], .inl (by omega)⟩
  rw [if_neg h3]
  exact ⟨_, rfl, .inr (by omega)⟩

end Go.Proofs.Ytgllnohlocfeoaa.F


namespace Go.Proofs.Ytgllnohlocfeoaa.Pure
set_option linter.unusedVariables false
set_option linter.unusedSimpArgs false
open Go Go.RowKit Go.Proofs.YtgllnohlocfeoaaW.PrintWords Go.Proofs.Ytgllnohlocfeoaa.Pl Go.Proofs.Ytgllnohlocfeoaa.F Go.Proofs.Ytgllnohlocfeoaa.A Go.Proofs.Ytgllnohlocfeoaa.Ext

theorem FnExactFormatValues : FnExactFormatValues.Pure := by
  intro a b c names ha hb hc hn
  refine Evt.get (g := fun k => laws_FnExactFormatValues.f k a b c names) ?_
  simp only [laws_FnExactFormatValues.f]
  by_cases h1 : (names.size : Int) > 1048576
  · exact Evt.pos h1 (Evt.ret _)
  obtain ⟨t, ht, hs⟩ := szValues_eq a b c ha hb hc
  refine Evt.neg h1 (Evt.bindc ht ?_)
  by_cases h : t < 0
  · exact Evt.pos h (Evt.ret _)
  have hs' := hs.resolve_left h
  exact Evt.neg h (Evt.bindc rfl (Evt.bind (spec_FormatValues_ev a b c names hn (by omega) (by omega) (by omega)) (Evt.bindc rfl (Evt.bind (impl_FormatValues_ev a b c names (by omega) (by omega) (by omega)) (Evt.pos rfl (Evt.ret _))))))

end Go.Proofs.Ytgllnohlocfeoaa.Pure


namespace Go.Proofs.Ytgllnohlocfeoaa.fnExactFormatValues
open Go.ChangeShapes Go.WideShapes Go.ChangeAt Go.RowKit Go.Proofs.Ytgllnohlocfeoaa.Br Go.Proofs.YtgllnohlocfeoaaW.PrintWords Go.Proofs.Ytgllnohlocfeoaa.A
open Go.ChangeMaps (open_string shut_string)
set_option linter.unusedVariables false
theorem own : ownKnob Try.prog.godebug = none := by kernel_rfl
theorem laidOut : laidOutB Try.prog = true := by kernel_rfl
set_option maxHeartbeats 2000000 in
set_option maxRecDepth 100000 in
theorem lifted (os : Os) (started : os.Started) (H : Type) (enc : TypeId × Value → H) :
    ReturnsInHanded {} Try.checked os 3 .any (Rows.fnExactFormatValuesSpec.pre6 enc Try.prog Try.f3 Rows.fnExactFormatValuesRow.domain false) (Rows.fnExactFormatValuesSpec.post enc Try.prog Try.f3 false true false false) := by
  refine returnsInHanded_of_change_sized (C := Try.checked) own started (by kernel_rfl) Try.func3
    (ChangeSpec.witness6 (enc := enc) (C := Try.checked) false ⟨#[], #[.agg #[.string ByteArray.empty, .string ByteArray.empty, .string ByteArray.empty], .string ByteArray.empty], []⟩ 8 (by kernel_rfl) (by kernel_rfl) (by kernel_rfl) (by kernel_rfl)) ?_
  intro W base args ds gs before hval0 hW hcnd hsz0 _
  have hval : ∀ (j : Nat) t v, Try.f3.params[j]? = some t → args[j]? = some v → Value.okWide Try.prog W .any base t v := hval0
  have hW' := hW
  obtain ⟨p, q, hA0, hV, rfl, hfz, hnd⟩ := hW
  have hA : DataW.TrodAll enc Try.prog W 0 (fun _ => true) true Try.f3.params.toList args.toList ds p := hA0
  rw [Try.params3] at hA hval
  obtain ⟨v0, vs0, d0, ds0, p0, q0, hargs, rfl, rfl, h0, r0⟩ := trodAll_cons hA
  obtain ⟨v1, vs1, d1, ds1, p1, q1, rfl, rfl, rfl, h1, r1⟩ := trodAll_cons r0
  obtain ⟨rfl, rfl, rfl⟩ := trodAll_nil r1
  obtain rfl : args = #[v0, v1] := by cases args; simp_all
  obtain ⟨rfl, rfl⟩ := trodVars_none hV
  have k0 := h0
  have lt0 : ∀ x ∈ p0, x.block < W.heap.size := by obtain ⟨m, hm⟩ := k0; exact DataW.trod_lt m _ _ _ hm
  obtain ⟨arr0, rfl, _, _⟩ : ∃ cs, v0 = .agg cs ∧ cs.size = Try.prog.cellsOf 23 ∧ Row.okWide Try.prog W .any base 23 cs := by have z := (hval 0 23 v0 rfl rfl); unfold Value.okWide at z; rw [Try.underlying23] at z; exact z
  obtain ⟨fuel0, hf0⟩ := h0
  obtain ⟨x0, hK0, hw0⟩ := (show ∀ n, BrN Try.prog n 23 _ _ from fun n => (br_struct' Try.underlying23 (show Try.prog.cellsOf 23 = 3 by kernel_rfl) (fun n => (bf_cons rfl (show Try.prog.cellsOf 9 = 1 by kernel_rfl) (br_string Try.underlying9 n) (bf_cons rfl (show Try.prog.cellsOf 9 = 1 by kernel_rfl) (br_string Try.underlying9 n) (bf_one rfl (show Try.prog.cellsOf 9 = 1 by kernel_rfl) (br_string Try.underlying9 n)) (of_decide_eq_true (by kernel_rfl))) (of_decide_eq_true (by kernel_rfl)))) n)) fuel0 H enc W 0 (fun _ => true) true fuel0 _ _ (Nat.le_refl _) hf0
  obtain ⟨a0_0, ⟨a0_1, a0_2⟩⟩ := x0
  replace hw0 := hw0
  obtain ⟨w0_0, ⟨w0_1, w0_2⟩⟩ := hw0
  obtain ⟨cs0, hcs0, hK0⟩ : ∃ cs, (Value.agg arr0).cells.toList = cs ∧ _ := ⟨_, rfl, hK0⟩
  obtain ⟨_, _, rfl, rfl, ⟨_, _, rfl, rfl, rfl⟩⟩ := hK0
  obtain rfl : arr0 = #[.string a0_0, .string a0_1, .string a0_2] := arr_of hcs0
  have k1 := h1
  have lt1 : ∀ x ∈ p1, x.block < W.heap.size := by obtain ⟨m, hm⟩ := k1; exact DataW.trod_lt m _ _ _ hm
  obtain ⟨a1, rfl, rfl, rfl, w1⟩ := open_string Try.underlying9 (hval 1 9 v1 rfl rfl) h1
  replace w1 : a1.size ≤ 9223372036854775807 := by simpa [maxLen] using w1
  clear hA0 hval0 hsz0
  obtain ⟨k, hp⟩ := Pure.FnExactFormatValues a0_0 a0_1 a0_2 a1 w0_0 w0_1 w0_2 w1
  refine (laws_FnExactFormatValues.calls k a0_0 a0_1 a0_2 a1 true W  hp rfl).mono fun e W' ⟨he, bel0⟩ => ?_
  subst he
  have bel : Below W.heap.size W W' := bel0
  exact ⟨_, rfl, _, _, _, [], _, [], hW', trodAll_mk1 (shut_bool Try.underlying4 _), (trodAll_cons_mk (Below.trod laidOut (by kernel_rfl) (of_decide_eq_true (by kernel_rfl)) k0 bel lt0) (trodAll_cons_mk (Below.trod laidOut (by kernel_rfl) (of_decide_eq_true (by kernel_rfl)) k1 bel lt1) trodAll_mk0)), rfl, bel.frame _, fun h => by cases h⟩
theorem fact0 : (Rows.fnExactFormatValuesRow.inPlace == Try.pinned.checked.prog.inPlace 3) = true := by kernel_rfl
theorem fact1 : (Rows.fnExactFormatValuesRow.unfollowed == Try.pinned.checked.prog.unfollowed 3) = true := by kernel_rfl
theorem fact2 : (Rows.fnExactFormatValuesRow.recurses == Try.pinned.checked.prog.recurses 3) = true := by kernel_rfl
theorem fact3 : (Rows.fnExactFormatValuesRow.named == Try.pinned.checked.prog.varsNamed 3) = true := by kernel_rfl
theorem facts : joinedFacts Try.pinned.checked.prog 3 Try.f3 Rows.fnExactFormatValuesSpec Rows.fnExactFormatValuesRow = true := by
  unfold joinedFacts
  rw [fact0, fact1, fact2, fact3]
  kernel_rfl
theorem known : Try.pinned.checked.prog.funcNamed Rows.fnExactFormatValuesRow.func = some 3 := by kernel_rfl
theorem inst : Try.f3.isInstance Try.pinned.checked.prog Rows.fnExactFormatValuesRow.origin Rows.fnExactFormatValuesRow.targs := of_decide_eq_true (by kernel_rfl)
theorem wrap : Try.f3.isWrapper Try.pinned.checked.prog Rows.fnExactFormatValuesRow.wrapper Rows.fnExactFormatValuesRow.mainSum := by unfold Func.isWrapper; first | (rw [if_pos (by decide +kernel)]; kernel_rfl) | (rw [if_neg (by decide +kernel)]; exact ⟨rfl, rfl⟩)
theorem over : Rows.fnExactFormatValuesRow.holds Try.pinned (OpenSpec.ofChange Rows.fnExactFormatValuesSpec) :=
  OpenClaim.holds_of_wide 3 Try.f3 rfl rfl rfl rfl rfl rfl rfl ⟨rfl, rfl, rfl, rfl, rfl⟩ rfl rfl rfl rfl rfl known Try.func3 facts inst wrap
    (fun os started H enc _ => lifted os started H enc)
theorem proved : Rows.FnExactFormatValuesSaid := over
#print axioms proved
end Go.Proofs.Ytgllnohlocfeoaa.fnExactFormatValues
namespace Go.Proofs.Ytgllnohlocfeoaa
/-- The row, under a short name, for the claim. -/
theorem fnExactFormatValues_holds : Rows.FnExactFormatValuesSaid := fnExactFormatValues.proved
end Go.Proofs.Ytgllnohlocfeoaa
