/- FnExactVarsOfConstraint: what its proof needs, put together by this session's program wip/merge.py out of the texts that wip/xp.py printed and of this session's own. -/
import Derived.Test.YtpppopdmnejcfaaQFnExactVarsOfConstraint0
import Derived.Test.YtpppopdmnejcfaaProg
import Derived.Lib.Bytealg
import Derived.Lib.Walk
import Derived.Below
import Derived.Deep.Draws
import Derived.Deep.AppendLies
import Derived.Maps.AppendAt
import Derived.OwnWalk
import Derived.Laws.BytesArg
import Derived.Laws.MakeOwn
import Derived.Laws.OwnMore
import Derived.Deep.OwnRows
import Derived.Tactics
import Derived.Lib.ConvBytes
import Derived.Laws.Slices
import Derived.WalkKit
import Derived.KernelRfl
import Derived.RowKit3
import Derived.Deep.LoopGhost
import Derived.Deep.QuietTactic
import Derived.BigQuiet
import Derived.WideLaws
import Derived.Deep.DeepCutAuto
import Derived.Deep.CutBlock
import Derived.Deep.RegionHeld3
import Derived.Laws.Rows
import Derived.Lib.AppendStr
import Derived.ArgAppend
import Derived.Laws.IdiomCopy
import Derived.OrdersHeld
import Derived.Laws.BitsLemmas
import Derived.RowKit
namespace Go.Proofs.Ytpppopdmnejcfaa.Ext
set_option linter.unusedVariables false
set_option linter.unusedSimpArgs false
open Go.RowKit Go.Proofs.YtpppopdmnejcfaaW.PrintWords

-- EXT strings.IndexByte
def strings_IndexByte.f (s : ByteArray) (c : Int) : Option Int := some (Lib.indexByte s.data.toList c.toNat.toUInt8)

set_option maxRecDepth 100000 in
theorem stringslite_run (s : ByteArray) (c : Int) (w : World) :
    Calls Try.prog 172 #[.string s, .int .u8 c] w fun e w' => e = .returned (.int .i64 (Lib.indexByte s.data.toList c.toNat.toUInt8)) ∧ w' = w := by
  go_enter Try.func172, Try.ntmps172
  go_wp2
  rw [run_callFunc_extern Try.func197 (by kernel_rfl) (by kernel_rfl) (by kernel_rfl) (e := Extern.BytealgIndexByte.indexByte) (by kernel_rfl), Lib.run_indexByteString]
  simp only [Result.andThen]
  rw [Oper.upon_value]
  go_wp2
  go_ret
  exact ⟨rfl, rfl⟩
set_option maxRecDepth 100000 in
theorem strings_IndexByte.calls (s : ByteArray) (c : Int) (r : Int) (w : World) (h : strings_IndexByte.f s c = some r) :
    Calls Try.prog 109 #[.string s, .int .u8 c] w fun e w' => e = .returned (.int .i64 r) ∧ Drawn0 w w' := by
  obtain rfl := Option.some.inj h
  go_enter Try.func109, Try.ntmps109
  go_wp2_with (go_at_call 172; refine (stringslite_run _ _ _).mono ?_; rintro e w' ⟨rfl, rfl⟩)
  go_ret
  exact ⟨rfl, Drawn0.refl _⟩

end Go.Proofs.Ytpppopdmnejcfaa.Ext


namespace Go.Proofs.Ytpppopdmnejcfaa.A
open Go.RowKit Go.Proofs.Ytpppopdmnejcfaa.Ext Go.Proofs.YtpppopdmnejcfaaW.PrintWords Go.Proofs.YtpppopdmnejcfaaW.PrintLast Go.Proofs.YtpppopdmnejcfaaW.PrintMore
attribute [local go_sem] max2_int min2_int max_two min_two max_three min_three max_four min_four   -- for this text's walks alone
set_option linter.unusedVariables false
set_option linter.unusedSimpArgs false



def errW : Option Int → Value
  | none => .nilIface
  | some c => .iface 0 (.int .i64 c)
theorem errW_none : errW none = .nilIface := rfl
theorem errW_some (c : Int) : errW (some c) = .iface 0 (.int .i64 c) := rfl

theorem info3 : (Try.prog.info? 3).map (fun i => (i.zero, i.size, i.bytes)) = some (some (.int .i64 0), 1, 8) := by kernel_rfl
theorem info4 : (Try.prog.info? 4).map (fun i => (i.zero, i.size, i.bytes)) = some (some (.bool false), 1, 1) := by kernel_rfl
theorem info5 : (Try.prog.info? 5).map (fun i => (i.zero, i.size, i.bytes)) = some (some (.int .u8 0), 1, 1) := by kernel_rfl
theorem info9 : (Try.prog.info? 9).map (fun i => (i.zero, i.size, i.bytes)) = some (some (.string ⟨#[]⟩), 1, 16) := by kernel_rfl
theorem info35 : (Try.prog.info? 35).map (fun i => (i.zero, i.size, i.bytes)) = some (some (.slice none 0 0), 1, 24) := by kernel_rfl
theorem info42 : (Try.prog.info? 42).map (fun i => (i.zero, i.size, i.bytes)) = some (some (.agg #[(.int .i64 0), (.string ⟨#[]⟩), (.slice none 0 0)]), 3, 48) := by kernel_rfl
theorem info44 : (Try.prog.info? 44).map (fun i => (i.zero, i.size, i.bytes)) = some (some (.agg #[(.int .i64 0), (.string ⟨#[]⟩), (.string ⟨#[]⟩), (.int .i64 0), (.string ⟨#[]⟩), (.slice none 0 0), (.slice none 0 0), (.int .i64 0)]), 8, 120) := by kernel_rfl
theorem info138 : (Try.prog.info? 138).map (fun i => (i.zero, i.size, i.bytes)) = some (some (.agg #[(.string ⟨#[]⟩), (.string ⟨#[]⟩), (.slice none 0 0)]), 3, 56) := by kernel_rfl
-- the values' own types
/-! #### struct type 34, nested in itself -/
structure S34 where
  f0 : Int
  f1 : ByteArray
  f2 : (List S34)
def z34 : S34 := ⟨(0 : Int), (⟨#[]⟩ : ByteArray), ([] : List S34)⟩
def F34 (d : Kd S34) : Kd S34 := Kd.iso (Kd.pair (Kd.int .i64) (Kd.pair Kd.string (Kd.slice 34 d))) (fun x : S34 => (x.f0, x.f1, x.f2))
theorem mono34 : Kd.Mono F34 := Kd.mono_iso _ (Kd.mono_pair (Kd.mono_const _) (Kd.mono_pair (Kd.mono_const _) (Kd.mono_slice 34 Kd.mono_id)))
theorem sub34 : Kd.Sub F34 [34] := Kd.sub_iso _ (Kd.sub_pair (Kd.sub_const _ (by decide)) (Kd.sub_pair (Kd.sub_const _ (by decide)) (Kd.sub_slice 34 (by decide) Kd.sub_id)))
theorem sz34 : ∀ n, (Kd.upto F34 3 [34] n).sz = 3 := Kd.upto_sz (fun _ => rfl)
def k34 : Kd S34 := Kd.fix F34 3 [34] sz34 (Kd.upto_E sub34)
theorem k34_heap : Kd.Heap k34 := Kd.heap_fix (fun _ h_ => Kd.heap_iso _ (Kd.heap_pair (Kd.heap_int .i64) (Kd.heap_pair Kd.heap_string (Kd.heap_slice 34 h_))))
theorem k34_open {w : World} {x : S34} {cs : List Value} (h : k34.K w x cs) : ∃ A2 c2, cs = [.int .i64 x.f0, .string x.f1, .slice A2 x.f2.length c2] ∧ x.f2.length ≤ c2 ∧ k34.C w A2 x.f2.length x.f2 := by
  obtain ⟨n, h⟩ := h
  cases n with
  | zero => exact h.elim
  | succ n =>
    obtain ⟨_, _, rfl, rfl, ⟨_, _, rfl, rfl, ⟨A2, c2, rfl, l2, g2⟩⟩⟩ := h
    exact ⟨A2, c2, rfl, l2, Kd.fix_C g2⟩
theorem k34_openM {w : World} {base : Nat} {ok : Nat → Prop} {x : S34} {cs : List Value} (h : k34.M w base ok x cs) : ∃ v2, cs = [.int .i64 x.f0, .string x.f1, v2] ∧ k34.R 34 w base ok v2 x.f2 := by
  obtain ⟨n, h⟩ := h
  cases n with
  | zero => exact h.elim
  | succ n =>
    obtain ⟨_, _, rfl, rfl, ⟨_, _, rfl, rfl, ⟨v2, rfl, g2⟩⟩⟩ := h
    exact ⟨v2, rfl, Kd.fix_R g2⟩
theorem k34_mk (w : World) (x : S34) {A2 : Option Addr} {c2 : Nat} (l2 : x.f2.length ≤ c2) (g2 : k34.C w A2 x.f2.length x.f2) : k34.K w x [.int .i64 x.f0, .string x.f1, .slice A2 x.f2.length c2] := by
  obtain ⟨n2, q2⟩ := Kd.fix_C_back mono34 g2
  have r2 := Kd.upto_C_le mono34 sz34 (show n2 ≤ n2 by omega) q2
  exact ⟨n2 + 1, ⟨[.int .i64 x.f0], [.string x.f1, .slice A2 x.f2.length c2], rfl, rfl, ⟨[.string x.f1], [.slice A2 x.f2.length c2], rfl, rfl, ⟨A2, c2, rfl, l2, r2⟩⟩⟩⟩
theorem k34_mkM (w : World) (base : Nat) (ok : Nat → Prop) (x : S34) {v2 : Value} (g2 : k34.R 34 w base ok v2 x.f2) : k34.M w base ok x [.int .i64 x.f0, .string x.f1, v2] := by
  obtain ⟨n2, q2⟩ := Kd.fix_R_back mono34 g2
  have r2 := Kd.upto_R_le mono34 sz34 (show n2 ≤ n2 by omega) q2
  exact ⟨n2 + 1, ⟨[.int .i64 x.f0], [.string x.f1, v2], rfl, rfl, ⟨[.string x.f1], [v2], rfl, rfl, ⟨v2, rfl, r2⟩⟩⟩⟩
theorem k34_openF {W : World} {ok : Nat → Prop} {x : S34} {cs : List Value} (h : Kd.FK k34 W ok x cs) : ∃ A2 c2, cs = [.int .i64 x.f0, .string x.f1, .slice A2 x.f2.length c2] ∧ x.f2.length ≤ c2 ∧ Kd.F k34 W ok A2 x.f2.length x.f2 := by
  obtain ⟨A2, c2, rfl, l2, _⟩ := k34_open (Kd.FK_now h)
  exact ⟨A2, c2, rfl, l2, (fun W' hW => by obtain ⟨A2_, c2_, he, l2_, g2_⟩ := k34_open (h W' hW); injection (Option.some.inj (show some (Value.slice A2 x.f2.length c2) = some (Value.slice A2_ x.f2.length c2_) from congrArg (fun l => l[2]?) he)) with ha_ _ _; rw [ha_]; exact g2_)⟩
theorem k34_mkF (W : World) (ok : Nat → Prop) (x : S34) {A2 : Option Addr} {c2 : Nat} (l2 : x.f2.length ≤ c2) (g2 : Kd.F k34 W ok A2 x.f2.length x.f2) : Kd.FK k34 W ok x [.int .i64 x.f0, .string x.f1, .slice A2 x.f2.length c2] := fun W2 hW => k34_mk W2 x l2 (g2 W2 hW)
def rd_T34 (xs : List S34) (i : Int) : S34 := xs.getD i.toNat z34
theorem at_T34 {w : World} {A : Option Addr} {n : Nat} {xs : List S34} (h : Kd.C k34 w A n xs) (i : Int) (h0 : 0 ≤ i) (h1 : i < n) : ∃ ad A2 c2, A = some ad ∧ w.cell? (ad.add (i.toNat * 3)) = some (.int .i64 (rd_T34 xs i).f0) ∧ w.cell? ⟨(ad.add (i.toNat * 3)).block, (ad.add (i.toNat * 3)).off + 1, none⟩ = some (.string (rd_T34 xs i).f1) ∧ w.cell? ⟨(ad.add (i.toNat * 3)).block, (ad.add (i.toNat * 3)).off + 2, none⟩ = some (.slice A2 (rd_T34 xs i).f2.length c2) ∧ (rd_T34 xs i).f2.length ≤ c2 ∧ k34.C w A2 (rd_T34 xs i).f2.length (rd_T34 xs i).f2 := by
  obtain ⟨ad, c, e, _, hK, hc0⟩ := Kd.C_get h z34 i h0 h1
  have hc : ∀ j u, c[j]? = some u → w.cell? (ad.add (i.toNat * 3 + j)) = some u := hc0
  obtain ⟨A2, c2, rfl, l2, g2⟩ := k34_open hK
  exact ⟨ad, A2, c2, e, hc 0 _ rfl, by rw [← add_field _ _ 1 (by omega)]; exact hc 1 _ rfl, by rw [← add_field _ _ 2 (by omega)]; exact hc 2 _ rfl, l2, g2⟩

def rd_L3 (xs : List (List Int)) (i : Int) : (List Int) := xs.getD i.toNat ([] : List Int)
theorem at_L3 {w : World} {A : Option Addr} {n : Nat} {xs : List (List Int)} (h : Kd.C (Kd.slice 3 (Kd.int .i64)) w A n xs) (i : Int) (h0 : 0 ≤ i) (h1 : i < n) : ∃ ad A0 c0, A = some ad ∧ w.cell? (ad.add i.toNat) = some (.slice A0 (rd_L3 xs i).length c0) ∧ (rd_L3 xs i).length ≤ c0 ∧ (Kd.int .i64).C w A0 (rd_L3 xs i).length (rd_L3 xs i) := by
  obtain ⟨ad, c, e, _, hK, hc0⟩ := Kd.C_get h ([] : List Int) i h0 h1
  have hc : ∀ j u, c[j]? = some u → w.cell? (ad.add (i.toNat * 1 + j)) = some u := hc0
  obtain ⟨A0, c0, rfl, l0, g0⟩ := hK
  exact ⟨ad, A0, c0, e, by have hq := hc 0 _ rfl; rwa [Nat.mul_one, Nat.add_zero] at hq, l0, g0⟩

/-! #### struct type 37 -/
structure S37 where
  f0 : Int
  f1 : ByteArray
  f2 : ByteArray
  f3 : S34
  f4 : (List Int)
  f5 : Int
def z37 : S37 := ⟨(0 : Int), (⟨#[]⟩ : ByteArray), (⟨#[]⟩ : ByteArray), z34, ([] : List Int), (0 : Int)⟩
def k37 : Kd S37 := Kd.iso (Kd.pair (Kd.int .i64) (Kd.pair Kd.string (Kd.pair Kd.string (Kd.pair k34 (Kd.pair (Kd.slice 3 (Kd.int .i64)) (Kd.int .i64)))))) (fun x : S37 => (x.f0, x.f1, x.f2, x.f3, x.f4, x.f5))
theorem k37_heap : Kd.Heap k37 := Kd.heap_iso _ (Kd.heap_pair (Kd.heap_int .i64) (Kd.heap_pair Kd.heap_string (Kd.heap_pair Kd.heap_string (Kd.heap_pair k34_heap (Kd.heap_pair (Kd.heap_slice 3 (Kd.heap_int .i64)) (Kd.heap_int .i64))))))
theorem k37_open {w : World} {x : S37} {cs : List Value} (h : k37.K w x cs) : ∃ A5 c5 A6 c6, cs = [.int .i64 x.f0, .string x.f1, .string x.f2, .int .i64 x.f3.f0, .string x.f3.f1, .slice A5 x.f3.f2.length c5, .slice A6 x.f4.length c6, .int .i64 x.f5] ∧ x.f3.f2.length ≤ c5 ∧ k34.C w A5 x.f3.f2.length x.f3.f2 ∧ x.f4.length ≤ c6 ∧ (Kd.int .i64).C w A6 x.f4.length x.f4 := by
  obtain ⟨_, _, rfl, rfl, ⟨_, _, rfl, rfl, ⟨_, _, rfl, rfl, ⟨_, _, rfl, s3, ⟨_, _, rfl, ⟨A6, c6, rfl, l6, g6⟩, rfl⟩⟩⟩⟩⟩ := h
  obtain ⟨A5, c5, rfl, l5, g5⟩ := k34_open s3
  exact ⟨A5, c5, A6, c6, rfl, l5, g5, l6, g6⟩
theorem k37_openM {w : World} {base : Nat} {ok : Nat → Prop} {x : S37} {cs : List Value} (h : k37.M w base ok x cs) : ∃ v5 v6, cs = [.int .i64 x.f0, .string x.f1, .string x.f2, .int .i64 x.f3.f0, .string x.f3.f1, v5, v6, .int .i64 x.f5] ∧ k34.R 34 w base ok v5 x.f3.f2 ∧ (Kd.int .i64).R 3 w base ok v6 x.f4 := by
  obtain ⟨_, _, rfl, rfl, ⟨_, _, rfl, rfl, ⟨_, _, rfl, rfl, ⟨_, _, rfl, s3, ⟨_, _, rfl, ⟨v6, rfl, g6⟩, rfl⟩⟩⟩⟩⟩ := h
  obtain ⟨v5, rfl, g5⟩ := k34_openM s3
  exact ⟨v5, v6, rfl, g5, g6⟩
theorem k37_mk (w : World) (x : S37) {A5 : Option Addr} {c5 : Nat} (l5 : x.f3.f2.length ≤ c5) (g5 : k34.C w A5 x.f3.f2.length x.f3.f2) {A6 : Option Addr} {c6 : Nat} (l6 : x.f4.length ≤ c6) (g6 : (Kd.int .i64).C w A6 x.f4.length x.f4) : k37.K w x [.int .i64 x.f0, .string x.f1, .string x.f2, .int .i64 x.f3.f0, .string x.f3.f1, .slice A5 x.f3.f2.length c5, .slice A6 x.f4.length c6, .int .i64 x.f5] := ⟨[.int .i64 x.f0], [.string x.f1, .string x.f2, .int .i64 x.f3.f0, .string x.f3.f1, .slice A5 x.f3.f2.length c5, .slice A6 x.f4.length c6, .int .i64 x.f5], rfl, rfl, ⟨[.string x.f1], [.string x.f2, .int .i64 x.f3.f0, .string x.f3.f1, .slice A5 x.f3.f2.length c5, .slice A6 x.f4.length c6, .int .i64 x.f5], rfl, rfl, ⟨[.string x.f2], [.int .i64 x.f3.f0, .string x.f3.f1, .slice A5 x.f3.f2.length c5, .slice A6 x.f4.length c6, .int .i64 x.f5], rfl, rfl, ⟨[.int .i64 x.f3.f0, .string x.f3.f1, .slice A5 x.f3.f2.length c5], [.slice A6 x.f4.length c6, .int .i64 x.f5], rfl, (k34_mk w x.f3 l5 g5), ⟨[.slice A6 x.f4.length c6], [.int .i64 x.f5], rfl, ⟨A6, c6, rfl, l6, g6⟩, rfl⟩⟩⟩⟩⟩
theorem k37_mkM (w : World) (base : Nat) (ok : Nat → Prop) (x : S37) {v5 : Value} (g5 : k34.R 34 w base ok v5 x.f3.f2) {v6 : Value} (g6 : (Kd.int .i64).R 3 w base ok v6 x.f4) : k37.M w base ok x [.int .i64 x.f0, .string x.f1, .string x.f2, .int .i64 x.f3.f0, .string x.f3.f1, v5, v6, .int .i64 x.f5] := ⟨[.int .i64 x.f0], [.string x.f1, .string x.f2, .int .i64 x.f3.f0, .string x.f3.f1, v5, v6, .int .i64 x.f5], rfl, rfl, ⟨[.string x.f1], [.string x.f2, .int .i64 x.f3.f0, .string x.f3.f1, v5, v6, .int .i64 x.f5], rfl, rfl, ⟨[.string x.f2], [.int .i64 x.f3.f0, .string x.f3.f1, v5, v6, .int .i64 x.f5], rfl, rfl, ⟨[.int .i64 x.f3.f0, .string x.f3.f1, v5], [v6, .int .i64 x.f5], rfl, (k34_mkM w base ok x.f3 g5), ⟨[v6], [.int .i64 x.f5], rfl, ⟨v6, rfl, g6⟩, rfl⟩⟩⟩⟩⟩
theorem k37_openF {W : World} {ok : Nat → Prop} {x : S37} {cs : List Value} (h : Kd.FK k37 W ok x cs) : ∃ A5 c5 A6 c6, cs = [.int .i64 x.f0, .string x.f1, .string x.f2, .int .i64 x.f3.f0, .string x.f3.f1, .slice A5 x.f3.f2.length c5, .slice A6 x.f4.length c6, .int .i64 x.f5] ∧ x.f3.f2.length ≤ c5 ∧ Kd.F k34 W ok A5 x.f3.f2.length x.f3.f2 ∧ x.f4.length ≤ c6 ∧ Kd.F (Kd.int .i64) W ok A6 x.f4.length x.f4 := by
  obtain ⟨A5, c5, A6, c6, rfl, l5, _, l6, _⟩ := k37_open (Kd.FK_now h)
  exact ⟨A5, c5, A6, c6, rfl, l5, (fun W' hW => by obtain ⟨A5_, c5_, A6_, c6_, he, l5_, g5_, l6_, g6_⟩ := k37_open (h W' hW); injection (Option.some.inj (show some (Value.slice A5 x.f3.f2.length c5) = some (Value.slice A5_ x.f3.f2.length c5_) from congrArg (fun l => l[5]?) he)) with ha_ _ _; rw [ha_]; exact g5_), l6, (fun W' hW => by obtain ⟨A5_, c5_, A6_, c6_, he, l5_, g5_, l6_, g6_⟩ := k37_open (h W' hW); injection (Option.some.inj (show some (Value.slice A6 x.f4.length c6) = some (Value.slice A6_ x.f4.length c6_) from congrArg (fun l => l[6]?) he)) with ha_ _ _; rw [ha_]; exact g6_)⟩
theorem k37_mkF (W : World) (ok : Nat → Prop) (x : S37) {A5 : Option Addr} {c5 : Nat} (l5 : x.f3.f2.length ≤ c5) (g5 : Kd.F k34 W ok A5 x.f3.f2.length x.f3.f2) {A6 : Option Addr} {c6 : Nat} (l6 : x.f4.length ≤ c6) (g6 : Kd.F (Kd.int .i64) W ok A6 x.f4.length x.f4) : Kd.FK k37 W ok x [.int .i64 x.f0, .string x.f1, .string x.f2, .int .i64 x.f3.f0, .string x.f3.f1, .slice A5 x.f3.f2.length c5, .slice A6 x.f4.length c6, .int .i64 x.f5] := fun W2 hW => k37_mk W2 x l5 (g5 W2 hW) l6 (g6 W2 hW)
def rd_T37 (xs : List S37) (i : Int) : S37 := xs.getD i.toNat z37
theorem at_T37 {w : World} {A : Option Addr} {n : Nat} {xs : List S37} (h : Kd.C k37 w A n xs) (i : Int) (h0 : 0 ≤ i) (h1 : i < n) : ∃ ad A5 c5 A6 c6, A = some ad ∧ w.cell? (ad.add (i.toNat * 8)) = some (.int .i64 (rd_T37 xs i).f0) ∧ w.cell? ⟨(ad.add (i.toNat * 8)).block, (ad.add (i.toNat * 8)).off + 1, none⟩ = some (.string (rd_T37 xs i).f1) ∧ w.cell? ⟨(ad.add (i.toNat * 8)).block, (ad.add (i.toNat * 8)).off + 2, none⟩ = some (.string (rd_T37 xs i).f2) ∧ w.cell? ⟨(ad.add (i.toNat * 8)).block, (ad.add (i.toNat * 8)).off + 3, none⟩ = some (.int .i64 (rd_T37 xs i).f3.f0) ∧ w.cell? ⟨(ad.add (i.toNat * 8)).block, (ad.add (i.toNat * 8)).off + 4, none⟩ = some (.string (rd_T37 xs i).f3.f1) ∧ w.cell? ⟨(ad.add (i.toNat * 8)).block, (ad.add (i.toNat * 8)).off + 5, none⟩ = some (.slice A5 (rd_T37 xs i).f3.f2.length c5) ∧ w.cell? ⟨(ad.add (i.toNat * 8)).block, (ad.add (i.toNat * 8)).off + 6, none⟩ = some (.slice A6 (rd_T37 xs i).f4.length c6) ∧ w.cell? ⟨(ad.add (i.toNat * 8)).block, (ad.add (i.toNat * 8)).off + 7, none⟩ = some (.int .i64 (rd_T37 xs i).f5) ∧ (rd_T37 xs i).f3.f2.length ≤ c5 ∧ k34.C w A5 (rd_T37 xs i).f3.f2.length (rd_T37 xs i).f3.f2 ∧ (rd_T37 xs i).f4.length ≤ c6 ∧ (Kd.int .i64).C w A6 (rd_T37 xs i).f4.length (rd_T37 xs i).f4 := by
  obtain ⟨ad, c, e, _, hK, hc0⟩ := Kd.C_get h z37 i h0 h1
  have hc : ∀ j u, c[j]? = some u → w.cell? (ad.add (i.toNat * 8 + j)) = some u := hc0
  obtain ⟨A5, c5, A6, c6, rfl, l5, g5, l6, g6⟩ := k37_open hK
  exact ⟨ad, A5, c5, A6, c6, e, hc 0 _ rfl, by rw [← add_field _ _ 1 (by omega)]; exact hc 1 _ rfl, by rw [← add_field _ _ 2 (by omega)]; exact hc 2 _ rfl, by rw [← add_field _ _ 3 (by omega)]; exact hc 3 _ rfl, by rw [← add_field _ _ 4 (by omega)]; exact hc 4 _ rfl, by rw [← add_field _ _ 5 (by omega)]; exact hc 5 _ rfl, by rw [← add_field _ _ 6 (by omega)]; exact hc 6 _ rfl, by rw [← add_field _ _ 7 (by omega)]; exact hc 7 _ rfl, l5, g5, l6, g6⟩

/-! #### struct type 42, nested in itself -/
structure S42 where
  f0 : Int
  f1 : ByteArray
  f2 : (List S42)
def z42 : S42 := ⟨(0 : Int), (⟨#[]⟩ : ByteArray), ([] : List S42)⟩
def F42 (d : Kd S42) : Kd S42 := Kd.iso (Kd.pair (Kd.int .i64) (Kd.pair Kd.string (Kd.slice 42 d))) (fun x : S42 => (x.f0, x.f1, x.f2))
theorem mono42 : Kd.Mono F42 := Kd.mono_iso _ (Kd.mono_pair (Kd.mono_const _) (Kd.mono_pair (Kd.mono_const _) (Kd.mono_slice 42 Kd.mono_id)))
theorem sub42 : Kd.Sub F42 [42] := Kd.sub_iso _ (Kd.sub_pair (Kd.sub_const _ (by decide)) (Kd.sub_pair (Kd.sub_const _ (by decide)) (Kd.sub_slice 42 (by decide) Kd.sub_id)))
theorem sz42 : ∀ n, (Kd.upto F42 3 [42] n).sz = 3 := Kd.upto_sz (fun _ => rfl)
def k42 : Kd S42 := Kd.fix F42 3 [42] sz42 (Kd.upto_E sub42)
theorem k42_heap : Kd.Heap k42 := Kd.heap_fix (fun _ h_ => Kd.heap_iso _ (Kd.heap_pair (Kd.heap_int .i64) (Kd.heap_pair Kd.heap_string (Kd.heap_slice 42 h_))))
theorem k42_open {w : World} {x : S42} {cs : List Value} (h : k42.K w x cs) : ∃ A2 c2, cs = [.int .i64 x.f0, .string x.f1, .slice A2 x.f2.length c2] ∧ x.f2.length ≤ c2 ∧ k42.C w A2 x.f2.length x.f2 := by
  obtain ⟨n, h⟩ := h
  cases n with
  | zero => exact h.elim
  | succ n =>
    obtain ⟨_, _, rfl, rfl, ⟨_, _, rfl, rfl, ⟨A2, c2, rfl, l2, g2⟩⟩⟩ := h
    exact ⟨A2, c2, rfl, l2, Kd.fix_C g2⟩
theorem k42_openM {w : World} {base : Nat} {ok : Nat → Prop} {x : S42} {cs : List Value} (h : k42.M w base ok x cs) : ∃ v2, cs = [.int .i64 x.f0, .string x.f1, v2] ∧ k42.R 42 w base ok v2 x.f2 := by
  obtain ⟨n, h⟩ := h
  cases n with
  | zero => exact h.elim
  | succ n =>
    obtain ⟨_, _, rfl, rfl, ⟨_, _, rfl, rfl, ⟨v2, rfl, g2⟩⟩⟩ := h
    exact ⟨v2, rfl, Kd.fix_R g2⟩
theorem k42_mk (w : World) (x : S42) {A2 : Option Addr} {c2 : Nat} (l2 : x.f2.length ≤ c2) (g2 : k42.C w A2 x.f2.length x.f2) : k42.K w x [.int .i64 x.f0, .string x.f1, .slice A2 x.f2.length c2] := by
  obtain ⟨n2, q2⟩ := Kd.fix_C_back mono42 g2
  have r2 := Kd.upto_C_le mono42 sz42 (show n2 ≤ n2 by omega) q2
  exact ⟨n2 + 1, ⟨[.int .i64 x.f0], [.string x.f1, .slice A2 x.f2.length c2], rfl, rfl, ⟨[.string x.f1], [.slice A2 x.f2.length c2], rfl, rfl, ⟨A2, c2, rfl, l2, r2⟩⟩⟩⟩
theorem k42_mkM (w : World) (base : Nat) (ok : Nat → Prop) (x : S42) {v2 : Value} (g2 : k42.R 42 w base ok v2 x.f2) : k42.M w base ok x [.int .i64 x.f0, .string x.f1, v2] := by
  obtain ⟨n2, q2⟩ := Kd.fix_R_back mono42 g2
  have r2 := Kd.upto_R_le mono42 sz42 (show n2 ≤ n2 by omega) q2
  exact ⟨n2 + 1, ⟨[.int .i64 x.f0], [.string x.f1, v2], rfl, rfl, ⟨[.string x.f1], [v2], rfl, rfl, ⟨v2, rfl, r2⟩⟩⟩⟩
theorem k42_openF {W : World} {ok : Nat → Prop} {x : S42} {cs : List Value} (h : Kd.FK k42 W ok x cs) : ∃ A2 c2, cs = [.int .i64 x.f0, .string x.f1, .slice A2 x.f2.length c2] ∧ x.f2.length ≤ c2 ∧ Kd.F k42 W ok A2 x.f2.length x.f2 := by
  obtain ⟨A2, c2, rfl, l2, _⟩ := k42_open (Kd.FK_now h)
  exact ⟨A2, c2, rfl, l2, (fun W' hW => by obtain ⟨A2_, c2_, he, l2_, g2_⟩ := k42_open (h W' hW); injection (Option.some.inj (show some (Value.slice A2 x.f2.length c2) = some (Value.slice A2_ x.f2.length c2_) from congrArg (fun l => l[2]?) he)) with ha_ _ _; rw [ha_]; exact g2_)⟩
theorem k42_mkF (W : World) (ok : Nat → Prop) (x : S42) {A2 : Option Addr} {c2 : Nat} (l2 : x.f2.length ≤ c2) (g2 : Kd.F k42 W ok A2 x.f2.length x.f2) : Kd.FK k42 W ok x [.int .i64 x.f0, .string x.f1, .slice A2 x.f2.length c2] := fun W2 hW => k42_mk W2 x l2 (g2 W2 hW)
def rd_T42 (xs : List S42) (i : Int) : S42 := xs.getD i.toNat z42
theorem at_T42 {w : World} {A : Option Addr} {n : Nat} {xs : List S42} (h : Kd.C k42 w A n xs) (i : Int) (h0 : 0 ≤ i) (h1 : i < n) : ∃ ad A2 c2, A = some ad ∧ w.cell? (ad.add (i.toNat * 3)) = some (.int .i64 (rd_T42 xs i).f0) ∧ w.cell? ⟨(ad.add (i.toNat * 3)).block, (ad.add (i.toNat * 3)).off + 1, none⟩ = some (.string (rd_T42 xs i).f1) ∧ w.cell? ⟨(ad.add (i.toNat * 3)).block, (ad.add (i.toNat * 3)).off + 2, none⟩ = some (.slice A2 (rd_T42 xs i).f2.length c2) ∧ (rd_T42 xs i).f2.length ≤ c2 ∧ k42.C w A2 (rd_T42 xs i).f2.length (rd_T42 xs i).f2 := by
  obtain ⟨ad, c, e, _, hK, hc0⟩ := Kd.C_get h z42 i h0 h1
  have hc : ∀ j u, c[j]? = some u → w.cell? (ad.add (i.toNat * 3 + j)) = some u := hc0
  obtain ⟨A2, c2, rfl, l2, g2⟩ := k42_open hK
  exact ⟨ad, A2, c2, e, hc 0 _ rfl, by rw [← add_field _ _ 1 (by omega)]; exact hc 1 _ rfl, by rw [← add_field _ _ 2 (by omega)]; exact hc 2 _ rfl, l2, g2⟩

/-! #### struct type 44 -/
structure S44 where
  f0 : Int
  f1 : ByteArray
  f2 : ByteArray
  f3 : S42
  f4 : (List Int)
  f5 : Int
def z44 : S44 := ⟨(0 : Int), (⟨#[]⟩ : ByteArray), (⟨#[]⟩ : ByteArray), z42, ([] : List Int), (0 : Int)⟩
def k44 : Kd S44 := Kd.iso (Kd.pair (Kd.int .i64) (Kd.pair Kd.string (Kd.pair Kd.string (Kd.pair k42 (Kd.pair (Kd.slice 3 (Kd.int .i64)) (Kd.int .i64)))))) (fun x : S44 => (x.f0, x.f1, x.f2, x.f3, x.f4, x.f5))
theorem k44_heap : Kd.Heap k44 := Kd.heap_iso _ (Kd.heap_pair (Kd.heap_int .i64) (Kd.heap_pair Kd.heap_string (Kd.heap_pair Kd.heap_string (Kd.heap_pair k42_heap (Kd.heap_pair (Kd.heap_slice 3 (Kd.heap_int .i64)) (Kd.heap_int .i64))))))
theorem k44_open {w : World} {x : S44} {cs : List Value} (h : k44.K w x cs) : ∃ A5 c5 A6 c6, cs = [.int .i64 x.f0, .string x.f1, .string x.f2, .int .i64 x.f3.f0, .string x.f3.f1, .slice A5 x.f3.f2.length c5, .slice A6 x.f4.length c6, .int .i64 x.f5] ∧ x.f3.f2.length ≤ c5 ∧ k42.C w A5 x.f3.f2.length x.f3.f2 ∧ x.f4.length ≤ c6 ∧ (Kd.int .i64).C w A6 x.f4.length x.f4 := by
  obtain ⟨_, _, rfl, rfl, ⟨_, _, rfl, rfl, ⟨_, _, rfl, rfl, ⟨_, _, rfl, s3, ⟨_, _, rfl, ⟨A6, c6, rfl, l6, g6⟩, rfl⟩⟩⟩⟩⟩ := h
  obtain ⟨A5, c5, rfl, l5, g5⟩ := k42_open s3
  exact ⟨A5, c5, A6, c6, rfl, l5, g5, l6, g6⟩
theorem k44_openM {w : World} {base : Nat} {ok : Nat → Prop} {x : S44} {cs : List Value} (h : k44.M w base ok x cs) : ∃ v5 v6, cs = [.int .i64 x.f0, .string x.f1, .string x.f2, .int .i64 x.f3.f0, .string x.f3.f1, v5, v6, .int .i64 x.f5] ∧ k42.R 42 w base ok v5 x.f3.f2 ∧ (Kd.int .i64).R 3 w base ok v6 x.f4 := by
  obtain ⟨_, _, rfl, rfl, ⟨_, _, rfl, rfl, ⟨_, _, rfl, rfl, ⟨_, _, rfl, s3, ⟨_, _, rfl, ⟨v6, rfl, g6⟩, rfl⟩⟩⟩⟩⟩ := h
  obtain ⟨v5, rfl, g5⟩ := k42_openM s3
  exact ⟨v5, v6, rfl, g5, g6⟩
theorem k44_mk (w : World) (x : S44) {A5 : Option Addr} {c5 : Nat} (l5 : x.f3.f2.length ≤ c5) (g5 : k42.C w A5 x.f3.f2.length x.f3.f2) {A6 : Option Addr} {c6 : Nat} (l6 : x.f4.length ≤ c6) (g6 : (Kd.int .i64).C w A6 x.f4.length x.f4) : k44.K w x [.int .i64 x.f0, .string x.f1, .string x.f2, .int .i64 x.f3.f0, .string x.f3.f1, .slice A5 x.f3.f2.length c5, .slice A6 x.f4.length c6, .int .i64 x.f5] := ⟨[.int .i64 x.f0], [.string x.f1, .string x.f2, .int .i64 x.f3.f0, .string x.f3.f1, .slice A5 x.f3.f2.length c5, .slice A6 x.f4.length c6, .int .i64 x.f5], rfl, rfl, ⟨[.string x.f1], [.string x.f2, .int .i64 x.f3.f0, .string x.f3.f1, .slice A5 x.f3.f2.length c5, .slice A6 x.f4.length c6, .int .i64 x.f5], rfl, rfl, ⟨[.string x.f2], [.int .i64 x.f3.f0, .string x.f3.f1, .slice A5 x.f3.f2.length c5, .slice A6 x.f4.length c6, .int .i64 x.f5], rfl, rfl, ⟨[.int .i64 x.f3.f0, .string x.f3.f1, .slice A5 x.f3.f2.length c5], [.slice A6 x.f4.length c6, .int .i64 x.f5], rfl, (k42_mk w x.f3 l5 g5), ⟨[.slice A6 x.f4.length c6], [.int .i64 x.f5], rfl, ⟨A6, c6, rfl, l6, g6⟩, rfl⟩⟩⟩⟩⟩
theorem k44_mkM (w : World) (base : Nat) (ok : Nat → Prop) (x : S44) {v5 : Value} (g5 : k42.R 42 w base ok v5 x.f3.f2) {v6 : Value} (g6 : (Kd.int .i64).R 3 w base ok v6 x.f4) : k44.M w base ok x [.int .i64 x.f0, .string x.f1, .string x.f2, .int .i64 x.f3.f0, .string x.f3.f1, v5, v6, .int .i64 x.f5] := ⟨[.int .i64 x.f0], [.string x.f1, .string x.f2, .int .i64 x.f3.f0, .string x.f3.f1, v5, v6, .int .i64 x.f5], rfl, rfl, ⟨[.string x.f1], [.string x.f2, .int .i64 x.f3.f0, .string x.f3.f1, v5, v6, .int .i64 x.f5], rfl, rfl, ⟨[.string x.f2], [.int .i64 x.f3.f0, .string x.f3.f1, v5, v6, .int .i64 x.f5], rfl, rfl, ⟨[.int .i64 x.f3.f0, .string x.f3.f1, v5], [v6, .int .i64 x.f5], rfl, (k42_mkM w base ok x.f3 g5), ⟨[v6], [.int .i64 x.f5], rfl, ⟨v6, rfl, g6⟩, rfl⟩⟩⟩⟩⟩
theorem k44_openF {W : World} {ok : Nat → Prop} {x : S44} {cs : List Value} (h : Kd.FK k44 W ok x cs) : ∃ A5 c5 A6 c6, cs = [.int .i64 x.f0, .string x.f1, .string x.f2, .int .i64 x.f3.f0, .string x.f3.f1, .slice A5 x.f3.f2.length c5, .slice A6 x.f4.length c6, .int .i64 x.f5] ∧ x.f3.f2.length ≤ c5 ∧ Kd.F k42 W ok A5 x.f3.f2.length x.f3.f2 ∧ x.f4.length ≤ c6 ∧ Kd.F (Kd.int .i64) W ok A6 x.f4.length x.f4 := by
  obtain ⟨A5, c5, A6, c6, rfl, l5, _, l6, _⟩ := k44_open (Kd.FK_now h)
  exact ⟨A5, c5, A6, c6, rfl, l5, (fun W' hW => by obtain ⟨A5_, c5_, A6_, c6_, he, l5_, g5_, l6_, g6_⟩ := k44_open (h W' hW); injection (Option.some.inj (show some (Value.slice A5 x.f3.f2.length c5) = some (Value.slice A5_ x.f3.f2.length c5_) from congrArg (fun l => l[5]?) he)) with ha_ _ _; rw [ha_]; exact g5_), l6, (fun W' hW => by obtain ⟨A5_, c5_, A6_, c6_, he, l5_, g5_, l6_, g6_⟩ := k44_open (h W' hW); injection (Option.some.inj (show some (Value.slice A6 x.f4.length c6) = some (Value.slice A6_ x.f4.length c6_) from congrArg (fun l => l[6]?) he)) with ha_ _ _; rw [ha_]; exact g6_)⟩
theorem k44_mkF (W : World) (ok : Nat → Prop) (x : S44) {A5 : Option Addr} {c5 : Nat} (l5 : x.f3.f2.length ≤ c5) (g5 : Kd.F k42 W ok A5 x.f3.f2.length x.f3.f2) {A6 : Option Addr} {c6 : Nat} (l6 : x.f4.length ≤ c6) (g6 : Kd.F (Kd.int .i64) W ok A6 x.f4.length x.f4) : Kd.FK k44 W ok x [.int .i64 x.f0, .string x.f1, .string x.f2, .int .i64 x.f3.f0, .string x.f3.f1, .slice A5 x.f3.f2.length c5, .slice A6 x.f4.length c6, .int .i64 x.f5] := fun W2 hW => k44_mk W2 x l5 (g5 W2 hW) l6 (g6 W2 hW)
def rd_T44 (xs : List S44) (i : Int) : S44 := xs.getD i.toNat z44
theorem at_T44 {w : World} {A : Option Addr} {n : Nat} {xs : List S44} (h : Kd.C k44 w A n xs) (i : Int) (h0 : 0 ≤ i) (h1 : i < n) : ∃ ad A5 c5 A6 c6, A = some ad ∧ w.cell? (ad.add (i.toNat * 8)) = some (.int .i64 (rd_T44 xs i).f0) ∧ w.cell? ⟨(ad.add (i.toNat * 8)).block, (ad.add (i.toNat * 8)).off + 1, none⟩ = some (.string (rd_T44 xs i).f1) ∧ w.cell? ⟨(ad.add (i.toNat * 8)).block, (ad.add (i.toNat * 8)).off + 2, none⟩ = some (.string (rd_T44 xs i).f2) ∧ w.cell? ⟨(ad.add (i.toNat * 8)).block, (ad.add (i.toNat * 8)).off + 3, none⟩ = some (.int .i64 (rd_T44 xs i).f3.f0) ∧ w.cell? ⟨(ad.add (i.toNat * 8)).block, (ad.add (i.toNat * 8)).off + 4, none⟩ = some (.string (rd_T44 xs i).f3.f1) ∧ w.cell? ⟨(ad.add (i.toNat * 8)).block, (ad.add (i.toNat * 8)).off + 5, none⟩ = some (.slice A5 (rd_T44 xs i).f3.f2.length c5) ∧ w.cell? ⟨(ad.add (i.toNat * 8)).block, (ad.add (i.toNat * 8)).off + 6, none⟩ = some (.slice A6 (rd_T44 xs i).f4.length c6) ∧ w.cell? ⟨(ad.add (i.toNat * 8)).block, (ad.add (i.toNat * 8)).off + 7, none⟩ = some (.int .i64 (rd_T44 xs i).f5) ∧ (rd_T44 xs i).f3.f2.length ≤ c5 ∧ k42.C w A5 (rd_T44 xs i).f3.f2.length (rd_T44 xs i).f3.f2 ∧ (rd_T44 xs i).f4.length ≤ c6 ∧ (Kd.int .i64).C w A6 (rd_T44 xs i).f4.length (rd_T44 xs i).f4 := by
  obtain ⟨ad, c, e, _, hK, hc0⟩ := Kd.C_get h z44 i h0 h1
  have hc : ∀ j u, c[j]? = some u → w.cell? (ad.add (i.toNat * 8 + j)) = some u := hc0
  obtain ⟨A5, c5, A6, c6, rfl, l5, g5, l6, g6⟩ := k44_open hK
  exact ⟨ad, A5, c5, A6, c6, e, hc 0 _ rfl, by rw [← add_field _ _ 1 (by omega)]; exact hc 1 _ rfl, by rw [← add_field _ _ 2 (by omega)]; exact hc 2 _ rfl, by rw [← add_field _ _ 3 (by omega)]; exact hc 3 _ rfl, by rw [← add_field _ _ 4 (by omega)]; exact hc 4 _ rfl, by rw [← add_field _ _ 5 (by omega)]; exact hc 5 _ rfl, by rw [← add_field _ _ 6 (by omega)]; exact hc 6 _ rfl, by rw [← add_field _ _ 7 (by omega)]; exact hc 7 _ rfl, l5, g5, l6, g6⟩

/-! #### struct type 138 -/
structure S138 where
  f0 : ByteArray
  f1 : ByteArray
  f2 : (List Int)
def z138 : S138 := ⟨(⟨#[]⟩ : ByteArray), (⟨#[]⟩ : ByteArray), ([] : List Int)⟩
def k138 : Kd S138 := Kd.iso (Kd.pair Kd.string (Kd.pair Kd.string (Kd.slice 3 (Kd.int .i64)))) (fun x : S138 => (x.f0, x.f1, x.f2))
theorem k138_heap : Kd.Heap k138 := Kd.heap_iso _ (Kd.heap_pair Kd.heap_string (Kd.heap_pair Kd.heap_string (Kd.heap_slice 3 (Kd.heap_int .i64))))
theorem k138_open {w : World} {x : S138} {cs : List Value} (h : k138.K w x cs) : ∃ A2 c2, cs = [.string x.f0, .string x.f1, .slice A2 x.f2.length c2] ∧ x.f2.length ≤ c2 ∧ (Kd.int .i64).C w A2 x.f2.length x.f2 := by
  obtain ⟨_, _, rfl, rfl, ⟨_, _, rfl, rfl, ⟨A2, c2, rfl, l2, g2⟩⟩⟩ := h
  exact ⟨A2, c2, rfl, l2, g2⟩
theorem k138_openM {w : World} {base : Nat} {ok : Nat → Prop} {x : S138} {cs : List Value} (h : k138.M w base ok x cs) : ∃ v2, cs = [.string x.f0, .string x.f1, v2] ∧ (Kd.int .i64).R 3 w base ok v2 x.f2 := by
  obtain ⟨_, _, rfl, rfl, ⟨_, _, rfl, rfl, ⟨v2, rfl, g2⟩⟩⟩ := h
  exact ⟨v2, rfl, g2⟩
theorem k138_mk (w : World) (x : S138) {A2 : Option Addr} {c2 : Nat} (l2 : x.f2.length ≤ c2) (g2 : (Kd.int .i64).C w A2 x.f2.length x.f2) : k138.K w x [.string x.f0, .string x.f1, .slice A2 x.f2.length c2] := ⟨[.string x.f0], [.string x.f1, .slice A2 x.f2.length c2], rfl, rfl, ⟨[.string x.f1], [.slice A2 x.f2.length c2], rfl, rfl, ⟨A2, c2, rfl, l2, g2⟩⟩⟩
theorem k138_mkM (w : World) (base : Nat) (ok : Nat → Prop) (x : S138) {v2 : Value} (g2 : (Kd.int .i64).R 3 w base ok v2 x.f2) : k138.M w base ok x [.string x.f0, .string x.f1, v2] := ⟨[.string x.f0], [.string x.f1, v2], rfl, rfl, ⟨[.string x.f1], [v2], rfl, rfl, ⟨v2, rfl, g2⟩⟩⟩
theorem k138_openF {W : World} {ok : Nat → Prop} {x : S138} {cs : List Value} (h : Kd.FK k138 W ok x cs) : ∃ A2 c2, cs = [.string x.f0, .string x.f1, .slice A2 x.f2.length c2] ∧ x.f2.length ≤ c2 ∧ Kd.F (Kd.int .i64) W ok A2 x.f2.length x.f2 := by
  obtain ⟨A2, c2, rfl, l2, _⟩ := k138_open (Kd.FK_now h)
  exact ⟨A2, c2, rfl, l2, (fun W' hW => by obtain ⟨A2_, c2_, he, l2_, g2_⟩ := k138_open (h W' hW); injection (Option.some.inj (show some (Value.slice A2 x.f2.length c2) = some (Value.slice A2_ x.f2.length c2_) from congrArg (fun l => l[2]?) he)) with ha_ _ _; rw [ha_]; exact g2_)⟩
theorem k138_mkF (W : World) (ok : Nat → Prop) (x : S138) {A2 : Option Addr} {c2 : Nat} (l2 : x.f2.length ≤ c2) (g2 : Kd.F (Kd.int .i64) W ok A2 x.f2.length x.f2) : Kd.FK k138 W ok x [.string x.f0, .string x.f1, .slice A2 x.f2.length c2] := fun W2 hW => k138_mk W2 x l2 (g2 W2 hW)
def rd_T138 (xs : List S138) (i : Int) : S138 := xs.getD i.toNat z138
theorem at_T138 {w : World} {A : Option Addr} {n : Nat} {xs : List S138} (h : Kd.C k138 w A n xs) (i : Int) (h0 : 0 ≤ i) (h1 : i < n) : ∃ ad A2 c2, A = some ad ∧ w.cell? (ad.add (i.toNat * 3)) = some (.string (rd_T138 xs i).f0) ∧ w.cell? ⟨(ad.add (i.toNat * 3)).block, (ad.add (i.toNat * 3)).off + 1, none⟩ = some (.string (rd_T138 xs i).f1) ∧ w.cell? ⟨(ad.add (i.toNat * 3)).block, (ad.add (i.toNat * 3)).off + 2, none⟩ = some (.slice A2 (rd_T138 xs i).f2.length c2) ∧ (rd_T138 xs i).f2.length ≤ c2 ∧ (Kd.int .i64).C w A2 (rd_T138 xs i).f2.length (rd_T138 xs i).f2 := by
  obtain ⟨ad, c, e, _, hK, hc0⟩ := Kd.C_get h z138 i h0 h1
  have hc : ∀ j u, c[j]? = some u → w.cell? (ad.add (i.toNat * 3 + j)) = some u := hc0
  obtain ⟨A2, c2, rfl, l2, g2⟩ := k138_open hK
  exact ⟨ad, A2, c2, e, hc 0 _ rfl, by rw [← add_field _ _ 1 (by omega)]; exact hc 1 _ rfl, by rw [← add_field _ _ 2 (by omega)]; exact hc 2 _ rfl, l2, g2⟩

def rd_L10 (xs : List (List (List Int))) (i : Int) : (List (List Int)) := xs.getD i.toNat ([] : List (List Int))
theorem at_L10 {w : World} {A : Option Addr} {n : Nat} {xs : List (List (List Int))} (h : Kd.C (Kd.slice 35 (Kd.slice 3 (Kd.int .i64))) w A n xs) (i : Int) (h0 : 0 ≤ i) (h1 : i < n) : ∃ ad A0 c0, A = some ad ∧ w.cell? (ad.add i.toNat) = some (.slice A0 (rd_L10 xs i).length c0) ∧ (rd_L10 xs i).length ≤ c0 ∧ (Kd.slice 3 (Kd.int .i64)).C w A0 (rd_L10 xs i).length (rd_L10 xs i) := by
  obtain ⟨ad, c, e, _, hK, hc0⟩ := Kd.C_get h ([] : List (List Int)) i h0 h1
  have hc : ∀ j u, c[j]? = some u → w.cell? (ad.add (i.toNat * 1 + j)) = some u := hc0
  obtain ⟨A0, c0, rfl, l0, g0⟩ := hK
  exact ⟨ad, A0, c0, e, by have hq := hc 0 _ rfl; rwa [Nat.mul_one, Nat.add_zero] at hq, l0, g0⟩

end Go.Proofs.Ytpppopdmnejcfaa.A

namespace Go.Proofs.Ytpppopdmnejcfaa.A
open Go.RowKit Go.Proofs.Ytpppopdmnejcfaa.Ext Go.Proofs.YtpppopdmnejcfaaW.PrintWords Go.Proofs.YtpppopdmnejcfaaW.PrintLast Go.Proofs.YtpppopdmnejcfaaW.PrintMore
attribute [local go_sem] max2_int min2_int max_two min_two max_three min_three max_four min_four   -- for this text's walks alone
set_option linter.unusedVariables false
set_option linter.unusedSimpArgs false

/-! ### laws_szRegexS: function 163 -/
def laws_szRegexSG.l0 (gF : Nat → Int → ByteArray → List (S34) → Int → Option (Int)) : Nat → List (S34) → Int → Int → Option (Int)
  | 0, _, _, _ => none
  | k + 1, x0, x1, x5 => if x5 < (x0.length : Int) then (if 0 ≤ x5 then ((gF k ((rd_T34 x0 x5).f0) ((rd_T34 x0 x5).f1) ((rd_T34 x0 x5).f2) x1).bind fun t163002 => (if t163002 < 0 then (some (-1)) else (laws_szRegexSG.l0 gF k x0 t163002 (wrap64 (x5 + 1))))) else (none)) else (some x1)
def laws_szRegexSG.f (gF : Nat → Int → ByteArray → List (S34) → Int → Option (Int)) (k : Nat) (l0 : List (S34)) (a1 : Int) : Option (Int) := if (wrap64 (a1 - (l0.length : Int))) < 0 then (some (-1)) else (laws_szRegexSG.l0 gF k l0 (wrap64 (a1 - (l0.length : Int))) 0)
theorem laws_szRegexSG.mono_l (gF : Nat → Int → ByteArray → List (S34) → Int → Option (Int)) (gM : ∀ a0 a1 a2 a3 k, LeO (gF k a0 a1 a2 a3) (gF (k + 1) a0 a1 a2 a3)) : ∀ k, (∀ y0 y1 y2, LeO (laws_szRegexSG.l0 gF k y0 y1 y2) (laws_szRegexSG.l0 gF (k + 1) y0 y1 y2))
  | 0 => fun _ _ _ r h => by simp [laws_szRegexSG.l0] at h
  | k + 1 => by
    have ih0 := laws_szRegexSG.mono_l gF gM k
    · intro y0 y1 y2
      unfold laws_szRegexSG.l0
      repeat' first
      | (with_reducible exact ih0 _ _ _)
      | (with_reducible exact gM _ _ _ _ _)
      | (with_reducible exact LeO.refl _)
      | (with_reducible exact LeO.none _)
      | (with_reducible refine LeO.ite ?_ ?_)
      | (with_reducible refine LeO.bind ?_ (fun _ => ?_))
      | exact ih0 _ _ _
      | exact gM _ _ _ _ _
      | exact LeO.none _
      | refine LeO.ite ?_ ?_
      | refine LeO.bind ?_ (fun _ => ?_)
theorem laws_szRegexSG.mono (gF : Nat → Int → ByteArray → List (S34) → Int → Option (Int)) (gM : ∀ a0 a1 a2 a3 k, LeO (gF k a0 a1 a2 a3) (gF (k + 1) a0 a1 a2 a3)) : ∀ a0 a1 k, LeO (laws_szRegexSG.f gF k a0 a1) (laws_szRegexSG.f gF (k + 1) a0 a1) := by
  intro a0 a1 k
  have ih0 := laws_szRegexSG.mono_l gF gM k
  unfold laws_szRegexSG.f
  repeat' first
      | (with_reducible exact ih0 _ _ _)
      | (with_reducible exact gM _ _ _ _ _)
      | (with_reducible exact LeO.refl _)
      | (with_reducible exact LeO.none _)
      | (with_reducible refine LeO.ite ?_ ?_)
      | (with_reducible refine LeO.bind ?_ (fun _ => ?_))
      | exact ih0 _ _ _
      | exact gM _ _ _ _ _
      | exact LeO.none _
      | refine LeO.ite ?_ ?_
      | refine LeO.bind ?_ (fun _ => ?_)
set_option maxHeartbeats 8000000 in
set_option maxRecDepth 100000 in
theorem laws_szRegexSG.calls (gF : Nat → Int → ByteArray → List (S34) → Int → Option (Int)) (gC : ∀ (k : Nat) (a0_0 : Int) (a0_1 : ByteArray) (A0_2 : Option Addr) (c0_2 : Nat) (l0_2 : List (S34)) (a1 : Int) (r : Int) (w : World) (hr0_2 : Kd.C k34 w A0_2 l0_2.length l0_2) (hc0_2 : l0_2.length ≤ c0_2) (h : gF k a0_0 a0_1 l0_2 a1 = some r), Calls Try.prog 86 #[.agg #[.int .i64 a0_0, .string a0_1, .slice A0_2 l0_2.length c0_2], .int .i64 a1] w fun e w' => e = .returned (.int .i64 r) ∧ Below w.heap.size w w') (k : Nat) (A0 : Option Addr) (c0 : Nat) (l0 : List (S34)) (a1 : Int) (r : Int) (w : World) (hr0 : Kd.C k34 w A0 l0.length l0) (hc0 : l0.length ≤ c0) (h : laws_szRegexSG.f gF k l0 a1 = some r) :
    Calls Try.prog 163 #[.slice A0 l0.length c0, .int .i64 a1] w fun e w' => e = .returned (.int .i64 r) ∧ Below w.heap.size w w' := by
  have hu34 := Try.underlying34
  have HR0 := Aside0.mk hr0
  have HC0 := Aside0.mk hc0
  clear hr0 hc0
  have HB := Aside0.mk (Below.refl w.heap.size w)
  have H : (if (wrap64 (a1 - (l0.length : Int))) < 0 then (some (-1)) else (laws_szRegexSG.l0 gF k l0 (wrap64 (a1 - (l0.length : Int))) 0)) = some r := h
  clear h
  by_cases c3 : (wrap64 (a1 - (l0.length : Int))) < 0
  · rw [if_pos c3] at H
    have c3b0 : decide ((wrap64 (a1 - (l0.length : Int))) < 0) = true := decide_eq_true c3
    have c3w : decide ((IntKind.i64.wrap (a1 - (l0.length : Int))) < 0) = true := by simp only [i64_w]; exact c3b0
    clear c3
    obtain rfl := Option.some.inj H
    go_enter Try.func163, Try.ntmps163
    go_wp2
    go_ret
    exact ⟨by first | rfl | (simp [errW_none, errW_some] <;> rfl) | (simp [*, errW_none, errW_some] <;> rfl), by repeat (first | (with_reducible first | exact HB.out | apply below_alloc | apply pw_below_drewN | apply below_drew1) | exact HB.out)⟩
  · rw [if_neg c3] at H
    have c3b0 : decide ((wrap64 (a1 - (l0.length : Int))) < 0) = false := decide_eq_false c3
    have c3w : decide ((IntKind.i64.wrap (a1 - (l0.length : Int))) < 0) = false := by simp only [i64_w]; exact c3b0
    clear c3
    have H' := Aside0.mk H
    clear H
    go_enter Try.func163, Try.ntmps163
    go_wp2
    first | go_loopg [1, 5] k (fun kq v1 v5 w' => ∃ (x1_1 : Int) (x5_1 : Int), v1 = .int .i64 x1_1 ∧ v5 = .int .i64 x5_1 ∧ Aside0 (laws_szRegexSG.l0 gF kq l0 x1_1 x5_1 = some r) ∧ Aside0 (kq ≤ k) ∧ Aside0 (Below w.heap.size w w')) | (simp only [Act.put, List.setIfInBounds_toArray, List.set_cons_succ, List.set_cons_zero]; go_loopg [1, 5] k (fun kq v1 v5 w' => ∃ (x1_1 : Int) (x5_1 : Int), v1 = .int .i64 x1_1 ∧ v5 = .int .i64 x5_1 ∧ Aside0 (laws_szRegexSG.l0 gF kq l0 x1_1 x5_1 = some r) ∧ Aside0 (kq ≤ k) ∧ Aside0 (Below w.heap.size w w')))
    case atStart => exact ⟨(wrap64 (a1 - (l0.length : Int))), (0), (by first | rfl | (simp; done) | (simp [*]; done)), (by first | rfl | (simp; done) | (simp [*]; done)), H', ⟨Nat.le_refl _⟩, ⟨by repeat (first | (with_reducible first | exact HB.out | apply below_alloc | apply pw_below_drewN | apply below_drew1) | exact HB.out)⟩⟩
    case round =>
      clear H'
      try clear c1
      try clear p2
      try clear c3
      try clear c3b0
      obtain ⟨x1_1, x5_1, rfl, rfl, HA, HK1, HB⟩ := hrel
      cases gk with
      | zero => exact absurd HA.out (by simp [laws_szRegexSG.l0])
      | succ k1 =>
        have H := HA.out
        clear HA
        simp only [laws_szRegexSG.l0] at H
        by_cases c4 : x5_1 < (l0.length : Int)
        · rw [if_pos c4] at H
          have c4b0 : decide (x5_1 < (l0.length : Int)) = true := decide_eq_true c4
          clear c4
          by_cases c5 : 0 ≤ x5_1
          · rw [if_pos c5] at H
            have c5b0 : decide (0 ≤ x5_1) = true := decide_eq_true c5
            clear c5
            replace H := Option.bind_eq_some_iff.mp H
            obtain ⟨t163002, A60, H⟩ := H
            replace H : (if t163002 < 0 then (some (-1)) else (laws_szRegexSG.l0 gF k1 l0 t163002 (wrap64 (x5_1 + 1)))) = some r := H
            have A6 := Aside0.mk A60
            clear A60
            by_cases c7 : t163002 < 0
            · rw [if_pos c7] at H
              have c7b0 : decide (t163002 < 0) = true := decide_eq_true c7
              clear c7
              obtain rfl := Option.some.inj H
              have p163001 : 0 ≤ (x5_1 : Int) := of_decide_eq_true (by first | (with_reducible assumption) | assumption)
              have q163001 : x5_1 < (l0.length : Int) := of_decide_eq_true (by first | (with_reducible assumption) | assumption)
              obtain ⟨ad163001, A163001_2, c163001_2, e163001, hx163001_0, hx163001_1, hx163001_2, hl163001_2, hi163001_2⟩ := at_T34 HR0.out x5_1 p163001 q163001
              cases e163001
              replace hx163001_0 := (HB.out.cell (World.block_lt_of_cell? w _ hx163001_0)).trans hx163001_0
              replace hx163001_1 := (HB.out.cell (World.block_lt_of_cell? w _ hx163001_1)).trans hx163001_1
              replace hx163001_2 := (HB.out.cell (World.block_lt_of_cell? w _ hx163001_2)).trans hx163001_2
              have HR163001_2 := Aside0.mk hi163001_2
              have HC163001_2 := Aside0.mk hl163001_2
              clear hi163001_2 hl163001_2
              replace p163001 := eq_true p163001
              replace q163001 := eq_true q163001
              go_wp2_with (first | ((with_reducible refine gate_callee (f := 86) rfl ?_); refine goesL_ (some 23) rfl rfl Try.func86 (by kernel_rfl) rfl #[.agg #[.int .i64 ((rd_T34 l0 x5_1).f0), .string ((rd_T34 l0 x5_1).f1), .slice A163001_2 ((rd_T34 l0 x5_1).f2).length c163001_2], .int .i64 x1_1] rfl (by (try simp only [List.map_toArray, List.map_cons, List.map_nil]); first | done | rfl | (simp only [List.length_drop, List.length_take]; rfl)) ?_; (with_reducible refine (gC k1 ((rd_T34 l0 x5_1).f0) ((rd_T34 l0 x5_1).f1) _ _ ((rd_T34 l0 x5_1).f2) x1_1 t163002 _ ?side1 ?side2 A6.out).mono ?_); (case side1 => repeat (first | exact (Kd.C_below HR163001_2.out HB.out) | (with_reducible refine Kd.C_alloc ?_ _) | (with_reducible refine Kd.C_drewN ?_ _) | (with_reducible refine Kd.C_drew ?_))); (case side2 => exact HC163001_2.out); rintro e w8 ⟨rfl, hb⟩; refine ⟨_, rfl, ?_⟩; have n0_ := Aside0.mk (below_step (by repeat (first | (with_reducible first | exact HB.out | apply below_alloc | apply pw_below_drewN | apply below_drew1) | exact HB.out)) hb); clear HB; have HB := n0_; clear n0_; (try clear hb); (try clear hb2); (try clear hk); (try clear hi)))
              go_ret
              exact ⟨by first | rfl | (simp [errW_none, errW_some] <;> rfl) | (simp [*, errW_none, errW_some] <;> rfl), by repeat (first | (with_reducible first | exact HB.out | apply below_alloc | apply pw_below_drewN | apply below_drew1) | exact HB.out)⟩
            · rw [if_neg c7] at H
              have c7b0 : decide (t163002 < 0) = false := decide_eq_false c7
              clear c7
              have H' := Aside0.mk H
              clear H
              have p163001 : 0 ≤ (x5_1 : Int) := of_decide_eq_true (by first | (with_reducible assumption) | assumption)
              have q163001 : x5_1 < (l0.length : Int) := of_decide_eq_true (by first | (with_reducible assumption) | assumption)
              obtain ⟨ad163001, A163001_2, c163001_2, e163001, hx163001_0, hx163001_1, hx163001_2, hl163001_2, hi163001_2⟩ := at_T34 HR0.out x5_1 p163001 q163001
              cases e163001
              replace hx163001_0 := (HB.out.cell (World.block_lt_of_cell? w _ hx163001_0)).trans hx163001_0
              replace hx163001_1 := (HB.out.cell (World.block_lt_of_cell? w _ hx163001_1)).trans hx163001_1
              replace hx163001_2 := (HB.out.cell (World.block_lt_of_cell? w _ hx163001_2)).trans hx163001_2
              have HR163001_2 := Aside0.mk hi163001_2
              have HC163001_2 := Aside0.mk hl163001_2
              clear hi163001_2 hl163001_2
              replace p163001 := eq_true p163001
              replace q163001 := eq_true q163001
              go_wp2_with (first | ((with_reducible refine gate_callee (f := 86) rfl ?_); refine goesL_ (some 23) rfl rfl Try.func86 (by kernel_rfl) rfl #[.agg #[.int .i64 ((rd_T34 l0 x5_1).f0), .string ((rd_T34 l0 x5_1).f1), .slice A163001_2 ((rd_T34 l0 x5_1).f2).length c163001_2], .int .i64 x1_1] rfl (by (try simp only [List.map_toArray, List.map_cons, List.map_nil]); first | done | rfl | (simp only [List.length_drop, List.length_take]; rfl)) ?_; (with_reducible refine (gC k1 ((rd_T34 l0 x5_1).f0) ((rd_T34 l0 x5_1).f1) _ _ ((rd_T34 l0 x5_1).f2) x1_1 t163002 _ ?side1 ?side2 A6.out).mono ?_); (case side1 => repeat (first | exact (Kd.C_below HR163001_2.out HB.out) | (with_reducible refine Kd.C_alloc ?_ _) | (with_reducible refine Kd.C_drewN ?_ _) | (with_reducible refine Kd.C_drew ?_))); (case side2 => exact HC163001_2.out); rintro e w9 ⟨rfl, hb⟩; refine ⟨_, rfl, ?_⟩; have n0_ := Aside0.mk (below_step (by repeat (first | (with_reducible first | exact HB.out | apply below_alloc | apply pw_below_drewN | apply below_drew1) | exact HB.out)) hb); clear HB; have HB := n0_; clear n0_; (try clear hb); (try clear hb2); (try clear hk); (try clear hi)))
              go_roundg k1
              case measure => have := HK1.out; omega
              case rel => exact ⟨(t163002), (wrap64 (x5_1 + 1)), (by first | rfl | (simp; done) | (simp [*]; done)), (by first | rfl | (simp; done) | (simp [*]; done)), H', ⟨by have := HK1.out; omega⟩, ⟨by repeat (first | (with_reducible first | exact HB.out | apply below_alloc | apply pw_below_drewN | apply below_drew1) | exact HB.out)⟩⟩
          · rw [if_neg c5] at H
            exact absurd H (by simp)
        · rw [if_neg c4] at H
          have c4b0 : decide (x5_1 < (l0.length : Int)) = false := decide_eq_false c4
          clear c4
          obtain rfl := Option.some.inj H
          go_wp2
          go_ret
          exact ⟨by first | rfl | (simp [errW_none, errW_some] <;> rfl) | (simp [*, errW_none, errW_some] <;> rfl), by repeat (first | (with_reducible first | exact HB.out | apply below_alloc | apply pw_below_drewN | apply below_drew1) | exact HB.out)⟩
theorem laws_szRegexSG.mono_lg (gF gF2 : Nat → Int → ByteArray → List (S34) → Int → Option (Int)) (hg : ∀ b0 b1 b2 b3 k, LeO (gF k b0 b1 b2 b3) (gF2 k b0 b1 b2 b3)) : ∀ k, (∀ y0 y1 y2, LeO (laws_szRegexSG.l0 gF k y0 y1 y2) (laws_szRegexSG.l0 gF2 k y0 y1 y2))
  | 0 => fun _ _ _ r h => by simp [laws_szRegexSG.l0] at h
  | k + 1 => by
    have ih0 := laws_szRegexSG.mono_lg gF gF2 hg k
    · intro y0 y1 y2
      unfold laws_szRegexSG.l0
      repeat' first
      | (with_reducible exact ih0 _ _ _)
      | (with_reducible exact hg _ _ _ _ _)
      | (with_reducible exact LeO.refl _)
      | (with_reducible exact LeO.none _)
      | (with_reducible refine LeO.ite ?_ ?_)
      | (with_reducible refine LeO.bind ?_ (fun _ => ?_))
      | exact ih0 _ _ _
      | exact hg _ _ _ _ _
      | exact LeO.none _
      | refine LeO.ite ?_ ?_
      | refine LeO.bind ?_ (fun _ => ?_)
theorem laws_szRegexSG.monog (gF gF2 : Nat → Int → ByteArray → List (S34) → Int → Option (Int)) (hg : ∀ b0 b1 b2 b3 k, LeO (gF k b0 b1 b2 b3) (gF2 k b0 b1 b2 b3)) : ∀ a0 a1 k, LeO (laws_szRegexSG.f gF k a0 a1) (laws_szRegexSG.f gF2 k a0 a1) := by
  intro a0 a1 k
  have ih0 := laws_szRegexSG.mono_lg gF gF2 hg k
  unfold laws_szRegexSG.f
  repeat' first
      | (with_reducible exact ih0 _ _ _)
      | (with_reducible exact hg _ _ _ _ _)
      | (with_reducible exact LeO.refl _)
      | (with_reducible exact LeO.none _)
      | (with_reducible refine LeO.ite ?_ ?_)
      | (with_reducible refine LeO.bind ?_ (fun _ => ?_))
      | exact ih0 _ _ _
      | exact hg _ _ _ _ _
      | exact LeO.none _
      | refine LeO.ite ?_ ?_
      | refine LeO.bind ?_ (fun _ => ?_)
/-! ### laws_szRegex: function 86 -/
def laws_szRegexG.f (gF : Nat → Int → ByteArray → List (S34) → Int → Option (Int)) (k : Nat) (a0_0 : Int) (a0_1 : ByteArray) (l0_2 : List (S34)) (a1 : Int) : Option (Int) := if (wrap64 (a1 - (a0_1.size : Int))) < 0 then (some (-1)) else ((laws_szRegexSG.f gF k l0_2 (wrap64 (a1 - (a0_1.size : Int)))).bind fun t86002 => (if t86002 < 0 then (some (-1)) else (some t86002)))
theorem laws_szRegexG.mono (gF : Nat → Int → ByteArray → List (S34) → Int → Option (Int)) (gM : ∀ a0 a1 a2 a3 k, LeO (gF k a0 a1 a2 a3) (gF (k + 1) a0 a1 a2 a3)) : ∀ a0 a1 a2 a3 k, LeO (laws_szRegexG.f gF k a0 a1 a2 a3) (laws_szRegexG.f gF (k + 1) a0 a1 a2 a3) := by
  intro a0 a1 a2 a3 k
  unfold laws_szRegexG.f
  repeat' first
      | (with_reducible exact laws_szRegexSG.mono gF gM _ _ _)
      | (with_reducible exact LeO.refl _)
      | (with_reducible exact LeO.none _)
      | (with_reducible refine LeO.ite ?_ ?_)
      | (with_reducible refine LeO.bind ?_ (fun _ => ?_))
      | exact laws_szRegexSG.mono gF gM _ _ _
      | exact LeO.none _
      | refine LeO.ite ?_ ?_
      | refine LeO.bind ?_ (fun _ => ?_)
set_option maxHeartbeats 8000000 in
set_option maxRecDepth 100000 in
theorem laws_szRegexG.calls (gF : Nat → Int → ByteArray → List (S34) → Int → Option (Int)) (gC : ∀ (k : Nat) (a0_0 : Int) (a0_1 : ByteArray) (A0_2 : Option Addr) (c0_2 : Nat) (l0_2 : List (S34)) (a1 : Int) (r : Int) (w : World) (hr0_2 : Kd.C k34 w A0_2 l0_2.length l0_2) (hc0_2 : l0_2.length ≤ c0_2) (h : gF k a0_0 a0_1 l0_2 a1 = some r), Calls Try.prog 86 #[.agg #[.int .i64 a0_0, .string a0_1, .slice A0_2 l0_2.length c0_2], .int .i64 a1] w fun e w' => e = .returned (.int .i64 r) ∧ Below w.heap.size w w') (k : Nat) (a0_0 : Int) (a0_1 : ByteArray) (A0_2 : Option Addr) (c0_2 : Nat) (l0_2 : List (S34)) (a1 : Int) (r : Int) (w : World) (hr0_2 : Kd.C k34 w A0_2 l0_2.length l0_2) (hc0_2 : l0_2.length ≤ c0_2) (h : laws_szRegexG.f gF k a0_0 a0_1 l0_2 a1 = some r) :
    Calls Try.prog 86 #[.agg #[.int .i64 a0_0, .string a0_1, .slice A0_2 l0_2.length c0_2], .int .i64 a1] w fun e w' => e = .returned (.int .i64 r) ∧ Below w.heap.size w w' := by
  have hu34 := Try.underlying34
  have HR0_2 := Aside0.mk hr0_2
  have HC0_2 := Aside0.mk hc0_2
  clear hr0_2 hc0_2
  have HB := Aside0.mk (Below.refl w.heap.size w)
  have H : (if (wrap64 (a1 - (a0_1.size : Int))) < 0 then (some (-1)) else ((laws_szRegexSG.f gF k l0_2 (wrap64 (a1 - (a0_1.size : Int)))).bind fun t86002 => (if t86002 < 0 then (some (-1)) else (some t86002)))) = some r := h
  clear h
  by_cases c3 : (wrap64 (a1 - (a0_1.size : Int))) < 0
  · rw [if_pos c3] at H
    have c3b0 : decide ((wrap64 (a1 - (a0_1.size : Int))) < 0) = true := decide_eq_true c3
    have c3w : decide ((IntKind.i64.wrap (a1 - (a0_1.size : Int))) < 0) = true := by simp only [i64_w]; exact c3b0
    clear c3
    obtain rfl := Option.some.inj H
    go_enter Try.func86, Try.ntmps86
    go_wp2_with (first | ((with_reducible refine gate_dst (N := 2) rfl ?_); refine box_event ?hg (N := 2) ?hd (cs := #[.int .i64 a0_0, .string a0_1, .slice A0_2 l0_2.length c0_2]) (t := 34) ?hr ?_; (case hd => rfl); (case hg => rfl); (case hr => first | (go_simp; done) | (go_simp; rfl)); intro gb86001 hg w4 hbox hb; have n0_ := Aside0.mk (below_step (by repeat (first | (with_reducible first | exact HB.out | apply below_alloc | apply pw_below_drewN | apply below_drew1) | exact HB.out)) hb); have n1_ := Aside0.mk (hbox); have n2_ := Aside0.mk ((by rw [hg]; exact (below_size (by repeat (first | (with_reducible first | exact HB.out | apply below_alloc | apply pw_below_drewN | apply below_drew1) | exact HB.out))) : w.heap.size ≤ gb86001)); have n3_ := Aside0.mk ((by rw [hg]; exact (below_size (by repeat (first | (with_reducible first | exact HB.out | apply below_alloc | apply pw_below_drewN | apply below_drew1) | exact HB.out))) : w.heap.size ≤ gb86001)); clear HB; have HB := n0_; have BK86001 := n1_; have GW86001 := n2_; have GE86001 := n3_; clear n0_ n1_ n2_ n3_; clear hb hbox hg; have hcz5_0 : w4.cell? ⟨gb86001, 0, none⟩ = some (.int .i64 a0_0) := (blk_cell BK86001.out 0).trans rfl; have hcz5_1 : w4.cell? ⟨gb86001, 1, none⟩ = some (.string a0_1) := (blk_cell BK86001.out 1).trans rfl; have hcz5_2 : w4.cell? ⟨gb86001, 2, none⟩ = some (.slice A0_2 l0_2.length c0_2) := (blk_cell BK86001.out 2).trans rfl; have hfz5_0 := blk_frozen BK86001.out 0; have hfz5_1 := blk_frozen BK86001.out 1; have hfz5_2 := blk_frozen BK86001.out 2))
    go_ret
    exact ⟨by first | rfl | (simp [errW_none, errW_some] <;> rfl) | (simp [*, errW_none, errW_some] <;> rfl), by repeat (first | (with_reducible first | exact HB.out | apply below_alloc | apply pw_below_drewN | apply below_drew1 | refine below_set ?_ GE86001.out) | exact HB.out)⟩
  · rw [if_neg c3] at H
    have c3b0 : decide ((wrap64 (a1 - (a0_1.size : Int))) < 0) = false := decide_eq_false c3
    have c3w : decide ((IntKind.i64.wrap (a1 - (a0_1.size : Int))) < 0) = false := by simp only [i64_w]; exact c3b0
    clear c3
    replace H := Option.bind_eq_some_iff.mp H
    obtain ⟨t86002, A60, H⟩ := H
    replace H : (if t86002 < 0 then (some (-1)) else (some t86002)) = some r := H
    have A6 := Aside0.mk A60
    clear A60
    by_cases c7 : t86002 < 0
    · rw [if_pos c7] at H
      have c7b0 : decide (t86002 < 0) = true := decide_eq_true c7
      clear c7
      obtain rfl := Option.some.inj H
      go_enter Try.func86, Try.ntmps86
      go_wp2_with (first | ((with_reducible refine gate_dst (N := 2) rfl ?_); refine box_event ?hg (N := 2) ?hd (cs := #[.int .i64 a0_0, .string a0_1, .slice A0_2 l0_2.length c0_2]) (t := 34) ?hr ?_; (case hd => rfl); (case hg => rfl); (case hr => first | (go_simp; done) | (go_simp; rfl)); intro gb86001 hg w8 hbox hb; have n0_ := Aside0.mk (below_step (by repeat (first | (with_reducible first | exact HB.out | apply below_alloc | apply pw_below_drewN | apply below_drew1) | exact HB.out)) hb); have n1_ := Aside0.mk (hbox); have n2_ := Aside0.mk ((by rw [hg]; exact (below_size (by repeat (first | (with_reducible first | exact HB.out | apply below_alloc | apply pw_below_drewN | apply below_drew1) | exact HB.out))) : w.heap.size ≤ gb86001)); have n3_ := Aside0.mk ((by rw [hg]; exact (below_size (by repeat (first | (with_reducible first | exact HB.out | apply below_alloc | apply pw_below_drewN | apply below_drew1) | exact HB.out))) : w.heap.size ≤ gb86001)); clear HB; have HB := n0_; have BK86001 := n1_; have GW86001 := n2_; have GE86001 := n3_; clear n0_ n1_ n2_ n3_; clear hb hbox hg; have hcz9_0 : w8.cell? ⟨gb86001, 0, none⟩ = some (.int .i64 a0_0) := (blk_cell BK86001.out 0).trans rfl; have hcz9_1 : w8.cell? ⟨gb86001, 1, none⟩ = some (.string a0_1) := (blk_cell BK86001.out 1).trans rfl; have hcz9_2 : w8.cell? ⟨gb86001, 2, none⟩ = some (.slice A0_2 l0_2.length c0_2) := (blk_cell BK86001.out 2).trans rfl; have hfz9_0 := blk_frozen BK86001.out 0; have hfz9_1 := blk_frozen BK86001.out 1; have hfz9_2 := blk_frozen BK86001.out 2) | ((with_reducible refine gate_callee (f := 163) rfl ?_); refine goesL_ (some 15) rfl rfl Try.func163 (by kernel_rfl) rfl #[.slice A0_2 l0_2.length c0_2, .int .i64 (wrap64 (a1 - (a0_1.size : Int)))] rfl (by (try simp only [List.map_toArray, List.map_cons, List.map_nil]); first | done | rfl | (simp only [List.length_drop, List.length_take]; rfl)) ?_; (with_reducible refine (laws_szRegexSG.calls gF gC k _ _ l0_2 (wrap64 (a1 - (a0_1.size : Int))) t86002 _ ?side1 ?side2 A6.out).mono ?_); (case side1 => repeat (first | exact (Kd.C_below HR0_2.out HB.out) | (with_reducible refine Kd.C_alloc ?_ _) | (with_reducible refine Kd.C_drewN ?_ _) | (with_reducible refine Kd.C_drew ?_))); (case side2 => exact HC0_2.out); rintro e w10 ⟨rfl, hb⟩; refine ⟨_, rfl, ?_⟩; have n0_ := Aside0.mk (blk_below (g := gb86001) (o := .cells #[.int .i64 a0_0, .string a0_1, .slice A0_2 l0_2.length c0_2] 34 (0, 0)) (by (with_reducible repeat (first | refine blk_drewN ?_ _ | refine blk_drew ?_ | refine blk_alloc ?_ _)); exact BK86001.out) hb); have n1_ := Aside0.mk (below_step (by repeat (first | (with_reducible first | exact HB.out | apply below_alloc | apply pw_below_drewN | apply below_drew1 | refine below_set ?_ GE86001.out) | exact HB.out)) hb); clear BK86001; clear HB; have BK86001 := n0_; have HB := n1_; clear n0_ n1_; (try clear hb); (try clear hb2); (try clear hk); (try clear hi)))
      go_ret
      exact ⟨by first | rfl | (simp [errW_none, errW_some] <;> rfl) | (simp [*, errW_none, errW_some] <;> rfl), by repeat (first | (with_reducible first | exact HB.out | apply below_alloc | apply pw_below_drewN | apply below_drew1 | refine below_set ?_ GE86001.out) | exact HB.out)⟩
    · rw [if_neg c7] at H
      have c7b0 : decide (t86002 < 0) = false := decide_eq_false c7
      clear c7
      obtain rfl := Option.some.inj H
      go_enter Try.func86, Try.ntmps86
      go_wp2_with (first | ((with_reducible refine gate_dst (N := 2) rfl ?_); refine box_event ?hg (N := 2) ?hd (cs := #[.int .i64 a0_0, .string a0_1, .slice A0_2 l0_2.length c0_2]) (t := 34) ?hr ?_; (case hd => rfl); (case hg => rfl); (case hr => first | (go_simp; done) | (go_simp; rfl)); intro gb86001 hg w11 hbox hb; have n0_ := Aside0.mk (below_step (by repeat (first | (with_reducible first | exact HB.out | apply below_alloc | apply pw_below_drewN | apply below_drew1) | exact HB.out)) hb); have n1_ := Aside0.mk (hbox); have n2_ := Aside0.mk ((by rw [hg]; exact (below_size (by repeat (first | (with_reducible first | exact HB.out | apply below_alloc | apply pw_below_drewN | apply below_drew1) | exact HB.out))) : w.heap.size ≤ gb86001)); have n3_ := Aside0.mk ((by rw [hg]; exact (below_size (by repeat (first | (with_reducible first | exact HB.out | apply below_alloc | apply pw_below_drewN | apply below_drew1) | exact HB.out))) : w.heap.size ≤ gb86001)); clear HB; have HB := n0_; have BK86001 := n1_; have GW86001 := n2_; have GE86001 := n3_; clear n0_ n1_ n2_ n3_; clear hb hbox hg; have hcz12_0 : w11.cell? ⟨gb86001, 0, none⟩ = some (.int .i64 a0_0) := (blk_cell BK86001.out 0).trans rfl; have hcz12_1 : w11.cell? ⟨gb86001, 1, none⟩ = some (.string a0_1) := (blk_cell BK86001.out 1).trans rfl; have hcz12_2 : w11.cell? ⟨gb86001, 2, none⟩ = some (.slice A0_2 l0_2.length c0_2) := (blk_cell BK86001.out 2).trans rfl; have hfz12_0 := blk_frozen BK86001.out 0; have hfz12_1 := blk_frozen BK86001.out 1; have hfz12_2 := blk_frozen BK86001.out 2) | ((with_reducible refine gate_callee (f := 163) rfl ?_); refine goesL_ (some 15) rfl rfl Try.func163 (by kernel_rfl) rfl #[.slice A0_2 l0_2.length c0_2, .int .i64 (wrap64 (a1 - (a0_1.size : Int)))] rfl (by (try simp only [List.map_toArray, List.map_cons, List.map_nil]); first | done | rfl | (simp only [List.length_drop, List.length_take]; rfl)) ?_; (with_reducible refine (laws_szRegexSG.calls gF gC k _ _ l0_2 (wrap64 (a1 - (a0_1.size : Int))) t86002 _ ?side1 ?side2 A6.out).mono ?_); (case side1 => repeat (first | exact (Kd.C_below HR0_2.out HB.out) | (with_reducible refine Kd.C_alloc ?_ _) | (with_reducible refine Kd.C_drewN ?_ _) | (with_reducible refine Kd.C_drew ?_))); (case side2 => exact HC0_2.out); rintro e w13 ⟨rfl, hb⟩; refine ⟨_, rfl, ?_⟩; have n0_ := Aside0.mk (blk_below (g := gb86001) (o := .cells #[.int .i64 a0_0, .string a0_1, .slice A0_2 l0_2.length c0_2] 34 (0, 0)) (by (with_reducible repeat (first | refine blk_drewN ?_ _ | refine blk_drew ?_ | refine blk_alloc ?_ _)); exact BK86001.out) hb); have n1_ := Aside0.mk (below_step (by repeat (first | (with_reducible first | exact HB.out | apply below_alloc | apply pw_below_drewN | apply below_drew1 | refine below_set ?_ GE86001.out) | exact HB.out)) hb); clear BK86001; clear HB; have BK86001 := n0_; have HB := n1_; clear n0_ n1_; (try clear hb); (try clear hb2); (try clear hk); (try clear hi)))
      go_ret
      exact ⟨by first | rfl | (simp [errW_none, errW_some] <;> rfl) | (simp [*, errW_none, errW_some] <;> rfl), by repeat (first | (with_reducible first | exact HB.out | apply below_alloc | apply pw_below_drewN | apply below_drew1 | refine below_set ?_ GE86001.out) | exact HB.out)⟩
theorem laws_szRegexG.monog (gF gF2 : Nat → Int → ByteArray → List (S34) → Int → Option (Int)) (hg : ∀ b0 b1 b2 b3 k, LeO (gF k b0 b1 b2 b3) (gF2 k b0 b1 b2 b3)) : ∀ a0 a1 a2 a3 k, LeO (laws_szRegexG.f gF k a0 a1 a2 a3) (laws_szRegexG.f gF2 k a0 a1 a2 a3) := by
  intro a0 a1 a2 a3 k
  unfold laws_szRegexG.f
  repeat' first
      | (with_reducible exact laws_szRegexSG.monog gF gF2 hg _ _ _)
      | (with_reducible exact LeO.refl _)
      | (with_reducible exact LeO.none _)
      | (with_reducible refine LeO.ite ?_ ?_)
      | (with_reducible refine LeO.bind ?_ (fun _ => ?_))
      | exact laws_szRegexSG.monog gF gF2 hg _ _ _
      | exact LeO.none _
      | refine LeO.ite ?_ ?_
      | refine LeO.bind ?_ (fun _ => ?_)

def laws_szRegex.f : Nat → Int → ByteArray → List (S34) → Int → Option (Int)
  | 0, _, _, _, _ => none
  | K + 1, a0_, a1_, a2_, a3_ => laws_szRegexG.f (fun _ => laws_szRegex.f K) K a0_ a1_ a2_ a3_
theorem laws_szRegex.mono : ∀ a0 a1 a2 a3 k, LeO (laws_szRegex.f k a0 a1 a2 a3) (laws_szRegex.f (k + 1) a0 a1 a2 a3) := by
  intro a0_ a1_ a2_ a3_ k
  induction k generalizing a0_ a1_ a2_ a3_ with
  | zero => exact LeO.none _
  | succ K ih =>
    intro r h
    have h1 := laws_szRegexG.monog (fun _ => laws_szRegex.f K) (fun _ => laws_szRegex.f (K + 1)) (fun a0_ a1_ a2_ a3_ k => ih a0_ a1_ a2_ a3_) a0_ a1_ a2_ a3_ K r h
    exact laws_szRegexG.mono (fun _ => laws_szRegex.f (K + 1)) (fun a0_ a1_ a2_ a3_ k => LeO.refl _) a0_ a1_ a2_ a3_ K r h1
theorem laws_szRegex.calls (k : Nat) (a0_0 : Int) (a0_1 : ByteArray) (A0_2 : Option Addr) (c0_2 : Nat) (l0_2 : List (S34)) (a1 : Int) (r : Int) (w : World) (hr0_2 : Kd.C k34 w A0_2 l0_2.length l0_2) (hc0_2 : l0_2.length ≤ c0_2) (h : laws_szRegex.f k a0_0 a0_1 l0_2 a1 = some r) :
    Calls Try.prog 86 #[.agg #[.int .i64 a0_0, .string a0_1, .slice A0_2 l0_2.length c0_2], .int .i64 a1] w fun e w' => e = .returned (.int .i64 r) ∧ Below w.heap.size w w' := by
  induction k generalizing a0_0 a0_1 A0_2 c0_2 l0_2 a1 r w hr0_2 hc0_2 with
  | zero => exact absurd h (by simp [laws_szRegex.f])
  | succ K ih => exact laws_szRegexG.calls (fun _ => laws_szRegex.f K) (fun k a0_0 a0_1 A0_2 c0_2 l0_2 a1 r w hr0_2 hc0_2 h => ih a0_0 a0_1 A0_2 c0_2 l0_2 a1 r w hr0_2 hc0_2 h) K a0_0 a0_1 A0_2 c0_2 l0_2 a1 r w hr0_2 hc0_2 h
def laws_szRegexS.f (k : Nat) (l0 : List (S34)) (a1 : Int) : Option (Int) := laws_szRegexSG.f laws_szRegex.f k l0 a1
theorem laws_szRegexS.mono : ∀ a0 a1 k, LeO (laws_szRegexS.f k a0 a1) (laws_szRegexS.f (k + 1) a0 a1) := laws_szRegexSG.mono laws_szRegex.f laws_szRegex.mono
theorem laws_szRegexS.calls (k : Nat) (A0 : Option Addr) (c0 : Nat) (l0 : List (S34)) (a1 : Int) (r : Int) (w : World) (hr0 : Kd.C k34 w A0 l0.length l0) (hc0 : l0.length ≤ c0) (h : laws_szRegexS.f k l0 a1 = some r) :
    Calls Try.prog 163 #[.slice A0 l0.length c0, .int .i64 a1] w fun e w' => e = .returned (.int .i64 r) ∧ Below w.heap.size w w' := laws_szRegexSG.calls laws_szRegex.f laws_szRegex.calls k A0 c0 l0 a1 r w hr0 hc0 h

/-! ### laws_toRegexS: function 167 -/
def laws_toRegexSG.l0 (gF : Nat → Int → ByteArray → List (S34) → Option (Int × ByteArray × (List (S42)))) : Nat → List (S34) → List (S42) → Int → Option ((List (S42)))
  | 0, _, _, _ => none
  | k + 1, x0, x3, x4 => if x4 < (x0.length : Int) then (if 0 ≤ x4 then ((gF k ((rd_T34 x0 x4).f0) ((rd_T34 x0 x4).f1) ((rd_T34 x0 x4).f2)).bind fun bt167005 => (if x4 < (x3.length : Int) then (laws_toRegexSG.l0 gF k x0 (x3.set (x4 : Int).toNat (⟨bt167005.1, bt167005.2.1, bt167005.2.2⟩ : S42)) (wrap64 (x4 + 1))) else (none))) else (none)) else (some x3)
def laws_toRegexSG.f (gF : Nat → Int → ByteArray → List (S34) → Option (Int × ByteArray × (List (S42)))) (k : Nat) (l0 : List (S34)) : Option ((List (S42))) := if 0 ≤ (l0.length : Int) then (if ((l0.length : Int) : Int).toNat ≤ 5864062014805 then (laws_toRegexSG.l0 gF k l0 (List.replicate ((l0.length : Int) : Int).toNat z42) 0) else (none)) else (none)
theorem laws_toRegexSG.mono_l (gF : Nat → Int → ByteArray → List (S34) → Option (Int × ByteArray × (List (S42)))) (gM : ∀ a0 a1 a2 k, LeO (gF k a0 a1 a2) (gF (k + 1) a0 a1 a2)) : ∀ k, (∀ y0 y1 y2, LeO (laws_toRegexSG.l0 gF k y0 y1 y2) (laws_toRegexSG.l0 gF (k + 1) y0 y1 y2))
  | 0 => fun _ _ _ r h => by simp [laws_toRegexSG.l0] at h
  | k + 1 => by
    have ih0 := laws_toRegexSG.mono_l gF gM k
    · intro y0 y1 y2
      unfold laws_toRegexSG.l0
      repeat' first
      | (with_reducible exact ih0 _ _ _)
      | (with_reducible exact gM _ _ _ _)
      | (with_reducible exact LeO.refl _)
      | (with_reducible exact LeO.none _)
      | (with_reducible refine LeO.ite ?_ ?_)
      | (with_reducible refine LeO.bind ?_ (fun _ => ?_))
      | exact ih0 _ _ _
      | exact gM _ _ _ _
      | exact LeO.none _
      | refine LeO.ite ?_ ?_
      | refine LeO.bind ?_ (fun _ => ?_)
theorem laws_toRegexSG.mono (gF : Nat → Int → ByteArray → List (S34) → Option (Int × ByteArray × (List (S42)))) (gM : ∀ a0 a1 a2 k, LeO (gF k a0 a1 a2) (gF (k + 1) a0 a1 a2)) : ∀ a0 k, LeO (laws_toRegexSG.f gF k a0) (laws_toRegexSG.f gF (k + 1) a0) := by
  intro a0 k
  have ih0 := laws_toRegexSG.mono_l gF gM k
  unfold laws_toRegexSG.f
  repeat' first
      | (with_reducible exact ih0 _ _ _)
      | (with_reducible exact gM _ _ _ _)
      | (with_reducible exact LeO.refl _)
      | (with_reducible exact LeO.none _)
      | (with_reducible refine LeO.ite ?_ ?_)
      | (with_reducible refine LeO.bind ?_ (fun _ => ?_))
      | exact ih0 _ _ _
      | exact gM _ _ _ _
      | exact LeO.none _
      | refine LeO.ite ?_ ?_
      | refine LeO.bind ?_ (fun _ => ?_)
set_option maxHeartbeats 8000000 in
set_option maxRecDepth 100000 in
theorem laws_toRegexSG.calls (gF : Nat → Int → ByteArray → List (S34) → Option (Int × ByteArray × (List (S42)))) (gC : ∀ (k : Nat) (a0_0 : Int) (a0_1 : ByteArray) (A0_2 : Option Addr) (c0_2 : Nat) (l0_2 : List (S34)) (r1 : Int) (r2 : ByteArray) (r3 : List (S42)) (w : World) (hr0_2 : Kd.C k34 w A0_2 l0_2.length l0_2) (hc0_2 : l0_2.length ≤ c0_2) (h : gF k a0_0 a0_1 l0_2 = some (r1, r2, r3)), Calls Try.prog 92 #[.agg #[.int .i64 a0_0, .string a0_1, .slice A0_2 l0_2.length c0_2]] w fun e w' => ∃ v2_ : Value, e = .returned (.agg #[.int .i64 r1, .string r2, v2_]) ∧ Kd.R k42 42 w' w.heap.size (fun _ => True) v2_ r3 ∧ Below w.heap.size w w') (k : Nat) (A0 : Option Addr) (c0 : Nat) (l0 : List (S34)) (r : List (S42)) (w : World) (hr0 : Kd.C k34 w A0 l0.length l0) (hc0 : l0.length ≤ c0) (h : laws_toRegexSG.f gF k l0 = some r) :
    Calls Try.prog 167 #[.slice A0 l0.length c0] w fun e w' => ∃ v0_ : Value, e = .returned (v0_) ∧ Kd.R k42 42 w' w.heap.size (fun _ => True) v0_ r ∧ Below w.heap.size w w' := by
  have hu34 := Try.underlying34
  have hu42 := Try.underlying42
  have HR0 := Aside0.mk hr0
  have HC0 := Aside0.mk hc0
  clear hr0 hc0
  have HB := Aside0.mk (Below.refl w.heap.size w)
  have H : (if 0 ≤ (l0.length : Int) then (if ((l0.length : Int) : Int).toNat ≤ 5864062014805 then (laws_toRegexSG.l0 gF k l0 (List.replicate ((l0.length : Int) : Int).toNat z42) 0) else (none)) else (none)) = some r := h
  clear h
  by_cases c2 : 0 ≤ (l0.length : Int)
  · rw [if_pos c2] at H
    have c2b0 := eq_true c2
    have c2b1 : decide (0 ≤ (l0.length : Int)) = true := decide_eq_true c2
    clear c2
    by_cases c3 : ((l0.length : Int) : Int).toNat ≤ 5864062014805
    · rw [if_pos c3] at H
      have c3b0 := eq_true c3
      have c3b1 : decide (((l0.length : Int) : Int).toNat ≤ 5864062014805) = true := decide_eq_true c3
      clear c3
      obtain ⟨y167001, hy167001⟩ : ∃ y_ : List (S42), y_ = (List.replicate ((l0.length : Int) : Int).toNat z42) := ⟨_, rfl⟩
      replace H : (laws_toRegexSG.l0 gF k l0 y167001 0) = some r := by first | (rw [hy167001]; with_reducible exact H) | (have H2_ := (Option.bind_some _ _).symm.trans H; rw [hy167001]; with_reducible exact H2_) | (have H2_ := (Option.bind_some _ _).symm.trans H; with_reducible exact H2_) | with_reducible exact H | (rw [hy167001]; exact H) | exact H
      have Ny167001 := Aside0.mk hy167001
      clear hy167001
      have H' := Aside0.mk H
      clear H
      go_enter Try.func167, Try.ntmps167
      go_wp2_with (first | ((with_reducible refine gate_dst (N := 7) rfl ?_); refine Kd.R_make k42 _ 42 rfl (N := 7) rfl 40 _ _ rfl (l0.length : Int) rfl rfl Try.underlying40 (.agg #[(.int .i64 0), (.string ⟨#[]⟩), (.slice none 0 0)]) 48 info42 rfl (by decide) (by omega) z42 (ok := fun _ => True) (okp := fun _ => True) (k42_mkM _ _ _ z42 (Kd.R_nil _ _ _ _ _)) (fun _ hk => hk) trivial (of_decide_eq_true (by first | (with_reducible assumption) | assumption)) (Nat.le_trans (Nat.mul_le_mul_right _ (of_decide_eq_true (by first | (with_reducible assumption) | assumption) : (l0.length : Int).toNat ≤ 5864062014805)) (by omega)) (Below.refl _ _) (Nat.le_refl _) ?_; intro v167002 w4 ho5 hb hg_ hnew_; clear hg_ hnew_; (first | rw [← Ny167001.out] at ho5 | (simp only [Int.reduceToNat] at ho5; rw [← Ny167001.out] at ho5)); have n0_ := Aside0.mk (Kd.R_lower ho5 (below_size (by repeat (first | (with_reducible first | exact HB.out | apply below_alloc | apply pw_below_drewN | apply below_drew1) | exact HB.out)))); have n1_ := Aside0.mk (below_step (by repeat (first | (with_reducible first | exact HB.out | apply below_alloc | apply pw_below_drewN | apply below_drew1) | exact HB.out)) hb); clear HB; have HO167003 := n0_; have HB := n1_; clear n0_ n1_; clear hb ho5))
      first | go_loopg [4] k (fun kq v4 w' => ∃ (x3_1 : List (S42)) (x4_1 : Int), v4 = .int .i64 x4_1 ∧ Aside0 (laws_toRegexSG.l0 gF kq l0 x3_1 x4_1 = some r) ∧ Aside0 (kq ≤ k) ∧ Aside0 (Kd.R k42 42 w' w.heap.size (fun _ => True) v167002 x3_1) ∧ Aside0 (Below w.heap.size w w')) | (simp only [Act.put, List.setIfInBounds_toArray, List.set_cons_succ, List.set_cons_zero]; go_loopg [4] k (fun kq v4 w' => ∃ (x3_1 : List (S42)) (x4_1 : Int), v4 = .int .i64 x4_1 ∧ Aside0 (laws_toRegexSG.l0 gF kq l0 x3_1 x4_1 = some r) ∧ Aside0 (kq ≤ k) ∧ Aside0 (Kd.R k42 42 w' w.heap.size (fun _ => True) v167002 x3_1) ∧ Aside0 (Below w.heap.size w w')))
      case atStart => exact ⟨(y167001), (0), (by first | rfl | (simp; done) | (simp [*]; done)), H', ⟨Nat.le_refl _⟩, ⟨by (with_reducible repeat (first | apply Kd.R_alloc | apply Kd.R_drewN | apply Kd.R_drew)); exact HO167003.out⟩, ⟨by repeat (first | (with_reducible first | exact HB.out | apply below_alloc | apply pw_below_drewN | apply below_drew1) | exact HB.out)⟩⟩
      case round =>
        clear H'
        try clear c1
        try clear c2
        try clear c2b0
        try clear c2b1
        try clear p2
        try clear c3
        try clear c3b0
        try clear c3b1
        obtain ⟨x3_1, x4_1, rfl, HA, HK1, HO_3, HB⟩ := hrel
        cases gk with
        | zero => exact absurd HA.out (by simp [laws_toRegexSG.l0])
        | succ k1 =>
          have H := HA.out
          clear HA
          simp only [laws_toRegexSG.l0] at H
          by_cases c6 : x4_1 < (l0.length : Int)
          · rw [if_pos c6] at H
            have c6b0 : decide (x4_1 < (l0.length : Int)) = true := decide_eq_true c6
            clear c6
            by_cases c7 : 0 ≤ x4_1
            · rw [if_pos c7] at H
              have c7b0 : decide (0 ≤ x4_1) = true := decide_eq_true c7
              clear c7
              replace H := Option.bind_eq_some_iff.mp H
              obtain ⟨⟨t167005, t167006, t167007⟩, A80, H⟩ := H
              replace H : (if x4_1 < (x3_1.length : Int) then (laws_toRegexSG.l0 gF k1 l0 (x3_1.set (x4_1 : Int).toNat (⟨t167005, t167006, t167007⟩ : S42)) (wrap64 (x4_1 + 1))) else (none)) = some r := H
              have A8 := Aside0.mk A80
              clear A80
              by_cases c9 : x4_1 < (x3_1.length : Int)
              · rw [if_pos c9] at H
                have c9b0 : decide (x4_1 < (x3_1.length : Int)) = true := decide_eq_true c9
                clear c9
                obtain ⟨y167010, hy167010⟩ : ∃ y_ : List (S42), y_ = (x3_1.set (x4_1 : Int).toNat (⟨t167005, t167006, t167007⟩ : S42)) := ⟨_, rfl⟩
                replace H : (laws_toRegexSG.l0 gF k1 l0 y167010 (wrap64 (x4_1 + 1))) = some r := by first | (rw [hy167010]; with_reducible exact H) | (have H2_ := (Option.bind_some _ _).symm.trans H; rw [hy167010]; with_reducible exact H2_) | (have H2_ := (Option.bind_some _ _).symm.trans H; with_reducible exact H2_) | with_reducible exact H | (rw [hy167010]; exact H) | exact H
                have Ny167010 := Aside0.mk hy167010
                clear hy167010
                have H' := Aside0.mk H
                clear H
                have p167004 : 0 ≤ (x4_1 : Int) := of_decide_eq_true (by first | (with_reducible assumption) | assumption)
                have q167004 : x4_1 < (l0.length : Int) := of_decide_eq_true (by first | (with_reducible assumption) | assumption)
                obtain ⟨ad167004, A167004_2, c167004_2, e167004, hx167004_0, hx167004_1, hx167004_2, hl167004_2, hi167004_2⟩ := at_T34 HR0.out x4_1 p167004 q167004
                cases e167004
                replace hx167004_0 := (HB.out.cell (World.block_lt_of_cell? w _ hx167004_0)).trans hx167004_0
                replace hx167004_1 := (HB.out.cell (World.block_lt_of_cell? w _ hx167004_1)).trans hx167004_1
                replace hx167004_2 := (HB.out.cell (World.block_lt_of_cell? w _ hx167004_2)).trans hx167004_2
                have HR167004_2 := Aside0.mk hi167004_2
                have HC167004_2 := Aside0.mk hl167004_2
                clear hi167004_2 hl167004_2
                replace p167004 := eq_true p167004
                replace q167004 := eq_true q167004
                go_wp2_with (first | ((with_reducible refine gate_callee (f := 92) rfl ?_); refine goesL_ (some 20) rfl rfl Try.func92 (by kernel_rfl) rfl #[.agg #[.int .i64 ((rd_T34 l0 x4_1).f0), .string ((rd_T34 l0 x4_1).f1), .slice A167004_2 ((rd_T34 l0 x4_1).f2).length c167004_2]] rfl (by (try simp only [List.map_toArray, List.map_cons, List.map_nil]); first | done | rfl | (simp only [List.length_drop, List.length_take]; rfl)) ?_; (with_reducible refine (gC k1 ((rd_T34 l0 x4_1).f0) ((rd_T34 l0 x4_1).f1) _ _ ((rd_T34 l0 x4_1).f2) t167005 t167006 t167007 _ ?side1 ?side2 A8.out).mono ?_); (case side1 => repeat (first | exact (Kd.C_below HR167004_2.out HB.out) | (with_reducible refine Kd.C_alloc ?_ _) | (with_reducible refine Kd.C_drewN ?_ _) | (with_reducible refine Kd.C_drew ?_))); (case side2 => exact HC167004_2.out); rintro e w11 ⟨v167008, rfl, ho0, hb⟩; refine ⟨_, rfl, ?_⟩; have n0_ := Aside0.mk (Kd.R_elder' (by (with_reducible repeat (first | apply Kd.R_alloc | apply Kd.R_drewN | apply Kd.R_drew)); exact HO_3.out) (Kd.R_base ho0) hb); have n1_ := Aside0.mk (Kd.R_lower (Kd.R_new' ho0 (Kd.R_lt (by (with_reducible repeat (first | apply Kd.R_alloc | apply Kd.R_drewN | apply Kd.R_drew)); exact HO_3.out))) (below_size (by repeat (first | (with_reducible first | exact HB.out | apply below_alloc | apply pw_below_drewN | apply below_drew1) | exact HB.out)))); have n2_ := Aside0.mk (below_step (by repeat (first | (with_reducible first | exact HB.out | apply below_alloc | apply pw_below_drewN | apply below_drew1) | exact HB.out)) hb); clear HO_3; clear HB; have HO_3 := n0_; have HO167009 := n1_; have HB := n2_; clear n0_ n1_ n2_; (try clear hb); (try clear hb2); (try clear hk); (try clear hi); (try clear ho0); have p10 : 0 ≤ (x4_1 : Int) := of_decide_eq_true (by first | (with_reducible assumption) | assumption); have q10 : (x4_1 : Int) < ((x3_1.length : Int) : Int) := of_decide_eq_true (by first | (with_reducible assumption) | assumption); obtain ⟨go10, co10, eo10, gb10, gl10, cl10, HG10⟩ := Kd.R_form HO_3.out (by omega); (first | cases eo10 | (injection eo10 with ea_ en_ ec_; (first | subst ea_ | (injection ea_ with ea_; subst ea_)); subst ec_; clear en_)); have GB10 := Aside0.mk gb10; have GG10 := Aside0.mk HG10; clear gb10 gl10 HG10; obtain ⟨ce10, hcl10, hM10, hcc10, hfr10⟩ := Kd.R_elem HO_3.out z42 (x4_1 : Int) p10 q10; obtain ⟨ve10_2, rfl, ge10_2⟩ := k42_openM hM10; have hx10_0 : w11.cell? ⟨go10, (x4_1 : Int).toNat * 3, none⟩ = some (.int .i64 ((rd_T42 x3_1 x4_1).f0)) := hcc10 0 _ rfl; have hx10_1 : w11.cell? ⟨go10, (x4_1 : Int).toNat * 3 + 1, none⟩ = some (.string ((rd_T42 x3_1 x4_1).f1)) := hcc10 1 _ rfl; have hx10_2 : w11.cell? ⟨go10, (x4_1 : Int).toNat * 3 + 2, none⟩ = some (ve10_2) := hcc10 2 _ rfl; have hf10_0 : w11.frozen? ⟨go10, (x4_1 : Int).toNat * 3, none⟩ = false := hfr10 0; have hf10_1 : w11.frozen? ⟨go10, (x4_1 : Int).toNat * 3 + 1, none⟩ = false := hfr10 1; have hf10_2 : w11.frozen? ⟨go10, (x4_1 : Int).toNat * 3 + 2, none⟩ = false := hfr10 2; clear hcl10 hcc10 hfr10; (try clear hM10); replace p10 := eq_true p10; replace q10 := eq_true q10; have n_ := Aside0.mk (Kd.R_mono (ok' := (fun k_ => some k_ ≠ (v167008 : Value).ownBlock)) HO_3.out (fun k_ hk => hk.2)); clear HO_3; have HO_3 := n_; clear n_; have HX12 := Aside0.mk (show Kd.R k42 42 w11 w.heap.size (fun _ => True) (.slice (some ⟨go10, 0, none⟩) x3_1.length co10) x3_1 from (by (with_reducible repeat (first | apply Kd.R_alloc | apply Kd.R_drewN | apply Kd.R_drew)); exact Kd.R_mono HO_3.out (fun _ hk => trivial))); obtain ⟨ce12, hcl12, hM12, hcc12, hfr12⟩ := Kd.R_elem HX12.out z42 (x4_1 : Int) (of_decide_eq_true (by first | (with_reducible assumption) | assumption)) (by have h_ : (x4_1 : Int) < ((x3_1.length : Int) : Int) := of_decide_eq_true (by first | (with_reducible assumption) | assumption); first | exact h_ | (have e_ := (Kd.R_reads' HO_3.out).1; omega) | simpa using h_); obtain ⟨ve12_2, rfl, ge12_2⟩ := k42_openM hM12; have HP12 := Kd.R_seg HX12.out (x4_1 : Int) (of_decide_eq_true (by first | (with_reducible assumption) | assumption)) (by have h_ : (x4_1 : Int) < ((x3_1.length : Int) : Int) := of_decide_eq_true (by first | (with_reducible assumption) | assumption); first | exact h_ | (have e_ := (Kd.R_reads' HO_3.out).1; omega) | simpa using h_) (seg := [.int .i64 t167005, .string t167006, v167008]) (j := 0) hcl12 hcc12 (show 3 ≤ 3 from by decide) (x' := (⟨t167005, t167006, t167007⟩ : S42)) (k42_mkM _ _ _ (⟨t167005, t167006, t167007⟩ : S42) (Kd.R_mono (HO167009.out) (fun k_ hk => ⟨trivial, fun e_ => (hk.2) (by rw [e_]; rfl)⟩))) (fun _ hk => hk); have hx12_0 := hcc12 0 _ rfl; (try simp only [show (k42).sz = 3 from rfl, Nat.mul_one, Nat.add_zero] at hx12_0); have hf12_0 := hfr12 0; (try simp only [show (k42).sz = 3 from rfl, Nat.mul_one, Nat.add_zero] at hf12_0); have hx12_1 := hcc12 1 _ rfl; (try simp only [show (k42).sz = 3 from rfl, Nat.mul_one, Nat.add_zero] at hx12_1); have hf12_1 := hfr12 1; (try simp only [show (k42).sz = 3 from rfl, Nat.mul_one, Nat.add_zero] at hf12_1); have hx12_2 := hcc12 2 _ rfl; (try simp only [show (k42).sz = 3 from rfl, Nat.mul_one, Nat.add_zero] at hx12_2); have hf12_2 := hfr12 2; (try simp only [show (k42).sz = 3 from rfl, Nat.mul_one, Nat.add_zero] at hf12_2); clear hcl12 hcc12 hfr12; (try clear hM12)) | ((with_reducible refine gate_store (t := 42) (p := 21) rfl ?_); refine store_event (t := 42) (p := 21) (v := ?vo_w13) (w1 := (((w11.setCell ⟨go10, (x4_1 : Int).toNat * 3, none⟩ (.int .i64 t167005)).setCell ⟨go10, (x4_1 : Int).toNat * 3 + 1, none⟩ (.string t167006)).setCell ⟨go10, (x4_1 : Int).toNat * 3 + 2, none⟩ (v167008))) ?hg ?ho ?hn ?hr ?_; (case ho => rfl); (case hg => rfl); (case hn => rfl); (case hr => first | (go_simp; done) | (go_simp; rfl) | (obtain ⟨sA_, sc_, se_⟩ := Kd.R_slice HO167009.out; subst se_; first | (go_simp; done) | (go_simp; rfl))); intro w13 hw; have hg : w11.grownBy w13 (some go10) := (by rw [hw]; exact HP12.2); have hp_ : Kd.R k42 42 w13 w.heap.size (fun _ => True) (.slice (some ⟨go10, 0, none⟩) x3_1.length co10) y167010 := (by rw [hw, Ny167010.out]; exact HP12.1); clear HP12; have n0_ := Aside0.mk (hp_); have n1_ := Aside0.mk ((by rw [hw]; exact below_set (below_set (below_set (HB.out) GB10.out) GB10.out) GB10.out : Below w.heap.size w w13)); clear HO_3; clear HB; clear HO167009; have HO_3 := n0_; have HB := n1_; clear n0_ n1_; clear hg hw hp_))
                go_roundg k1
                case measure => have := HK1.out; omega
                case rel => exact ⟨(y167010), (wrap64 (x4_1 + 1)), (by first | rfl | (simp; done) | (simp [*]; done)), H', ⟨by have := HK1.out; omega⟩, ⟨by (with_reducible repeat (first | apply Kd.R_alloc | apply Kd.R_drewN | apply Kd.R_drew)); exact HO_3.out⟩, ⟨by repeat (first | (with_reducible first | exact HB.out | apply below_alloc | apply pw_below_drewN | apply below_drew1) | exact HB.out)⟩⟩
              · rw [if_neg c9] at H
                exact absurd H (by simp)
            · rw [if_neg c7] at H
              exact absurd H (by simp)
          · rw [if_neg c6] at H
            have c6b0 : decide (x4_1 < (l0.length : Int)) = false := decide_eq_false c6
            clear c6
            obtain rfl := Option.some.inj H
            go_wp2
            go_ret
            exact ⟨_, by first | rfl | (simp [errW_none, errW_some] <;> rfl) | (simp [*, errW_none, errW_some] <;> rfl), by (with_reducible repeat (first | apply Kd.R_alloc | apply Kd.R_drewN | apply Kd.R_drew)); exact HO_3.out, by repeat (first | (with_reducible first | exact HB.out | apply below_alloc | apply pw_below_drewN | apply below_drew1) | exact HB.out)⟩
    · rw [if_neg c3] at H
      exact absurd H (by simp)
  · rw [if_neg c2] at H
    exact absurd H (by simp)
theorem laws_toRegexSG.mono_lg (gF gF2 : Nat → Int → ByteArray → List (S34) → Option (Int × ByteArray × (List (S42)))) (hg : ∀ b0 b1 b2 k, LeO (gF k b0 b1 b2) (gF2 k b0 b1 b2)) : ∀ k, (∀ y0 y1 y2, LeO (laws_toRegexSG.l0 gF k y0 y1 y2) (laws_toRegexSG.l0 gF2 k y0 y1 y2))
  | 0 => fun _ _ _ r h => by simp [laws_toRegexSG.l0] at h
  | k + 1 => by
    have ih0 := laws_toRegexSG.mono_lg gF gF2 hg k
    · intro y0 y1 y2
      unfold laws_toRegexSG.l0
      repeat' first
      | (with_reducible exact ih0 _ _ _)
      | (with_reducible exact hg _ _ _ _)
      | (with_reducible exact LeO.refl _)
      | (with_reducible exact LeO.none _)
      | (with_reducible refine LeO.ite ?_ ?_)
      | (with_reducible refine LeO.bind ?_ (fun _ => ?_))
      | exact ih0 _ _ _
      | exact hg _ _ _ _
      | exact LeO.none _
      | refine LeO.ite ?_ ?_
      | refine LeO.bind ?_ (fun _ => ?_)
theorem laws_toRegexSG.monog (gF gF2 : Nat → Int → ByteArray → List (S34) → Option (Int × ByteArray × (List (S42)))) (hg : ∀ b0 b1 b2 k, LeO (gF k b0 b1 b2) (gF2 k b0 b1 b2)) : ∀ a0 k, LeO (laws_toRegexSG.f gF k a0) (laws_toRegexSG.f gF2 k a0) := by
  intro a0 k
  have ih0 := laws_toRegexSG.mono_lg gF gF2 hg k
  unfold laws_toRegexSG.f
  repeat' first
      | (with_reducible exact ih0 _ _ _)
      | (with_reducible exact hg _ _ _ _)
      | (with_reducible exact LeO.refl _)
      | (with_reducible exact LeO.none _)
      | (with_reducible refine LeO.ite ?_ ?_)
      | (with_reducible refine LeO.bind ?_ (fun _ => ?_))
      | exact ih0 _ _ _
      | exact hg _ _ _ _
      | exact LeO.none _
      | refine LeO.ite ?_ ?_
      | refine LeO.bind ?_ (fun _ => ?_)
/-! ### laws_toRegex: function 92 -/
def laws_toRegexG.f (gF : Nat → Int → ByteArray → List (S34) → Option (Int × ByteArray × (List (S42)))) (k : Nat) (a0_0 : Int) (a0_1 : ByteArray) (l0_2 : List (S34)) : Option (Int × ByteArray × (List (S42))) := (laws_toRegexSG.f gF k l0_2).bind fun t92004 => (some (a0_0, a0_1, t92004))
theorem laws_toRegexG.mono (gF : Nat → Int → ByteArray → List (S34) → Option (Int × ByteArray × (List (S42)))) (gM : ∀ a0 a1 a2 k, LeO (gF k a0 a1 a2) (gF (k + 1) a0 a1 a2)) : ∀ a0 a1 a2 k, LeO (laws_toRegexG.f gF k a0 a1 a2) (laws_toRegexG.f gF (k + 1) a0 a1 a2) := by
  intro a0 a1 a2 k
  unfold laws_toRegexG.f
  repeat' first
      | (with_reducible exact laws_toRegexSG.mono gF gM _ _)
      | (with_reducible exact LeO.refl _)
      | (with_reducible exact LeO.none _)
      | (with_reducible refine LeO.ite ?_ ?_)
      | (with_reducible refine LeO.bind ?_ (fun _ => ?_))
      | exact laws_toRegexSG.mono gF gM _ _
      | exact LeO.none _
      | refine LeO.ite ?_ ?_
      | refine LeO.bind ?_ (fun _ => ?_)
set_option maxHeartbeats 8000000 in
set_option maxRecDepth 100000 in
theorem laws_toRegexG.calls (gF : Nat → Int → ByteArray → List (S34) → Option (Int × ByteArray × (List (S42)))) (gC : ∀ (k : Nat) (a0_0 : Int) (a0_1 : ByteArray) (A0_2 : Option Addr) (c0_2 : Nat) (l0_2 : List (S34)) (r1 : Int) (r2 : ByteArray) (r3 : List (S42)) (w : World) (hr0_2 : Kd.C k34 w A0_2 l0_2.length l0_2) (hc0_2 : l0_2.length ≤ c0_2) (h : gF k a0_0 a0_1 l0_2 = some (r1, r2, r3)), Calls Try.prog 92 #[.agg #[.int .i64 a0_0, .string a0_1, .slice A0_2 l0_2.length c0_2]] w fun e w' => ∃ v2_ : Value, e = .returned (.agg #[.int .i64 r1, .string r2, v2_]) ∧ Kd.R k42 42 w' w.heap.size (fun _ => True) v2_ r3 ∧ Below w.heap.size w w') (k : Nat) (a0_0 : Int) (a0_1 : ByteArray) (A0_2 : Option Addr) (c0_2 : Nat) (l0_2 : List (S34)) (r1 : Int) (r2 : ByteArray) (r3 : List (S42)) (w : World) (hr0_2 : Kd.C k34 w A0_2 l0_2.length l0_2) (hc0_2 : l0_2.length ≤ c0_2) (h : laws_toRegexG.f gF k a0_0 a0_1 l0_2 = some (r1, r2, r3)) :
    Calls Try.prog 92 #[.agg #[.int .i64 a0_0, .string a0_1, .slice A0_2 l0_2.length c0_2]] w fun e w' => ∃ v2_ : Value, e = .returned (.agg #[.int .i64 r1, .string r2, v2_]) ∧ Kd.R k42 42 w' w.heap.size (fun _ => True) v2_ r3 ∧ Below w.heap.size w w' := by
  have hu34 := Try.underlying34
  have hu42 := Try.underlying42
  have HR0_2 := Aside0.mk hr0_2
  have HC0_2 := Aside0.mk hc0_2
  clear hr0_2 hc0_2
  have HB := Aside0.mk (Below.refl w.heap.size w)
  have H : ((laws_toRegexSG.f gF k l0_2).bind fun t92004 => (some (a0_0, a0_1, t92004))) = some (r1, r2, r3) := h
  clear h
  replace H := Option.bind_eq_some_iff.mp H
  obtain ⟨t92004, A20, H⟩ := H
  replace H : (some (a0_0, a0_1, t92004)) = some (r1, r2, r3) := H
  have A2 := Aside0.mk A20
  clear A20
  simp only [Option.some.injEq, Prod.mk.injEq] at H
  obtain ⟨rfl, rfl, rfl⟩ := H
  go_enter Try.func92, Try.ntmps92
  go_wp2_with (first | ((with_reducible refine gate_dst (N := 1) rfl ?_); refine box_event ?hg (N := 1) ?hd (cs := #[.int .i64 a0_0, .string a0_1, .slice A0_2 l0_2.length c0_2]) (t := 34) ?hr ?_; (case hd => rfl); (case hg => rfl); (case hr => first | (go_simp; done) | (go_simp; rfl)); intro gb92001 hg w3 hbox hb; have n0_ := Aside0.mk (below_step (by repeat (first | (with_reducible first | exact HB.out | apply below_alloc | apply pw_below_drewN | apply below_drew1) | exact HB.out)) hb); have n1_ := Aside0.mk (hbox); have n2_ := Aside0.mk ((by rw [hg]; exact (below_size (by repeat (first | (with_reducible first | exact HB.out | apply below_alloc | apply pw_below_drewN | apply below_drew1) | exact HB.out))) : w.heap.size ≤ gb92001)); have n3_ := Aside0.mk ((by rw [hg]; exact (below_size (by repeat (first | (with_reducible first | exact HB.out | apply below_alloc | apply pw_below_drewN | apply below_drew1) | exact HB.out))) : w.heap.size ≤ gb92001)); clear HB; have HB := n0_; have BK92001 := n1_; have GW92001 := n2_; have GE92001 := n3_; clear n0_ n1_ n2_ n3_; clear hb hbox hg) | ((with_reducible refine gate_dst (N := 2) rfl ?_); refine box_event ?hg (N := 2) ?hd (cs := #[.int .i64 0, .string (⟨#[]⟩ : ByteArray), .slice none 0 0]) (t := 42) ?hr ?_; (case hd => rfl); (case hg => rfl); (case hr => first | (go_simp; done) | (go_simp; rfl)); intro gb92002 hg w4 hbox hb; have n0_ := Aside0.mk (blk_below (g := gb92001) (o := .cells #[.int .i64 a0_0, .string a0_1, .slice A0_2 l0_2.length c0_2] 34 (0, 0)) (by (with_reducible repeat (first | refine blk_drewN ?_ _ | refine blk_drew ?_ | refine blk_alloc ?_ _)); exact BK92001.out) hb); have n1_ := Aside0.mk (below_step (by repeat (first | (with_reducible first | exact HB.out | apply below_alloc | apply pw_below_drewN | apply below_drew1 | refine below_set ?_ GE92001.out) | exact HB.out)) hb); have n2_ := Aside0.mk (hbox); have n3_ := Aside0.mk ((by rw [hg]; exact (below_size (by repeat (first | (with_reducible first | exact HB.out | apply below_alloc | apply pw_below_drewN | apply below_drew1 | refine below_set ?_ GE92001.out) | exact HB.out))) : w.heap.size ≤ gb92002)); have n4_ := Aside0.mk ((by rw [hg]; exact (below_size (by repeat (first | (with_reducible first | exact HB.out | apply below_alloc | apply pw_below_drewN | apply below_drew1 | refine below_set ?_ GE92001.out) | exact HB.out))) : w.heap.size ≤ gb92002)); have n5_ := Aside0.mk ((by rw [hg]; exact Nat.ne_of_lt (blk_lt (g := gb92001) (o := .cells #[.int .i64 a0_0, .string a0_1, .slice A0_2 l0_2.length c0_2] 34 (0, 0)) (by (with_reducible repeat (first | refine blk_drewN ?_ _ | refine blk_drew ?_ | refine blk_alloc ?_ _)); exact BK92001.out)) : gb92001 ≠ gb92002)); have n6_ := Aside0.mk ((by rw [hg]; exact Nat.ne_of_gt (blk_lt (g := gb92001) (o := .cells #[.int .i64 a0_0, .string a0_1, .slice A0_2 l0_2.length c0_2] 34 (0, 0)) (by (with_reducible repeat (first | refine blk_drewN ?_ _ | refine blk_drew ?_ | refine blk_alloc ?_ _)); exact BK92001.out)) : gb92002 ≠ gb92001)); clear BK92001; clear HB; have BK92001 := n0_; have HB := n1_; have BK92002 := n2_; have GW92002 := n3_; have GE92002 := n4_; have NB92001_92002 := n5_; have NB92002_92001 := n6_; clear n0_ n1_ n2_ n3_ n4_ n5_ n6_; clear hb hbox hg) | ((with_reducible refine gate_dst (N := 3) rfl ?_); refine box_event ?hg (N := 3) ?hd (cs := #[.int .i64 0, .string (⟨#[]⟩ : ByteArray), .slice none 0 0]) (t := 42) ?hr ?_; (case hd => rfl); (case hg => rfl); (case hr => first | (go_simp; done) | (go_simp; rfl)); intro gb92003 hg w5 hbox hb; have n0_ := Aside0.mk (blk_below (g := gb92001) (o := .cells #[.int .i64 a0_0, .string a0_1, .slice A0_2 l0_2.length c0_2] 34 (0, 0)) (by (with_reducible repeat (first | refine blk_drewN ?_ _ | refine blk_drew ?_ | refine blk_alloc ?_ _)); exact BK92001.out) hb); have n1_ := Aside0.mk (blk_below (g := gb92002) (o := .cells #[.int .i64 0, .string (⟨#[]⟩ : ByteArray), .slice none 0 0] 42 (0, 0)) (by (with_reducible repeat (first | refine blk_drewN ?_ _ | refine blk_drew ?_ | refine blk_alloc ?_ _)); exact BK92002.out) hb); have n2_ := Aside0.mk (below_step (by repeat (first | (with_reducible first | exact HB.out | apply below_alloc | apply pw_below_drewN | apply below_drew1 | refine below_set ?_ GE92001.out | refine below_set ?_ GE92002.out) | exact HB.out)) hb); have n3_ := Aside0.mk (hbox); have n4_ := Aside0.mk ((by rw [hg]; exact (below_size (by repeat (first | (with_reducible first | exact HB.out | apply below_alloc | apply pw_below_drewN | apply below_drew1 | refine below_set ?_ GE92001.out | refine below_set ?_ GE92002.out) | exact HB.out))) : w.heap.size ≤ gb92003)); have n5_ := Aside0.mk ((by rw [hg]; exact (below_size (by repeat (first | (with_reducible first | exact HB.out | apply below_alloc | apply pw_below_drewN | apply below_drew1 | refine below_set ?_ GE92001.out | refine below_set ?_ GE92002.out) | exact HB.out))) : w.heap.size ≤ gb92003)); have n6_ := Aside0.mk ((by rw [hg]; exact Nat.ne_of_lt (blk_lt (g := gb92001) (o := .cells #[.int .i64 a0_0, .string a0_1, .slice A0_2 l0_2.length c0_2] 34 (0, 0)) (by (with_reducible repeat (first | refine blk_drewN ?_ _ | refine blk_drew ?_ | refine blk_alloc ?_ _)); exact BK92001.out)) : gb92001 ≠ gb92003)); have n7_ := Aside0.mk ((by rw [hg]; exact Nat.ne_of_gt (blk_lt (g := gb92001) (o := .cells #[.int .i64 a0_0, .string a0_1, .slice A0_2 l0_2.length c0_2] 34 (0, 0)) (by (with_reducible repeat (first | refine blk_drewN ?_ _ | refine blk_drew ?_ | refine blk_alloc ?_ _)); exact BK92001.out)) : gb92003 ≠ gb92001)); have n8_ := Aside0.mk ((by rw [hg]; exact Nat.ne_of_lt (blk_lt (g := gb92002) (o := .cells #[.int .i64 0, .string (⟨#[]⟩ : ByteArray), .slice none 0 0] 42 (0, 0)) (by (with_reducible repeat (first | refine blk_drewN ?_ _ | refine blk_drew ?_ | refine blk_alloc ?_ _)); exact BK92002.out)) : gb92002 ≠ gb92003)); have n9_ := Aside0.mk ((by rw [hg]; exact Nat.ne_of_gt (blk_lt (g := gb92002) (o := .cells #[.int .i64 0, .string (⟨#[]⟩ : ByteArray), .slice none 0 0] 42 (0, 0)) (by (with_reducible repeat (first | refine blk_drewN ?_ _ | refine blk_drew ?_ | refine blk_alloc ?_ _)); exact BK92002.out)) : gb92003 ≠ gb92002)); clear BK92001; clear BK92002; clear HB; have BK92001 := n0_; have BK92002 := n1_; have HB := n2_; have BK92003 := n3_; have GW92003 := n4_; have GE92003 := n5_; have NB92001_92003 := n6_; have NB92003_92001 := n7_; have NB92002_92003 := n8_; have NB92003_92002 := n9_; clear n0_ n1_ n2_ n3_ n4_ n5_ n6_ n7_ n8_ n9_; clear hb hbox hg; have hnb6 := NB92001_92002.out; have hnc6 := NB92002_92001.out; have hnb7 := NB92001_92003.out; have hnc7 := NB92003_92001.out; have hcz8_0 : w5.cell? ⟨gb92001, 0, none⟩ = some (.int .i64 a0_0) := (blk_cell BK92001.out 0).trans rfl; have hcz8_1 : w5.cell? ⟨gb92001, 1, none⟩ = some (.string a0_1) := (blk_cell BK92001.out 1).trans rfl; have hcz8_2 : w5.cell? ⟨gb92001, 2, none⟩ = some (.slice A0_2 l0_2.length c0_2) := (blk_cell BK92001.out 2).trans rfl; have hfz8_0 := blk_frozen BK92001.out 0; have hfz8_1 := blk_frozen BK92001.out 1; have hfz8_2 := blk_frozen BK92001.out 2; have hnb9 := NB92003_92002.out; have hnc9 := NB92002_92003.out; have hcz10_0 : w5.cell? ⟨gb92003, 0, none⟩ = some (.int .i64 0) := (blk_cell BK92003.out 0).trans rfl; have hcz10_1 : w5.cell? ⟨gb92003, 1, none⟩ = some (.string (⟨#[]⟩ : ByteArray)) := (blk_cell BK92003.out 1).trans rfl; have hcz10_2 : w5.cell? ⟨gb92003, 2, none⟩ = some (.slice none 0 0) := (blk_cell BK92003.out 2).trans rfl; have hfz10_0 := blk_frozen BK92003.out 0; have hfz10_1 := blk_frozen BK92003.out 1; have hfz10_2 := blk_frozen BK92003.out 2) | ((with_reducible refine gate_callee (f := 167) rfl ?_); refine goesL_ (some 12) rfl rfl Try.func167 (by kernel_rfl) rfl #[.slice A0_2 l0_2.length c0_2] rfl (by (try simp only [List.map_toArray, List.map_cons, List.map_nil]); first | done | rfl | (simp only [List.length_drop, List.length_take]; rfl)) ?_; (with_reducible refine (laws_toRegexSG.calls gF gC k _ _ l0_2 t92004 _ ?side1 ?side2 A2.out).mono ?_); (case side1 => exact Kd.C_below HR0_2.out (by repeat (first | (with_reducible first | exact HB.out | apply below_alloc | apply pw_below_drewN | apply below_drew1 | refine below_set ?_ GE92001.out | refine below_set ?_ GE92002.out | refine below_set ?_ GE92003.out) | exact HB.out))); (case side2 => exact HC0_2.out); rintro e w11 ⟨v92005, rfl, ho0, hb⟩; refine ⟨_, rfl, ?_⟩; have n0_ := Aside0.mk (Kd.R_lower (Kd.R_newB (Kd.R_newB ho0 (g := gb92002) (o := .cells #[.int .i64 0, .string (⟨#[]⟩ : ByteArray), .slice none 0 0] 42 (0, 0)) (by (with_reducible repeat (first | refine blk_drewN ?_ _ | refine blk_drew ?_ | refine blk_alloc ?_ _)); refine blk_far ?_ NB92002_92003.out _; (with_reducible repeat (first | refine blk_drewN ?_ _ | refine blk_drew ?_ | refine blk_alloc ?_ _)); refine blk_far ?_ NB92002_92003.out _; (with_reducible repeat (first | refine blk_drewN ?_ _ | refine blk_drew ?_ | refine blk_alloc ?_ _)); exact BK92002.out)) (g := gb92003) (o := .cells #[.int .i64 a0_0, .string a0_1, .slice none 0 0] 42 (0, 0)) (by (with_reducible repeat (first | refine blk_drewN ?_ _ | refine blk_drew ?_ | refine blk_alloc ?_ _)); refine blk_put (cs := #[.int .i64 a0_0, .string (⟨#[]⟩ : ByteArray), .slice none 0 0]) ?_ 1 _ rfl; (with_reducible repeat (first | refine blk_drewN ?_ _ | refine blk_drew ?_ | refine blk_alloc ?_ _)); refine blk_put (cs := #[.int .i64 0, .string (⟨#[]⟩ : ByteArray), .slice none 0 0]) ?_ 0 _ rfl; (with_reducible repeat (first | refine blk_drewN ?_ _ | refine blk_drew ?_ | refine blk_alloc ?_ _)); exact BK92003.out)) (below_size (by repeat (first | (with_reducible first | exact HB.out | apply below_alloc | apply pw_below_drewN | apply below_drew1 | refine below_set ?_ GE92001.out | refine below_set ?_ GE92002.out | refine below_set ?_ GE92003.out) | exact HB.out)))); have n1_ := Aside0.mk (blk_below (g := gb92001) (o := .cells #[.int .i64 a0_0, .string a0_1, .slice A0_2 l0_2.length c0_2] 34 (0, 0)) (by (with_reducible repeat (first | refine blk_drewN ?_ _ | refine blk_drew ?_ | refine blk_alloc ?_ _)); refine blk_far ?_ NB92001_92003.out _; (with_reducible repeat (first | refine blk_drewN ?_ _ | refine blk_drew ?_ | refine blk_alloc ?_ _)); refine blk_far ?_ NB92001_92003.out _; (with_reducible repeat (first | refine blk_drewN ?_ _ | refine blk_drew ?_ | refine blk_alloc ?_ _)); exact BK92001.out) hb); have n2_ := Aside0.mk (blk_below (g := gb92002) (o := .cells #[.int .i64 0, .string (⟨#[]⟩ : ByteArray), .slice none 0 0] 42 (0, 0)) (by (with_reducible repeat (first | refine blk_drewN ?_ _ | refine blk_drew ?_ | refine blk_alloc ?_ _)); refine blk_far ?_ NB92002_92003.out _; (with_reducible repeat (first | refine blk_drewN ?_ _ | refine blk_drew ?_ | refine blk_alloc ?_ _)); refine blk_far ?_ NB92002_92003.out _; (with_reducible repeat (first | refine blk_drewN ?_ _ | refine blk_drew ?_ | refine blk_alloc ?_ _)); exact BK92002.out) hb); have n3_ := Aside0.mk (blk_below (g := gb92003) (o := .cells #[.int .i64 a0_0, .string a0_1, .slice none 0 0] 42 (0, 0)) (by (with_reducible repeat (first | refine blk_drewN ?_ _ | refine blk_drew ?_ | refine blk_alloc ?_ _)); refine blk_put (cs := #[.int .i64 a0_0, .string (⟨#[]⟩ : ByteArray), .slice none 0 0]) ?_ 1 _ rfl; (with_reducible repeat (first | refine blk_drewN ?_ _ | refine blk_drew ?_ | refine blk_alloc ?_ _)); refine blk_put (cs := #[.int .i64 0, .string (⟨#[]⟩ : ByteArray), .slice none 0 0]) ?_ 0 _ rfl; (with_reducible repeat (first | refine blk_drewN ?_ _ | refine blk_drew ?_ | refine blk_alloc ?_ _)); exact BK92003.out) hb); have n4_ := Aside0.mk (below_step (by repeat (first | (with_reducible first | exact HB.out | apply below_alloc | apply pw_below_drewN | apply below_drew1 | refine below_set ?_ GE92001.out | refine below_set ?_ GE92002.out | refine below_set ?_ GE92003.out) | exact HB.out)) hb); clear BK92001; clear BK92002; clear BK92003; clear HB; have HO92006 := n0_; have BK92001 := n1_; have BK92002 := n2_; have BK92003 := n3_; have HB := n4_; clear n0_ n1_ n2_ n3_ n4_; (try clear hb); (try clear hb2); (try clear hk); (try clear hi); (try clear ho0); obtain ⟨Ao12, co12, eo12⟩ := Kd.R_slice HO92006.out; subst eo12; have hcz13_0 : w11.cell? ⟨gb92003, 0, none⟩ = some (.int .i64 a0_0) := (blk_cell BK92003.out 0).trans rfl; have hcz13_1 : w11.cell? ⟨gb92003, 1, none⟩ = some (.string a0_1) := (blk_cell BK92003.out 1).trans rfl; have hcz13_2 : w11.cell? ⟨gb92003, 2, none⟩ = some (.slice none 0 0) := (blk_cell BK92003.out 2).trans rfl; have hfz13_0 := blk_frozen BK92003.out 0; have hfz13_1 := blk_frozen BK92003.out 1; have hfz13_2 := blk_frozen BK92003.out 2; have hcz14_0 : w11.cell? ⟨gb92002, 0, none⟩ = some (.int .i64 0) := (blk_cell BK92002.out 0).trans rfl; have hcz14_1 : w11.cell? ⟨gb92002, 1, none⟩ = some (.string (⟨#[]⟩ : ByteArray)) := (blk_cell BK92002.out 1).trans rfl; have hcz14_2 : w11.cell? ⟨gb92002, 2, none⟩ = some (.slice none 0 0) := (blk_cell BK92002.out 2).trans rfl; have hfz14_0 := blk_frozen BK92002.out 0; have hfz14_1 := blk_frozen BK92002.out 1; have hfz14_2 := blk_frozen BK92002.out 2))
  refine bodyPost_ret (results_cell_row rfl _ _ gb92002 42 #[.int .i64 a0_0, .string a0_1, .slice Ao12 t92004.length co12] (0, 0) _ rfl (by (with_reducible repeat (first | refine blk_drewN ?_ _ | refine blk_drew ?_ | refine blk_alloc ?_ _)); refine blk_put (cs := #[.int .i64 a0_0, .string a0_1, .slice none 0 0]) ?_ 2 _ rfl; (with_reducible repeat (first | refine blk_drewN ?_ _ | refine blk_drew ?_ | refine blk_alloc ?_ _)); refine blk_put (cs := #[.int .i64 a0_0, .string (⟨#[]⟩ : ByteArray), .slice none 0 0]) ?_ 1 _ rfl; (with_reducible repeat (first | refine blk_drewN ?_ _ | refine blk_drew ?_ | refine blk_alloc ?_ _)); refine blk_put (cs := #[.int .i64 0, .string (⟨#[]⟩ : ByteArray), .slice none 0 0]) ?_ 0 _ rfl; (with_reducible repeat (first | refine blk_drewN ?_ _ | refine blk_drew ?_ | refine blk_alloc ?_ _)); refine blk_far ?_ NB92002_92003.out _; (with_reducible repeat (first | refine blk_drewN ?_ _ | refine blk_drew ?_ | refine blk_alloc ?_ _)); exact BK92002.out) Try.underlying42 rfl (by kernel_rfl)) rfl ?_
  exact ⟨_, by first | rfl | (simp [errW_none, errW_some] <;> rfl) | (simp [*, errW_none, errW_some] <;> rfl), by (with_reducible repeat (first | apply Kd.R_alloc | apply Kd.R_drewN | apply Kd.R_drew)); exact Kd.R_mono (Kd.R_far (p := ⟨gb92002, 2, none⟩) (Kd.R_far (p := ⟨gb92002, 1, none⟩) (Kd.R_far (p := ⟨gb92002, 0, none⟩) (Kd.R_far (p := ⟨gb92003, 2, none⟩) (Kd.R_mono (Kd.R_mono HO92006.out (fun k_ hk => (⟨hk, hk.2⟩ : _ ∧ k_ ≠ gb92003))) (fun k_ hk => (⟨hk, hk.1.1.2⟩ : _ ∧ k_ ≠ gb92002))) (fun _ hk => hk.1.2) (.slice Ao12 t92004.length co12)) (fun _ hk => hk.2) (.int .i64 a0_0)) (fun _ hk => hk.2) (.string a0_1)) (fun _ hk => hk.2) (.slice Ao12 t92004.length co12)) (fun _ hk => trivial), by repeat (first | (with_reducible first | exact HB.out | apply below_alloc | apply pw_below_drewN | apply below_drew1 | refine below_set ?_ GE92001.out | refine below_set ?_ GE92002.out | refine below_set ?_ GE92003.out) | exact HB.out)⟩
theorem laws_toRegexG.monog (gF gF2 : Nat → Int → ByteArray → List (S34) → Option (Int × ByteArray × (List (S42)))) (hg : ∀ b0 b1 b2 k, LeO (gF k b0 b1 b2) (gF2 k b0 b1 b2)) : ∀ a0 a1 a2 k, LeO (laws_toRegexG.f gF k a0 a1 a2) (laws_toRegexG.f gF2 k a0 a1 a2) := by
  intro a0 a1 a2 k
  unfold laws_toRegexG.f
  repeat' first
      | (with_reducible exact laws_toRegexSG.monog gF gF2 hg _ _)
      | (with_reducible exact LeO.refl _)
      | (with_reducible exact LeO.none _)
      | (with_reducible refine LeO.ite ?_ ?_)
      | (with_reducible refine LeO.bind ?_ (fun _ => ?_))
      | exact laws_toRegexSG.monog gF gF2 hg _ _
      | exact LeO.none _
      | refine LeO.ite ?_ ?_
      | refine LeO.bind ?_ (fun _ => ?_)

def laws_toRegex.f : Nat → Int → ByteArray → List (S34) → Option (Int × ByteArray × (List (S42)))
  | 0, _, _, _ => none
  | K + 1, a0_, a1_, a2_ => laws_toRegexG.f (fun _ => laws_toRegex.f K) K a0_ a1_ a2_
theorem laws_toRegex.mono : ∀ a0 a1 a2 k, LeO (laws_toRegex.f k a0 a1 a2) (laws_toRegex.f (k + 1) a0 a1 a2) := by
  intro a0_ a1_ a2_ k
  induction k generalizing a0_ a1_ a2_ with
  | zero => exact LeO.none _
  | succ K ih =>
    intro r h
    have h1 := laws_toRegexG.monog (fun _ => laws_toRegex.f K) (fun _ => laws_toRegex.f (K + 1)) (fun a0_ a1_ a2_ k => ih a0_ a1_ a2_) a0_ a1_ a2_ K r h
    exact laws_toRegexG.mono (fun _ => laws_toRegex.f (K + 1)) (fun a0_ a1_ a2_ k => LeO.refl _) a0_ a1_ a2_ K r h1
theorem laws_toRegex.calls (k : Nat) (a0_0 : Int) (a0_1 : ByteArray) (A0_2 : Option Addr) (c0_2 : Nat) (l0_2 : List (S34)) (r1 : Int) (r2 : ByteArray) (r3 : List (S42)) (w : World) (hr0_2 : Kd.C k34 w A0_2 l0_2.length l0_2) (hc0_2 : l0_2.length ≤ c0_2) (h : laws_toRegex.f k a0_0 a0_1 l0_2 = some (r1, r2, r3)) :
    Calls Try.prog 92 #[.agg #[.int .i64 a0_0, .string a0_1, .slice A0_2 l0_2.length c0_2]] w fun e w' => ∃ v2_ : Value, e = .returned (.agg #[.int .i64 r1, .string r2, v2_]) ∧ Kd.R k42 42 w' w.heap.size (fun _ => True) v2_ r3 ∧ Below w.heap.size w w' := by
  induction k generalizing a0_0 a0_1 A0_2 c0_2 l0_2 r1 r2 r3 w hr0_2 hc0_2 with
  | zero => exact absurd h (by simp [laws_toRegex.f])
  | succ K ih => exact laws_toRegexG.calls (fun _ => laws_toRegex.f K) (fun k a0_0 a0_1 A0_2 c0_2 l0_2 r1 r2 r3 w hr0_2 hc0_2 h => ih a0_0 a0_1 A0_2 c0_2 l0_2 r1 r2 r3 w hr0_2 hc0_2 h) K a0_0 a0_1 A0_2 c0_2 l0_2 r1 r2 r3 w hr0_2 hc0_2 h
def laws_toRegexS.f (k : Nat) (l0 : List (S34)) : Option ((List (S42))) := laws_toRegexSG.f laws_toRegex.f k l0
theorem laws_toRegexS.mono : ∀ a0 k, LeO (laws_toRegexS.f k a0) (laws_toRegexS.f (k + 1) a0) := laws_toRegexSG.mono laws_toRegex.f laws_toRegex.mono
theorem laws_toRegexS.calls (k : Nat) (A0 : Option Addr) (c0 : Nat) (l0 : List (S34)) (r : List (S42)) (w : World) (hr0 : Kd.C k34 w A0 l0.length l0) (hc0 : l0.length ≤ c0) (h : laws_toRegexS.f k l0 = some r) :
    Calls Try.prog 167 #[.slice A0 l0.length c0] w fun e w' => ∃ v0_ : Value, e = .returned (v0_) ∧ Kd.R k42 42 w' w.heap.size (fun _ => True) v0_ r ∧ Below w.heap.size w w' := laws_toRegexSG.calls laws_toRegex.f laws_toRegex.calls k A0 c0 l0 r w hr0 hc0 h


end Go.Proofs.Ytpppopdmnejcfaa.A


namespace Go.Proofs.Ytpppopdmnejcfaa.A
open Go.RowKit Go.Proofs.Ytpppopdmnejcfaa.Ext Go.Proofs.YtpppopdmnejcfaaW.PrintWords Go.Proofs.YtpppopdmnejcfaaW.PrintLast Go.Proofs.YtpppopdmnejcfaaW.PrintMore
attribute [local go_sem] max2_int min2_int max_two min_two max_three min_three max_four min_four   -- for this text's walks alone
set_option linter.unusedVariables false
set_option linter.unusedSimpArgs false

/-! ### laws_eqRegexS: function 170 -/
def laws_eqRegexSG.l0 (gF : Nat → Int → ByteArray → List (S42) → Int → ByteArray → List (S42) → Option (Bool)) : Nat → List (S42) → List (S42) → Int → Option (Bool)
  | 0, _, _, _ => none
  | k + 1, x0, x1, x5 => if x5 < (x0.length : Int) then (if 0 ≤ x5 then (if x5 < (x1.length : Int) then ((gF k ((rd_T42 x0 x5).f0) ((rd_T42 x0 x5).f1) ((rd_T42 x0 x5).f2) ((rd_T42 x1 x5).f0) ((rd_T42 x1 x5).f1) ((rd_T42 x1 x5).f2)).bind fun t170003 => (if t170003 = true then (laws_eqRegexSG.l0 gF k x0 x1 (wrap64 (x5 + 1))) else (some false))) else (none)) else (none)) else (some true)
def laws_eqRegexSG.f (gF : Nat → Int → ByteArray → List (S42) → Int → ByteArray → List (S42) → Option (Bool)) (k : Nat) (l0 : List (S42)) (l1 : List (S42)) : Option (Bool) := if (l0.length : Int) = (l1.length : Int) then (laws_eqRegexSG.l0 gF k l0 l1 0) else (some false)
theorem laws_eqRegexSG.mono_l (gF : Nat → Int → ByteArray → List (S42) → Int → ByteArray → List (S42) → Option (Bool)) (gM : ∀ a0 a1 a2 a3 a4 a5 k, LeO (gF k a0 a1 a2 a3 a4 a5) (gF (k + 1) a0 a1 a2 a3 a4 a5)) : ∀ k, (∀ y0 y1 y2, LeO (laws_eqRegexSG.l0 gF k y0 y1 y2) (laws_eqRegexSG.l0 gF (k + 1) y0 y1 y2))
  | 0 => fun _ _ _ r h => by simp [laws_eqRegexSG.l0] at h
  | k + 1 => by
    have ih0 := laws_eqRegexSG.mono_l gF gM k
    · intro y0 y1 y2
      unfold laws_eqRegexSG.l0
      repeat' first
      | (with_reducible exact ih0 _ _ _)
      | (with_reducible exact gM _ _ _ _ _ _ _)
      | (with_reducible exact LeO.refl _)
      | (with_reducible exact LeO.none _)
      | (with_reducible refine LeO.ite ?_ ?_)
      | (with_reducible refine LeO.bind ?_ (fun _ => ?_))
      | exact ih0 _ _ _
      | exact gM _ _ _ _ _ _ _
      | exact LeO.none _
      | refine LeO.ite ?_ ?_
      | refine LeO.bind ?_ (fun _ => ?_)
theorem laws_eqRegexSG.mono (gF : Nat → Int → ByteArray → List (S42) → Int → ByteArray → List (S42) → Option (Bool)) (gM : ∀ a0 a1 a2 a3 a4 a5 k, LeO (gF k a0 a1 a2 a3 a4 a5) (gF (k + 1) a0 a1 a2 a3 a4 a5)) : ∀ a0 a1 k, LeO (laws_eqRegexSG.f gF k a0 a1) (laws_eqRegexSG.f gF (k + 1) a0 a1) := by
  intro a0 a1 k
  have ih0 := laws_eqRegexSG.mono_l gF gM k
  unfold laws_eqRegexSG.f
  repeat' first
      | (with_reducible exact ih0 _ _ _)
      | (with_reducible exact gM _ _ _ _ _ _ _)
      | (with_reducible exact LeO.refl _)
      | (with_reducible exact LeO.none _)
      | (with_reducible refine LeO.ite ?_ ?_)
      | (with_reducible refine LeO.bind ?_ (fun _ => ?_))
      | exact ih0 _ _ _
      | exact gM _ _ _ _ _ _ _
      | exact LeO.none _
      | refine LeO.ite ?_ ?_
      | refine LeO.bind ?_ (fun _ => ?_)
def laws_eqRegexSG.T6 : Bool × List (List Nat × List Nat) := (true, [([], []), ([], []), ([0, 1], [0, 1]), ([2], [2]), ([], []), ([], []), ([4, 5], [4, 5]), ([6], [6]), ([3, 7], [3, 7]), ([8], [8])])
def laws_eqRegexSG.B6 : List Nat := [0, 0, 3, 7, 0, 0, 48, 112, 255, 511]
theorem laws_eqRegexSG.tab6 : rtab .any (opsOf Try.f170 6) = laws_eqRegexSG.T6 := by kernel_rfl
theorem laws_eqRegexSG.bits6 : waitsOk laws_eqRegexSG.T6.2 laws_eqRegexSG.B6 = true := by kernel_rfl
set_option maxHeartbeats 8000000 in
set_option maxRecDepth 100000 in
theorem laws_eqRegexSG.calls (gF : Nat → Int → ByteArray → List (S42) → Int → ByteArray → List (S42) → Option (Bool)) (gC : ∀ (k : Nat) (a0_0 : Int) (a0_1 : ByteArray) (A0_2 : Option Addr) (c0_2 : Nat) (l0_2 : List (S42)) (a1_0 : Int) (a1_1 : ByteArray) (A1_2 : Option Addr) (c1_2 : Nat) (l1_2 : List (S42)) (r : Bool) (w : World) (hr0_2 : Kd.C k42 w A0_2 l0_2.length l0_2) (hc0_2 : l0_2.length ≤ c0_2) (hr1_2 : Kd.C k42 w A1_2 l1_2.length l1_2) (hc1_2 : l1_2.length ≤ c1_2) (h : gF k a0_0 a0_1 l0_2 a1_0 a1_1 l1_2 = some r), Calls Try.prog 99 #[.agg #[.int .i64 a0_0, .string a0_1, .slice A0_2 l0_2.length c0_2], .agg #[.int .i64 a1_0, .string a1_1, .slice A1_2 l1_2.length c1_2]] w fun e w' => e = .returned (.bool r) ∧ Below w.heap.size w w') (k : Nat) (A0 : Option Addr) (c0 : Nat) (l0 : List (S42)) (A1 : Option Addr) (c1 : Nat) (l1 : List (S42)) (r : Bool) (w : World) (hr0 : Kd.C k42 w A0 l0.length l0) (hc0 : l0.length ≤ c0) (hr1 : Kd.C k42 w A1 l1.length l1) (hc1 : l1.length ≤ c1) (h : laws_eqRegexSG.f gF k l0 l1 = some r) :
    Calls Try.prog 170 #[.slice A0 l0.length c0, .slice A1 l1.length c1] w fun e w' => e = .returned (.bool r) ∧ Below w.heap.size w w' := by
  have hu42 := Try.underlying42
  have HR0 := Aside0.mk hr0
  have HC0 := Aside0.mk hc0
  clear hr0 hc0
  have HR1 := Aside0.mk hr1
  have HC1 := Aside0.mk hc1
  clear hr1 hc1
  have HB := Aside0.mk (Below.refl w.heap.size w)
  have H : (if (l0.length : Int) = (l1.length : Int) then (laws_eqRegexSG.l0 gF k l0 l1 0) else (some false)) = some r := h
  clear h
  by_cases c3 : (l0.length : Int) = (l1.length : Int)
  · rw [if_pos c3] at H
    have c3b0 : ((l0.length : Int) == (l1.length : Int)) = true := beq_iff_eq.mpr c3
    have c3b1 : ((l0.length : Int) != (l1.length : Int)) = false := bne_eq_false_iff_eq.mpr c3
    have c3b2 : (l0.length == l1.length) = true := by first | simpa using c3 | (simp at c3 ⊢; omega)
    clear c3
    have H' := Aside0.mk H
    clear H
    go_enter Try.func170, Try.ntmps170
    go_wp2
    first | go_loopg [5] k (fun kq v5 w' => ∃ (x5_1 : Int), v5 = .int .i64 x5_1 ∧ Aside0 (laws_eqRegexSG.l0 gF kq l0 l1 x5_1 = some r) ∧ Aside0 (kq ≤ k) ∧ Aside0 (Below w.heap.size w w')) | (simp only [Act.put, List.setIfInBounds_toArray, List.set_cons_succ, List.set_cons_zero]; go_loopg [5] k (fun kq v5 w' => ∃ (x5_1 : Int), v5 = .int .i64 x5_1 ∧ Aside0 (laws_eqRegexSG.l0 gF kq l0 l1 x5_1 = some r) ∧ Aside0 (kq ≤ k) ∧ Aside0 (Below w.heap.size w w')))
    case atStart => exact ⟨(0), (by first | rfl | (simp; done) | (simp [*]; done)), H', ⟨Nat.le_refl _⟩, ⟨by repeat (first | (with_reducible first | exact HB.out | apply below_alloc | apply pw_below_drewN | apply below_drew1) | exact HB.out)⟩⟩
    case round =>
      clear H'
      try clear c1
      try clear p2
      try clear c3
      try clear c3b0
      try clear c3b1
      try clear c3b2
      obtain ⟨x5_1, rfl, HA, HK1, HB⟩ := hrel
      cases gk with
      | zero => exact absurd HA.out (by simp [laws_eqRegexSG.l0])
      | succ k1 =>
        have H := HA.out
        clear HA
        simp only [laws_eqRegexSG.l0] at H
        by_cases c4 : x5_1 < (l0.length : Int)
        · rw [if_pos c4] at H
          have c4b0 : decide (x5_1 < (l0.length : Int)) = true := decide_eq_true c4
          clear c4
          by_cases c5 : 0 ≤ x5_1
          · rw [if_pos c5] at H
            have c5b0 : decide (0 ≤ x5_1) = true := decide_eq_true c5
            clear c5
            by_cases c6 : x5_1 < (l1.length : Int)
            · rw [if_pos c6] at H
              have c6b0 : decide (x5_1 < (l1.length : Int)) = true := decide_eq_true c6
              clear c6
              replace H := Option.bind_eq_some_iff.mp H
              obtain ⟨t170003, A70, H⟩ := H
              replace H : (if t170003 = true then (laws_eqRegexSG.l0 gF k1 l0 l1 (wrap64 (x5_1 + 1))) else (some false)) = some r := H
              have A7 := Aside0.mk A70
              clear A70
              by_cases c8 : t170003 = true
              · subst c8
                have H1 : (laws_eqRegexSG.l0 gF k1 l0 l1 (wrap64 (x5_1 + 1))) = some r := by rw [if_pos rfl] at H; exact H
                clear H
                have H := H1
                clear H1
                have H' := Aside0.mk H
                clear H
                try go_wp2
                have n0_ := Aside0.mk (below_drew1 HB.out)
                clear HB
                have HB := n0_
                clear n0_
                have p170001 : 0 ≤ (x5_1 : Int) := of_decide_eq_true (by first | (with_reducible assumption) | assumption)
                have q170001 : x5_1 < (l0.length : Int) := of_decide_eq_true (by first | (with_reducible assumption) | assumption)
                obtain ⟨ad170001, A170001_2, c170001_2, e170001, hx170001_0, hx170001_1, hx170001_2, hl170001_2, hi170001_2⟩ := at_T42 HR0.out x5_1 p170001 q170001
                have hw170001_2 := hx170001_2
                have hw170001_1 := hx170001_1
                have hw170001_0 := hx170001_0
                cases e170001
                replace hx170001_0 := (HB.out.cell (World.block_lt_of_cell? w _ hx170001_0)).trans hx170001_0
                replace hx170001_1 := (HB.out.cell (World.block_lt_of_cell? w _ hx170001_1)).trans hx170001_1
                replace hx170001_2 := (HB.out.cell (World.block_lt_of_cell? w _ hx170001_2)).trans hx170001_2
                have HR170001_2 := Aside0.mk hi170001_2
                have HC170001_2 := Aside0.mk hl170001_2
                clear hi170001_2 hl170001_2
                replace p170001 := eq_true p170001
                replace q170001 := eq_true q170001
                have p170002 : 0 ≤ (x5_1 : Int) := of_decide_eq_true (by first | (with_reducible assumption) | assumption)
                have q170002 : x5_1 < (l1.length : Int) := of_decide_eq_true (by first | (with_reducible assumption) | assumption)
                obtain ⟨ad170002, A170002_2, c170002_2, e170002, hx170002_0, hx170002_1, hx170002_2, hl170002_2, hi170002_2⟩ := at_T42 HR1.out x5_1 p170002 q170002
                have hw170002_2 := hx170002_2
                have hw170002_1 := hx170002_1
                have hw170002_0 := hx170002_0
                cases e170002
                replace hx170002_0 := (HB.out.cell (World.block_lt_of_cell? w _ hx170002_0)).trans hx170002_0
                replace hx170002_1 := (HB.out.cell (World.block_lt_of_cell? w _ hx170002_1)).trans hx170002_1
                replace hx170002_2 := (HB.out.cell (World.block_lt_of_cell? w _ hx170002_2)).trans hx170002_2
                have HR170002_2 := Aside0.mk hi170002_2
                have HC170002_2 := Aside0.mk hl170002_2
                clear hi170002_2 hl170002_2
                replace p170002 := eq_true p170002
                replace q170002 := eq_true q170002
                refine start_ (n := 10) (S := fun w' => w'.cell? (ad170001.add ((x5_1).toNat * 3)) = some (.int .i64 ((rd_T42 l0 x5_1).f0)) ∧ w'.cell? ⟨(ad170001.add ((x5_1).toNat * 3)).block, (ad170001.add ((x5_1).toNat * 3)).off + 1, none⟩ = some (.string ((rd_T42 l0 x5_1).f1)) ∧ w'.cell? ⟨(ad170001.add ((x5_1).toNat * 3)).block, (ad170001.add ((x5_1).toNat * 3)).off + 2, none⟩ = some (.slice A170001_2 ((rd_T42 l0 x5_1).f2).length c170001_2) ∧ w'.cell? (ad170002.add ((x5_1).toNat * 3)) = some (.int .i64 ((rd_T42 l1 x5_1).f0)) ∧ w'.cell? ⟨(ad170002.add ((x5_1).toNat * 3)).block, (ad170002.add ((x5_1).toNat * 3)).off + 1, none⟩ = some (.string ((rd_T42 l1 x5_1).f1)) ∧ w'.cell? ⟨(ad170002.add ((x5_1).toNat * 3)).block, (ad170002.add ((x5_1).toNat * 3)).off + 2, none⟩ = some (.slice A170002_2 ((rd_T42 l1 x5_1).f2).length c170002_2)) (ds := []) #[false, false, false, false, false, false, false, false, false, false] (by kernel_rfl) rfl rfl ⟨((HB.out.cell (World.block_lt_of_cell? w _ hw170001_0)).trans hw170001_0), ((HB.out.cell (World.block_lt_of_cell? w _ hw170001_1)).trans hw170001_1), ((HB.out.cell (World.block_lt_of_cell? w _ hw170001_2)).trans hw170001_2), ((HB.out.cell (World.block_lt_of_cell? w _ hw170002_0)).trans hw170002_0), ((HB.out.cell (World.block_lt_of_cell? w _ hw170002_1)).trans hw170002_1), ((HB.out.cell (World.block_lt_of_cell? w _ hw170002_2)).trans hw170002_2)⟩ (fun hHeld => ?_); refine with_tabW laws_eqRegexSG.tab6 laws_eqRegexSG.bits6 (fun HT_ HW_ => ?_)
                generalize wr.drew = w9 at HB HR170001_2 HR170002_2 hx170001_0 hx170001_1 hx170001_2 hx170002_0 hx170002_1 hx170002_2 hHeld ⊢
                refine pure_ (i := 0) (N := some 17) (v := ?_) (a' := ?_) #[true, false, false, false, false, false, false, false, false, false] rfl rfl (any_of HT_.out (by kernel_rfl)) (fun _ _ _ h => h) (Or.inl ⟨by rfl, ?_⟩) ?_ ?_
                rotate_left
                · intro w'
                  go_simp
                  first | with_reducible rfl | (rw [if_neg (by omega)]; done)
                rotate_left
                · simp only [Act.put, List.setIfInBounds_toArray, List.set_cons_zero, List.set_cons_succ, i64_w, i32_w]
                  rfl
                refine pure_ (i := 1) (N := some 18) (v := ?_) (a' := ?_) #[true, true, false, false, false, false, false, false, false, false] rfl rfl (any_of HT_.out (by kernel_rfl)) (fun _ _ _ h => h) (Or.inl ⟨by rfl, ?_⟩) ?_ ?_
                rotate_left
                · intro w'
                  go_simp
                  first | with_reducible rfl | (rw [if_neg (by omega)]; done)
                rotate_left
                · simp only [Act.put, List.setIfInBounds_toArray, List.set_cons_zero, List.set_cons_succ, i64_w, i32_w]
                  rfl
                refine pure_ (i := 2) (N := some 19) (v := ?_) (a' := ?_) #[true, true, true, false, false, false, false, false, false, false] rfl rfl (any_of HT_.out (by kernel_rfl)) (fun _ _ _ h => h) (Or.inl ⟨by rfl, ?_⟩) ?_ ?_
                rotate_left
                · intro w'
                  go_simp
                  first | with_reducible rfl | (rw [if_neg (by omega)]; done)
                rotate_left
                · simp only [Act.put, List.setIfInBounds_toArray, List.set_cons_zero, List.set_cons_succ, i64_w, i32_w]
                  rfl
                refine pure_ (i := 4) (N := some 21) (v := ?_) (a' := ?_) #[true, true, true, false, true, false, false, false, false, false] rfl rfl (any_of HT_.out (by kernel_rfl)) (fun _ _ _ h => h) (Or.inl ⟨by rfl, ?_⟩) ?_ ?_
                rotate_left
                · intro w'
                  go_simp
                  first | with_reducible rfl | (rw [if_neg (by omega)]; done)
                rotate_left
                · simp only [Act.put, List.setIfInBounds_toArray, List.set_cons_zero, List.set_cons_succ, i64_w, i32_w]
                  rfl
                refine pure_ (i := 5) (N := some 22) (v := ?_) (a' := ?_) #[true, true, true, false, true, true, false, false, false, false] rfl rfl (any_of HT_.out (by kernel_rfl)) (fun _ _ _ h => h) (Or.inl ⟨by rfl, ?_⟩) ?_ ?_
                rotate_left
                · intro w'
                  go_simp
                  first | with_reducible rfl | (rw [if_neg (by omega)]; done)
                rotate_left
                · simp only [Act.put, List.setIfInBounds_toArray, List.set_cons_zero, List.set_cons_succ, i64_w, i32_w]
                  rfl
                refine pure_ (i := 6) (N := some 23) (v := ?_) (a' := ?_) #[true, true, true, false, true, true, true, false, false, false] rfl rfl (any_of HT_.out (by kernel_rfl)) (fun _ _ _ h => h) (Or.inl ⟨by rfl, ?_⟩) ?_ ?_
                rotate_left
                · intro w'
                  go_simp
                  first | with_reducible rfl | (rw [if_neg (by omega)]; done)
                rotate_left
                · simp only [Act.put, List.setIfInBounds_toArray, List.set_cons_zero, List.set_cons_succ, i64_w, i32_w]
                  rfl
                refine take_ (i := 3) (N := some 20) (v := ?_) (a' := ?_) #[true, true, true, true, true, true, true, false, false, false] rfl rfl (take_ofW HT_.out HW_.out (by kernel_rfl)) (fun _ _ _ h => h) (Or.inl ⟨by rfl, ?_⟩) hHeld ?_ ?_
                rotate_left
                · rintro w' ⟨s0, s1, s2, s3, s4, s5⟩
                  go_simp
                  first | with_reducible rfl | (rw [if_neg (by omega)]; done)
                rotate_left
                · simp only [Act.put, List.setIfInBounds_toArray, List.set_cons_zero, List.set_cons_succ, i64_w, i32_w]
                  rfl
                refine take_ (i := 7) (N := some 24) (v := ?_) (a' := ?_) #[true, true, true, true, true, true, true, true, false, false] rfl rfl (take_ofW HT_.out HW_.out (by kernel_rfl)) (fun _ _ _ h => h) (Or.inl ⟨by rfl, ?_⟩) hHeld ?_ ?_
                rotate_left
                · rintro w' ⟨s0, s1, s2, s3, s4, s5⟩
                  go_simp
                  first | with_reducible rfl | (rw [if_neg (by omega)]; done)
                rotate_left
                · simp only [Act.put, List.setIfInBounds_toArray, List.set_cons_zero, List.set_cons_succ, i64_w, i32_w]
                  rfl
                refine one_ (i := 8) (N := some 25) #[true, true, true, true, true, true, true, true, true, false] rfl rfl (one_of HT_.out (by kernel_rfl)) (by decide) (fun K hK => ?_)
                refine goes_ Try.func99 (by kernel_rfl) rfl #[.agg #[.int .i64 ((rd_T42 l0 x5_1).f0), .string ((rd_T42 l0 x5_1).f1), .slice A170001_2 ((rd_T42 l0 x5_1).f2).length c170001_2], .agg #[.int .i64 ((rd_T42 l1 x5_1).f0), .string ((rd_T42 l1 x5_1).f1), .slice A170002_2 ((rd_T42 l1 x5_1).f2).length c170002_2]] (by rfl) rfl rfl (by (try simp only [List.map_toArray, List.map_cons, List.map_nil]); first | done | rfl | (simp only [List.length_drop, List.length_take]; rfl)) ?_
                with_reducible refine (gC k1 ((rd_T42 l0 x5_1).f0) ((rd_T42 l0 x5_1).f1) _ _ ((rd_T42 l0 x5_1).f2) ((rd_T42 l1 x5_1).f0) ((rd_T42 l1 x5_1).f1) _ _ ((rd_T42 l1 x5_1).f2) true _ ?side1 ?side2 ?side3 ?side4 A7.out).mono ?_
                (case side1 => repeat (first | exact (Kd.C_below HR170001_2.out HB.out) | (with_reducible refine Kd.C_alloc ?_ _) | (with_reducible refine Kd.C_drewN ?_ _) | (with_reducible refine Kd.C_drew ?_)))
                (case side2 => exact HC170001_2.out)
                (case side3 => repeat (first | exact (Kd.C_below HR170002_2.out HB.out) | (with_reducible refine Kd.C_alloc ?_ _) | (with_reducible refine Kd.C_drewN ?_ _) | (with_reducible refine Kd.C_drew ?_)))
                (case side4 => exact HC170002_2.out)
                rintro e w10 ⟨rfl, hb⟩
                refine ⟨_, rfl, ?_⟩
                have n0_ := Aside0.mk (below_step (by repeat (first | (with_reducible first | exact HB.out | apply below_alloc | apply pw_below_drewN | apply below_drew1) | exact HB.out)) hb)
                clear HB
                have HB := n0_
                clear n0_
                (try clear hb)
                (try clear hb2)
                (try clear hk)
                (try clear hi)
                refine hK.out _ _ ⟨((HB.out.cell (World.block_lt_of_cell? w _ hw170001_0)).trans hw170001_0), ((HB.out.cell (World.block_lt_of_cell? w _ hw170001_1)).trans hw170001_1), ((HB.out.cell (World.block_lt_of_cell? w _ hw170001_2)).trans hw170001_2), ((HB.out.cell (World.block_lt_of_cell? w _ hw170002_0)).trans hw170002_0), ((HB.out.cell (World.block_lt_of_cell? w _ hw170002_1)).trans hw170002_1), ((HB.out.cell (World.block_lt_of_cell? w _ hw170002_2)).trans hw170002_2)⟩ (fun hHeld => ?_)
                clear hK K
                refine norm_ (a' := ?_) ?_ ?_
                rotate_left
                · show Act.put _ (some 25) _ = _
                  simp only [Act.put, List.setIfInBounds_toArray, List.set_cons_zero, List.set_cons_succ, i64_w, i32_w]
                  rfl
                refine pure_ (i := 9) (N := some 26) (v := ?_) (a' := ?_) #[true, true, true, true, true, true, true, true, true, true] rfl rfl (any_of HT_.out (by kernel_rfl)) (fun _ _ _ h => h) (Or.inl ⟨by rfl, ?_⟩) ?_ ?_
                rotate_left
                · intro w'
                  go_simp
                  first | with_reducible rfl | (rw [if_neg (by omega)]; done)
                rotate_left
                · simp only [Act.put, List.setIfInBounds_toArray, List.set_cons_zero, List.set_cons_succ, i64_w, i32_w]
                  rfl
                refine done_ (done_of HT_.out (by kernel_rfl)) ?_
                try go_wp2
                go_roundg k1
                case measure => have := HK1.out; omega
                case rel => exact ⟨(wrap64 (x5_1 + 1)), (by first | rfl | (simp; done) | (simp [*]; done)), H', ⟨by have := HK1.out; omega⟩, ⟨by repeat (first | (with_reducible first | exact HB.out | apply below_alloc | apply pw_below_drewN | apply below_drew1) | exact HB.out)⟩⟩
              · replace c8 := Bool.eq_false_iff.mpr c8
                subst c8
                have H1 : (some false) = some r := by rw [if_neg (show ¬ (false = true) by decide)] at H; exact H
                clear H
                have H := H1
                clear H1
                obtain rfl := Option.some.inj H
                try go_wp2
                have n0_ := Aside0.mk (below_drew1 HB.out)
                clear HB
                have HB := n0_
                clear n0_
                have p170001 : 0 ≤ (x5_1 : Int) := of_decide_eq_true (by first | (with_reducible assumption) | assumption)
                have q170001 : x5_1 < (l0.length : Int) := of_decide_eq_true (by first | (with_reducible assumption) | assumption)
                obtain ⟨ad170001, A170001_2, c170001_2, e170001, hx170001_0, hx170001_1, hx170001_2, hl170001_2, hi170001_2⟩ := at_T42 HR0.out x5_1 p170001 q170001
                have hw170001_2 := hx170001_2
                have hw170001_1 := hx170001_1
                have hw170001_0 := hx170001_0
                cases e170001
                replace hx170001_0 := (HB.out.cell (World.block_lt_of_cell? w _ hx170001_0)).trans hx170001_0
                replace hx170001_1 := (HB.out.cell (World.block_lt_of_cell? w _ hx170001_1)).trans hx170001_1
                replace hx170001_2 := (HB.out.cell (World.block_lt_of_cell? w _ hx170001_2)).trans hx170001_2
                have HR170001_2 := Aside0.mk hi170001_2
                have HC170001_2 := Aside0.mk hl170001_2
                clear hi170001_2 hl170001_2
                replace p170001 := eq_true p170001
                replace q170001 := eq_true q170001
                have p170002 : 0 ≤ (x5_1 : Int) := of_decide_eq_true (by first | (with_reducible assumption) | assumption)
                have q170002 : x5_1 < (l1.length : Int) := of_decide_eq_true (by first | (with_reducible assumption) | assumption)
                obtain ⟨ad170002, A170002_2, c170002_2, e170002, hx170002_0, hx170002_1, hx170002_2, hl170002_2, hi170002_2⟩ := at_T42 HR1.out x5_1 p170002 q170002
                have hw170002_2 := hx170002_2
                have hw170002_1 := hx170002_1
                have hw170002_0 := hx170002_0
                cases e170002
                replace hx170002_0 := (HB.out.cell (World.block_lt_of_cell? w _ hx170002_0)).trans hx170002_0
                replace hx170002_1 := (HB.out.cell (World.block_lt_of_cell? w _ hx170002_1)).trans hx170002_1
                replace hx170002_2 := (HB.out.cell (World.block_lt_of_cell? w _ hx170002_2)).trans hx170002_2
                have HR170002_2 := Aside0.mk hi170002_2
                have HC170002_2 := Aside0.mk hl170002_2
                clear hi170002_2 hl170002_2
                replace p170002 := eq_true p170002
                replace q170002 := eq_true q170002
                refine start_ (n := 10) (S := fun w' => w'.cell? (ad170001.add ((x5_1).toNat * 3)) = some (.int .i64 ((rd_T42 l0 x5_1).f0)) ∧ w'.cell? ⟨(ad170001.add ((x5_1).toNat * 3)).block, (ad170001.add ((x5_1).toNat * 3)).off + 1, none⟩ = some (.string ((rd_T42 l0 x5_1).f1)) ∧ w'.cell? ⟨(ad170001.add ((x5_1).toNat * 3)).block, (ad170001.add ((x5_1).toNat * 3)).off + 2, none⟩ = some (.slice A170001_2 ((rd_T42 l0 x5_1).f2).length c170001_2) ∧ w'.cell? (ad170002.add ((x5_1).toNat * 3)) = some (.int .i64 ((rd_T42 l1 x5_1).f0)) ∧ w'.cell? ⟨(ad170002.add ((x5_1).toNat * 3)).block, (ad170002.add ((x5_1).toNat * 3)).off + 1, none⟩ = some (.string ((rd_T42 l1 x5_1).f1)) ∧ w'.cell? ⟨(ad170002.add ((x5_1).toNat * 3)).block, (ad170002.add ((x5_1).toNat * 3)).off + 2, none⟩ = some (.slice A170002_2 ((rd_T42 l1 x5_1).f2).length c170002_2)) (ds := []) #[false, false, false, false, false, false, false, false, false, false] (by kernel_rfl) rfl rfl ⟨((HB.out.cell (World.block_lt_of_cell? w _ hw170001_0)).trans hw170001_0), ((HB.out.cell (World.block_lt_of_cell? w _ hw170001_1)).trans hw170001_1), ((HB.out.cell (World.block_lt_of_cell? w _ hw170001_2)).trans hw170001_2), ((HB.out.cell (World.block_lt_of_cell? w _ hw170002_0)).trans hw170002_0), ((HB.out.cell (World.block_lt_of_cell? w _ hw170002_1)).trans hw170002_1), ((HB.out.cell (World.block_lt_of_cell? w _ hw170002_2)).trans hw170002_2)⟩ (fun hHeld => ?_); refine with_tabW laws_eqRegexSG.tab6 laws_eqRegexSG.bits6 (fun HT_ HW_ => ?_)
                generalize wr.drew = w11 at HB HR170001_2 HR170002_2 hx170001_0 hx170001_1 hx170001_2 hx170002_0 hx170002_1 hx170002_2 hHeld ⊢
                refine pure_ (i := 0) (N := some 17) (v := ?_) (a' := ?_) #[true, false, false, false, false, false, false, false, false, false] rfl rfl (any_of HT_.out (by kernel_rfl)) (fun _ _ _ h => h) (Or.inl ⟨by rfl, ?_⟩) ?_ ?_
                rotate_left
                · intro w'
                  go_simp
                  first | with_reducible rfl | (rw [if_neg (by omega)]; done)
                rotate_left
                · simp only [Act.put, List.setIfInBounds_toArray, List.set_cons_zero, List.set_cons_succ, i64_w, i32_w]
                  rfl
                refine pure_ (i := 1) (N := some 18) (v := ?_) (a' := ?_) #[true, true, false, false, false, false, false, false, false, false] rfl rfl (any_of HT_.out (by kernel_rfl)) (fun _ _ _ h => h) (Or.inl ⟨by rfl, ?_⟩) ?_ ?_
                rotate_left
                · intro w'
                  go_simp
                  first | with_reducible rfl | (rw [if_neg (by omega)]; done)
                rotate_left
                · simp only [Act.put, List.setIfInBounds_toArray, List.set_cons_zero, List.set_cons_succ, i64_w, i32_w]
                  rfl
                refine pure_ (i := 2) (N := some 19) (v := ?_) (a' := ?_) #[true, true, true, false, false, false, false, false, false, false] rfl rfl (any_of HT_.out (by kernel_rfl)) (fun _ _ _ h => h) (Or.inl ⟨by rfl, ?_⟩) ?_ ?_
                rotate_left
                · intro w'
                  go_simp
                  first | with_reducible rfl | (rw [if_neg (by omega)]; done)
                rotate_left
                · simp only [Act.put, List.setIfInBounds_toArray, List.set_cons_zero, List.set_cons_succ, i64_w, i32_w]
                  rfl
                refine pure_ (i := 4) (N := some 21) (v := ?_) (a' := ?_) #[true, true, true, false, true, false, false, false, false, false] rfl rfl (any_of HT_.out (by kernel_rfl)) (fun _ _ _ h => h) (Or.inl ⟨by rfl, ?_⟩) ?_ ?_
                rotate_left
                · intro w'
                  go_simp
                  first | with_reducible rfl | (rw [if_neg (by omega)]; done)
                rotate_left
                · simp only [Act.put, List.setIfInBounds_toArray, List.set_cons_zero, List.set_cons_succ, i64_w, i32_w]
                  rfl
                refine pure_ (i := 5) (N := some 22) (v := ?_) (a' := ?_) #[true, true, true, false, true, true, false, false, false, false] rfl rfl (any_of HT_.out (by kernel_rfl)) (fun _ _ _ h => h) (Or.inl ⟨by rfl, ?_⟩) ?_ ?_
                rotate_left
                · intro w'
                  go_simp
                  first | with_reducible rfl | (rw [if_neg (by omega)]; done)
                rotate_left
                · simp only [Act.put, List.setIfInBounds_toArray, List.set_cons_zero, List.set_cons_succ, i64_w, i32_w]
                  rfl
                refine pure_ (i := 6) (N := some 23) (v := ?_) (a' := ?_) #[true, true, true, false, true, true, true, false, false, false] rfl rfl (any_of HT_.out (by kernel_rfl)) (fun _ _ _ h => h) (Or.inl ⟨by rfl, ?_⟩) ?_ ?_
                rotate_left
                · intro w'
                  go_simp
                  first | with_reducible rfl | (rw [if_neg (by omega)]; done)
                rotate_left
                · simp only [Act.put, List.setIfInBounds_toArray, List.set_cons_zero, List.set_cons_succ, i64_w, i32_w]
                  rfl
                refine take_ (i := 3) (N := some 20) (v := ?_) (a' := ?_) #[true, true, true, true, true, true, true, false, false, false] rfl rfl (take_ofW HT_.out HW_.out (by kernel_rfl)) (fun _ _ _ h => h) (Or.inl ⟨by rfl, ?_⟩) hHeld ?_ ?_
                rotate_left
                · rintro w' ⟨s0, s1, s2, s3, s4, s5⟩
                  go_simp
                  first | with_reducible rfl | (rw [if_neg (by omega)]; done)
                rotate_left
                · simp only [Act.put, List.setIfInBounds_toArray, List.set_cons_zero, List.set_cons_succ, i64_w, i32_w]
                  rfl
                refine take_ (i := 7) (N := some 24) (v := ?_) (a' := ?_) #[true, true, true, true, true, true, true, true, false, false] rfl rfl (take_ofW HT_.out HW_.out (by kernel_rfl)) (fun _ _ _ h => h) (Or.inl ⟨by rfl, ?_⟩) hHeld ?_ ?_
                rotate_left
                · rintro w' ⟨s0, s1, s2, s3, s4, s5⟩
                  go_simp
                  first | with_reducible rfl | (rw [if_neg (by omega)]; done)
                rotate_left
                · simp only [Act.put, List.setIfInBounds_toArray, List.set_cons_zero, List.set_cons_succ, i64_w, i32_w]
                  rfl
                refine one_ (i := 8) (N := some 25) #[true, true, true, true, true, true, true, true, true, false] rfl rfl (one_of HT_.out (by kernel_rfl)) (by decide) (fun K hK => ?_)
                refine goes_ Try.func99 (by kernel_rfl) rfl #[.agg #[.int .i64 ((rd_T42 l0 x5_1).f0), .string ((rd_T42 l0 x5_1).f1), .slice A170001_2 ((rd_T42 l0 x5_1).f2).length c170001_2], .agg #[.int .i64 ((rd_T42 l1 x5_1).f0), .string ((rd_T42 l1 x5_1).f1), .slice A170002_2 ((rd_T42 l1 x5_1).f2).length c170002_2]] (by rfl) rfl rfl (by (try simp only [List.map_toArray, List.map_cons, List.map_nil]); first | done | rfl | (simp only [List.length_drop, List.length_take]; rfl)) ?_
                with_reducible refine (gC k1 ((rd_T42 l0 x5_1).f0) ((rd_T42 l0 x5_1).f1) _ _ ((rd_T42 l0 x5_1).f2) ((rd_T42 l1 x5_1).f0) ((rd_T42 l1 x5_1).f1) _ _ ((rd_T42 l1 x5_1).f2) false _ ?side1 ?side2 ?side3 ?side4 A7.out).mono ?_
                (case side1 => repeat (first | exact (Kd.C_below HR170001_2.out HB.out) | (with_reducible refine Kd.C_alloc ?_ _) | (with_reducible refine Kd.C_drewN ?_ _) | (with_reducible refine Kd.C_drew ?_)))
                (case side2 => exact HC170001_2.out)
                (case side3 => repeat (first | exact (Kd.C_below HR170002_2.out HB.out) | (with_reducible refine Kd.C_alloc ?_ _) | (with_reducible refine Kd.C_drewN ?_ _) | (with_reducible refine Kd.C_drew ?_)))
                (case side4 => exact HC170002_2.out)
                rintro e w12 ⟨rfl, hb⟩
                refine ⟨_, rfl, ?_⟩
                have n0_ := Aside0.mk (below_step (by repeat (first | (with_reducible first | exact HB.out | apply below_alloc | apply pw_below_drewN | apply below_drew1) | exact HB.out)) hb)
                clear HB
                have HB := n0_
                clear n0_
                (try clear hb)
                (try clear hb2)
                (try clear hk)
                (try clear hi)
                refine hK.out _ _ ⟨((HB.out.cell (World.block_lt_of_cell? w _ hw170001_0)).trans hw170001_0), ((HB.out.cell (World.block_lt_of_cell? w _ hw170001_1)).trans hw170001_1), ((HB.out.cell (World.block_lt_of_cell? w _ hw170001_2)).trans hw170001_2), ((HB.out.cell (World.block_lt_of_cell? w _ hw170002_0)).trans hw170002_0), ((HB.out.cell (World.block_lt_of_cell? w _ hw170002_1)).trans hw170002_1), ((HB.out.cell (World.block_lt_of_cell? w _ hw170002_2)).trans hw170002_2)⟩ (fun hHeld => ?_)
                clear hK K
                refine norm_ (a' := ?_) ?_ ?_
                rotate_left
                · show Act.put _ (some 25) _ = _
                  simp only [Act.put, List.setIfInBounds_toArray, List.set_cons_zero, List.set_cons_succ, i64_w, i32_w]
                  rfl
                refine pure_ (i := 9) (N := some 26) (v := ?_) (a' := ?_) #[true, true, true, true, true, true, true, true, true, true] rfl rfl (any_of HT_.out (by kernel_rfl)) (fun _ _ _ h => h) (Or.inl ⟨by rfl, ?_⟩) ?_ ?_
                rotate_left
                · intro w'
                  go_simp
                  first | with_reducible rfl | (rw [if_neg (by omega)]; done)
                rotate_left
                · simp only [Act.put, List.setIfInBounds_toArray, List.set_cons_zero, List.set_cons_succ, i64_w, i32_w]
                  rfl
                refine done_ (done_of HT_.out (by kernel_rfl)) ?_
                try go_wp2
                go_ret
                exact ⟨by first | rfl | (simp [errW_none, errW_some] <;> rfl) | (simp [*, errW_none, errW_some] <;> rfl), by repeat (first | (with_reducible first | exact HB.out | apply below_alloc | apply pw_below_drewN | apply below_drew1) | exact HB.out)⟩
            · rw [if_neg c6] at H
              exact absurd H (by simp)
          · rw [if_neg c5] at H
            exact absurd H (by simp)
        · rw [if_neg c4] at H
          have c4b0 : decide (x5_1 < (l0.length : Int)) = false := decide_eq_false c4
          clear c4
          obtain rfl := Option.some.inj H
          go_wp2
          go_ret
          exact ⟨by first | rfl | (simp [errW_none, errW_some] <;> rfl) | (simp [*, errW_none, errW_some] <;> rfl), by repeat (first | (with_reducible first | exact HB.out | apply below_alloc | apply pw_below_drewN | apply below_drew1) | exact HB.out)⟩
  · rw [if_neg c3] at H
    have c3b0 : ((l0.length : Int) == (l1.length : Int)) = false := beq_eq_false_iff_ne.mpr c3
    have c3b1 : ((l0.length : Int) != (l1.length : Int)) = true := bne_iff_ne.mpr c3
    have c3b2 : (l0.length == l1.length) = false := by first | simpa using c3 | (simp at c3 ⊢; omega)
    obtain rfl := Option.some.inj H
    go_enter Try.func170, Try.ntmps170
    go_wp2
    go_ret
    exact ⟨by first | rfl | (simp [errW_none, errW_some] <;> rfl) | (simp [*, errW_none, errW_some] <;> rfl), by repeat (first | (with_reducible first | exact HB.out | apply below_alloc | apply pw_below_drewN | apply below_drew1) | exact HB.out)⟩
theorem laws_eqRegexSG.mono_lg (gF gF2 : Nat → Int → ByteArray → List (S42) → Int → ByteArray → List (S42) → Option (Bool)) (hg : ∀ b0 b1 b2 b3 b4 b5 k, LeO (gF k b0 b1 b2 b3 b4 b5) (gF2 k b0 b1 b2 b3 b4 b5)) : ∀ k, (∀ y0 y1 y2, LeO (laws_eqRegexSG.l0 gF k y0 y1 y2) (laws_eqRegexSG.l0 gF2 k y0 y1 y2))
  | 0 => fun _ _ _ r h => by simp [laws_eqRegexSG.l0] at h
  | k + 1 => by
    have ih0 := laws_eqRegexSG.mono_lg gF gF2 hg k
    · intro y0 y1 y2
      unfold laws_eqRegexSG.l0
      repeat' first
      | (with_reducible exact ih0 _ _ _)
      | (with_reducible exact hg _ _ _ _ _ _ _)
      | (with_reducible exact LeO.refl _)
      | (with_reducible exact LeO.none _)
      | (with_reducible refine LeO.ite ?_ ?_)
      | (with_reducible refine LeO.bind ?_ (fun _ => ?_))
      | exact ih0 _ _ _
      | exact hg _ _ _ _ _ _ _
      | exact LeO.none _
      | refine LeO.ite ?_ ?_
      | refine LeO.bind ?_ (fun _ => ?_)
theorem laws_eqRegexSG.monog (gF gF2 : Nat → Int → ByteArray → List (S42) → Int → ByteArray → List (S42) → Option (Bool)) (hg : ∀ b0 b1 b2 b3 b4 b5 k, LeO (gF k b0 b1 b2 b3 b4 b5) (gF2 k b0 b1 b2 b3 b4 b5)) : ∀ a0 a1 k, LeO (laws_eqRegexSG.f gF k a0 a1) (laws_eqRegexSG.f gF2 k a0 a1) := by
  intro a0 a1 k
  have ih0 := laws_eqRegexSG.mono_lg gF gF2 hg k
  unfold laws_eqRegexSG.f
  repeat' first
      | (with_reducible exact ih0 _ _ _)
      | (with_reducible exact hg _ _ _ _ _ _ _)
      | (with_reducible exact LeO.refl _)
      | (with_reducible exact LeO.none _)
      | (with_reducible refine LeO.ite ?_ ?_)
      | (with_reducible refine LeO.bind ?_ (fun _ => ?_))
      | exact ih0 _ _ _
      | exact hg _ _ _ _ _ _ _
      | exact LeO.none _
      | refine LeO.ite ?_ ?_
      | refine LeO.bind ?_ (fun _ => ?_)
/-! ### laws_eqRegex: function 99 -/
def laws_eqRegexG.f (gF : Nat → Int → ByteArray → List (S42) → Int → ByteArray → List (S42) → Option (Bool)) (k : Nat) (a0_0 : Int) (a0_1 : ByteArray) (l0_2 : List (S42)) (a1_0 : Int) (a1_1 : ByteArray) (l1_2 : List (S42)) : Option (Bool) := if a0_0 = a1_0 then (if a0_1.toList = a1_1.toList then ((laws_eqRegexSG.f gF k l0_2 l1_2).bind fun t99003 => (if t99003 = true then (some true) else (some false))) else (some false)) else (some false)
theorem laws_eqRegexG.mono (gF : Nat → Int → ByteArray → List (S42) → Int → ByteArray → List (S42) → Option (Bool)) (gM : ∀ a0 a1 a2 a3 a4 a5 k, LeO (gF k a0 a1 a2 a3 a4 a5) (gF (k + 1) a0 a1 a2 a3 a4 a5)) : ∀ a0 a1 a2 a3 a4 a5 k, LeO (laws_eqRegexG.f gF k a0 a1 a2 a3 a4 a5) (laws_eqRegexG.f gF (k + 1) a0 a1 a2 a3 a4 a5) := by
  intro a0 a1 a2 a3 a4 a5 k
  unfold laws_eqRegexG.f
  repeat' first
      | (with_reducible exact laws_eqRegexSG.mono gF gM _ _ _)
      | (with_reducible exact LeO.refl _)
      | (with_reducible exact LeO.none _)
      | (with_reducible refine LeO.ite ?_ ?_)
      | (with_reducible refine LeO.bind ?_ (fun _ => ?_))
      | exact laws_eqRegexSG.mono gF gM _ _ _
      | exact LeO.none _
      | refine LeO.ite ?_ ?_
      | refine LeO.bind ?_ (fun _ => ?_)
set_option maxHeartbeats 8000000 in
set_option maxRecDepth 100000 in
theorem laws_eqRegexG.calls (gF : Nat → Int → ByteArray → List (S42) → Int → ByteArray → List (S42) → Option (Bool)) (gC : ∀ (k : Nat) (a0_0 : Int) (a0_1 : ByteArray) (A0_2 : Option Addr) (c0_2 : Nat) (l0_2 : List (S42)) (a1_0 : Int) (a1_1 : ByteArray) (A1_2 : Option Addr) (c1_2 : Nat) (l1_2 : List (S42)) (r : Bool) (w : World) (hr0_2 : Kd.C k42 w A0_2 l0_2.length l0_2) (hc0_2 : l0_2.length ≤ c0_2) (hr1_2 : Kd.C k42 w A1_2 l1_2.length l1_2) (hc1_2 : l1_2.length ≤ c1_2) (h : gF k a0_0 a0_1 l0_2 a1_0 a1_1 l1_2 = some r), Calls Try.prog 99 #[.agg #[.int .i64 a0_0, .string a0_1, .slice A0_2 l0_2.length c0_2], .agg #[.int .i64 a1_0, .string a1_1, .slice A1_2 l1_2.length c1_2]] w fun e w' => e = .returned (.bool r) ∧ Below w.heap.size w w') (k : Nat) (a0_0 : Int) (a0_1 : ByteArray) (A0_2 : Option Addr) (c0_2 : Nat) (l0_2 : List (S42)) (a1_0 : Int) (a1_1 : ByteArray) (A1_2 : Option Addr) (c1_2 : Nat) (l1_2 : List (S42)) (r : Bool) (w : World) (hr0_2 : Kd.C k42 w A0_2 l0_2.length l0_2) (hc0_2 : l0_2.length ≤ c0_2) (hr1_2 : Kd.C k42 w A1_2 l1_2.length l1_2) (hc1_2 : l1_2.length ≤ c1_2) (h : laws_eqRegexG.f gF k a0_0 a0_1 l0_2 a1_0 a1_1 l1_2 = some r) :
    Calls Try.prog 99 #[.agg #[.int .i64 a0_0, .string a0_1, .slice A0_2 l0_2.length c0_2], .agg #[.int .i64 a1_0, .string a1_1, .slice A1_2 l1_2.length c1_2]] w fun e w' => e = .returned (.bool r) ∧ Below w.heap.size w w' := by
  have hu42 := Try.underlying42
  have HR0_2 := Aside0.mk hr0_2
  have HC0_2 := Aside0.mk hc0_2
  clear hr0_2 hc0_2
  have HR1_2 := Aside0.mk hr1_2
  have HC1_2 := Aside0.mk hc1_2
  clear hr1_2 hc1_2
  have HB := Aside0.mk (Below.refl w.heap.size w)
  have H : (if a0_0 = a1_0 then (if a0_1.toList = a1_1.toList then ((laws_eqRegexSG.f gF k l0_2 l1_2).bind fun t99003 => (if t99003 = true then (some true) else (some false))) else (some false)) else (some false)) = some r := h
  clear h
  by_cases c3 : a0_0 = a1_0
  · rw [if_pos c3] at H
    have c3b0 : (a0_0 == a1_0) = true := beq_iff_eq.mpr c3
    have c3b1 : (a0_0 != a1_0) = false := bne_eq_false_iff_eq.mpr c3
    clear c3
    by_cases c4 : a0_1.toList = a1_1.toList
    · rw [if_pos c4] at H
      have c4b0 : (a0_1.toList == a1_1.toList) = true := beq_iff_eq.mpr c4
      have c4b1 : (a0_1.toList != a1_1.toList) = false := bne_eq_false_iff_eq.mpr c4
      clear c4
      replace H := Option.bind_eq_some_iff.mp H
      obtain ⟨t99003, A50, H⟩ := H
      replace H : (if t99003 = true then (some true) else (some false)) = some r := H
      have A5 := Aside0.mk A50
      clear A50
      by_cases c6 : t99003 = true
      · subst c6
        have H1 : (some true) = some r := by rw [if_pos rfl] at H; exact H
        clear H
        have H := H1
        clear H1
        obtain rfl := Option.some.inj H
        go_enter Try.func99, Try.ntmps99
        go_wp2_with (first | ((with_reducible refine gate_dst (N := 2) rfl ?_); refine box_event ?hg (N := 2) ?hd (cs := #[.int .i64 a0_0, .string a0_1, .slice A0_2 l0_2.length c0_2]) (t := 42) ?hr ?_; (case hd => rfl); (case hg => rfl); (case hr => first | (go_simp; done) | (go_simp; rfl)); intro gb99001 hg w7 hbox hb; have n0_ := Aside0.mk (below_step (by repeat (first | (with_reducible first | exact HB.out | apply below_alloc | apply pw_below_drewN | apply below_drew1) | exact HB.out)) hb); have n1_ := Aside0.mk (hbox); have n2_ := Aside0.mk ((by rw [hg]; exact (below_size (by repeat (first | (with_reducible first | exact HB.out | apply below_alloc | apply pw_below_drewN | apply below_drew1) | exact HB.out))) : w.heap.size ≤ gb99001)); have n3_ := Aside0.mk ((by rw [hg]; exact (below_size (by repeat (first | (with_reducible first | exact HB.out | apply below_alloc | apply pw_below_drewN | apply below_drew1) | exact HB.out))) : w.heap.size ≤ gb99001)); clear HB; have HB := n0_; have BK99001 := n1_; have GW99001 := n2_; have GE99001 := n3_; clear n0_ n1_ n2_ n3_; clear hb hbox hg) | ((with_reducible refine gate_dst (N := 3) rfl ?_); refine box_event ?hg (N := 3) ?hd (cs := #[.int .i64 a1_0, .string a1_1, .slice A1_2 l1_2.length c1_2]) (t := 42) ?hr ?_; (case hd => rfl); (case hg => rfl); (case hr => first | (go_simp; done) | (go_simp; rfl)); intro gb99002 hg w8 hbox hb; have n0_ := Aside0.mk (blk_below (g := gb99001) (o := .cells #[.int .i64 a0_0, .string a0_1, .slice A0_2 l0_2.length c0_2] 42 (0, 0)) (by (with_reducible repeat (first | refine blk_drewN ?_ _ | refine blk_drew ?_ | refine blk_alloc ?_ _)); exact BK99001.out) hb); have n1_ := Aside0.mk (below_step (by repeat (first | (with_reducible first | exact HB.out | apply below_alloc | apply pw_below_drewN | apply below_drew1 | refine below_set ?_ GE99001.out) | exact HB.out)) hb); have n2_ := Aside0.mk (hbox); have n3_ := Aside0.mk ((by rw [hg]; exact (below_size (by repeat (first | (with_reducible first | exact HB.out | apply below_alloc | apply pw_below_drewN | apply below_drew1 | refine below_set ?_ GE99001.out) | exact HB.out))) : w.heap.size ≤ gb99002)); have n4_ := Aside0.mk ((by rw [hg]; exact (below_size (by repeat (first | (with_reducible first | exact HB.out | apply below_alloc | apply pw_below_drewN | apply below_drew1 | refine below_set ?_ GE99001.out) | exact HB.out))) : w.heap.size ≤ gb99002)); have n5_ := Aside0.mk ((by rw [hg]; exact Nat.ne_of_lt (blk_lt (g := gb99001) (o := .cells #[.int .i64 a0_0, .string a0_1, .slice A0_2 l0_2.length c0_2] 42 (0, 0)) (by (with_reducible repeat (first | refine blk_drewN ?_ _ | refine blk_drew ?_ | refine blk_alloc ?_ _)); exact BK99001.out)) : gb99001 ≠ gb99002)); have n6_ := Aside0.mk ((by rw [hg]; exact Nat.ne_of_gt (blk_lt (g := gb99001) (o := .cells #[.int .i64 a0_0, .string a0_1, .slice A0_2 l0_2.length c0_2] 42 (0, 0)) (by (with_reducible repeat (first | refine blk_drewN ?_ _ | refine blk_drew ?_ | refine blk_alloc ?_ _)); exact BK99001.out)) : gb99002 ≠ gb99001)); clear BK99001; clear HB; have BK99001 := n0_; have HB := n1_; have BK99002 := n2_; have GW99002 := n3_; have GE99002 := n4_; have NB99001_99002 := n5_; have NB99002_99001 := n6_; clear n0_ n1_ n2_ n3_ n4_ n5_ n6_; clear hb hbox hg; have hnb9 := NB99001_99002.out; have hnc9 := NB99002_99001.out; have hcz10_0 : w8.cell? ⟨gb99001, 0, none⟩ = some (.int .i64 a0_0) := (blk_cell BK99001.out 0).trans rfl; have hcz10_1 : w8.cell? ⟨gb99001, 1, none⟩ = some (.string a0_1) := (blk_cell BK99001.out 1).trans rfl; have hcz10_2 : w8.cell? ⟨gb99001, 2, none⟩ = some (.slice A0_2 l0_2.length c0_2) := (blk_cell BK99001.out 2).trans rfl; have hfz10_0 := blk_frozen BK99001.out 0; have hfz10_1 := blk_frozen BK99001.out 1; have hfz10_2 := blk_frozen BK99001.out 2; have hcz11_0 : w8.cell? ⟨gb99002, 0, none⟩ = some (.int .i64 a1_0) := (blk_cell BK99002.out 0).trans rfl; have hcz11_1 : w8.cell? ⟨gb99002, 1, none⟩ = some (.string a1_1) := (blk_cell BK99002.out 1).trans rfl; have hcz11_2 : w8.cell? ⟨gb99002, 2, none⟩ = some (.slice A1_2 l1_2.length c1_2) := (blk_cell BK99002.out 2).trans rfl; have hfz11_0 := blk_frozen BK99002.out 0; have hfz11_1 := blk_frozen BK99002.out 1; have hfz11_2 := blk_frozen BK99002.out 2) | ((with_reducible refine gate_callee (f := 170) rfl ?_); refine goesL_ (some 19) rfl rfl Try.func170 (by kernel_rfl) rfl #[.slice A0_2 l0_2.length c0_2, .slice A1_2 l1_2.length c1_2] rfl (by (try simp only [List.map_toArray, List.map_cons, List.map_nil]); first | done | rfl | (simp only [List.length_drop, List.length_take]; rfl)) ?_; (with_reducible refine (laws_eqRegexSG.calls gF gC k _ _ l0_2 _ _ l1_2 true _ ?side1 ?side2 ?side3 ?side4 A5.out).mono ?_); (case side1 => repeat (first | exact (Kd.C_below HR0_2.out HB.out) | (with_reducible refine Kd.C_alloc ?_ _) | (with_reducible refine Kd.C_drewN ?_ _) | (with_reducible refine Kd.C_drew ?_))); (case side2 => exact HC0_2.out); (case side3 => repeat (first | exact (Kd.C_below HR1_2.out HB.out) | (with_reducible refine Kd.C_alloc ?_ _) | (with_reducible refine Kd.C_drewN ?_ _) | (with_reducible refine Kd.C_drew ?_))); (case side4 => exact HC1_2.out); rintro e w12 ⟨rfl, hb⟩; refine ⟨_, rfl, ?_⟩; have n0_ := Aside0.mk (blk_below (g := gb99001) (o := .cells #[.int .i64 a0_0, .string a0_1, .slice A0_2 l0_2.length c0_2] 42 (0, 0)) (by (with_reducible repeat (first | refine blk_drewN ?_ _ | refine blk_drew ?_ | refine blk_alloc ?_ _)); exact BK99001.out) hb); have n1_ := Aside0.mk (blk_below (g := gb99002) (o := .cells #[.int .i64 a1_0, .string a1_1, .slice A1_2 l1_2.length c1_2] 42 (0, 0)) (by (with_reducible repeat (first | refine blk_drewN ?_ _ | refine blk_drew ?_ | refine blk_alloc ?_ _)); exact BK99002.out) hb); have n2_ := Aside0.mk (below_step (by repeat (first | (with_reducible first | exact HB.out | apply below_alloc | apply pw_below_drewN | apply below_drew1 | refine below_set ?_ GE99001.out | refine below_set ?_ GE99002.out) | exact HB.out)) hb); clear BK99001; clear BK99002; clear HB; have BK99001 := n0_; have BK99002 := n1_; have HB := n2_; clear n0_ n1_ n2_; (try clear hb); (try clear hb2); (try clear hk); (try clear hi)))
        go_ret
        exact ⟨by first | rfl | (simp [errW_none, errW_some] <;> rfl) | (simp [*, errW_none, errW_some] <;> rfl), by repeat (first | (with_reducible first | exact HB.out | apply below_alloc | apply pw_below_drewN | apply below_drew1 | refine below_set ?_ GE99001.out | refine below_set ?_ GE99002.out) | exact HB.out)⟩
      · replace c6 := Bool.eq_false_iff.mpr c6
        subst c6
        have H1 : (some false) = some r := by rw [if_neg (show ¬ (false = true) by decide)] at H; exact H
        clear H
        have H := H1
        clear H1
        obtain rfl := Option.some.inj H
        go_enter Try.func99, Try.ntmps99
        go_wp2_with (first | ((with_reducible refine gate_dst (N := 2) rfl ?_); refine box_event ?hg (N := 2) ?hd (cs := #[.int .i64 a0_0, .string a0_1, .slice A0_2 l0_2.length c0_2]) (t := 42) ?hr ?_; (case hd => rfl); (case hg => rfl); (case hr => first | (go_simp; done) | (go_simp; rfl)); intro gb99001 hg w13 hbox hb; have n0_ := Aside0.mk (below_step (by repeat (first | (with_reducible first | exact HB.out | apply below_alloc | apply pw_below_drewN | apply below_drew1) | exact HB.out)) hb); have n1_ := Aside0.mk (hbox); have n2_ := Aside0.mk ((by rw [hg]; exact (below_size (by repeat (first | (with_reducible first | exact HB.out | apply below_alloc | apply pw_below_drewN | apply below_drew1) | exact HB.out))) : w.heap.size ≤ gb99001)); have n3_ := Aside0.mk ((by rw [hg]; exact (below_size (by repeat (first | (with_reducible first | exact HB.out | apply below_alloc | apply pw_below_drewN | apply below_drew1) | exact HB.out))) : w.heap.size ≤ gb99001)); clear HB; have HB := n0_; have BK99001 := n1_; have GW99001 := n2_; have GE99001 := n3_; clear n0_ n1_ n2_ n3_; clear hb hbox hg) | ((with_reducible refine gate_dst (N := 3) rfl ?_); refine box_event ?hg (N := 3) ?hd (cs := #[.int .i64 a1_0, .string a1_1, .slice A1_2 l1_2.length c1_2]) (t := 42) ?hr ?_; (case hd => rfl); (case hg => rfl); (case hr => first | (go_simp; done) | (go_simp; rfl)); intro gb99002 hg w14 hbox hb; have n0_ := Aside0.mk (blk_below (g := gb99001) (o := .cells #[.int .i64 a0_0, .string a0_1, .slice A0_2 l0_2.length c0_2] 42 (0, 0)) (by (with_reducible repeat (first | refine blk_drewN ?_ _ | refine blk_drew ?_ | refine blk_alloc ?_ _)); exact BK99001.out) hb); have n1_ := Aside0.mk (below_step (by repeat (first | (with_reducible first | exact HB.out | apply below_alloc | apply pw_below_drewN | apply below_drew1 | refine below_set ?_ GE99001.out) | exact HB.out)) hb); have n2_ := Aside0.mk (hbox); have n3_ := Aside0.mk ((by rw [hg]; exact (below_size (by repeat (first | (with_reducible first | exact HB.out | apply below_alloc | apply pw_below_drewN | apply below_drew1 | refine below_set ?_ GE99001.out) | exact HB.out))) : w.heap.size ≤ gb99002)); have n4_ := Aside0.mk ((by rw [hg]; exact (below_size (by repeat (first | (with_reducible first | exact HB.out | apply below_alloc | apply pw_below_drewN | apply below_drew1 | refine below_set ?_ GE99001.out) | exact HB.out))) : w.heap.size ≤ gb99002)); have n5_ := Aside0.mk ((by rw [hg]; exact Nat.ne_of_lt (blk_lt (g := gb99001) (o := .cells #[.int .i64 a0_0, .string a0_1, .slice A0_2 l0_2.length c0_2] 42 (0, 0)) (by (with_reducible repeat (first | refine blk_drewN ?_ _ | refine blk_drew ?_ | refine blk_alloc ?_ _)); exact BK99001.out)) : gb99001 ≠ gb99002)); have n6_ := Aside0.mk ((by rw [hg]; exact Nat.ne_of_gt (blk_lt (g := gb99001) (o := .cells #[.int .i64 a0_0, .string a0_1, .slice A0_2 l0_2.length c0_2] 42 (0, 0)) (by (with_reducible repeat (first | refine blk_drewN ?_ _ | refine blk_drew ?_ | refine blk_alloc ?_ _)); exact BK99001.out)) : gb99002 ≠ gb99001)); clear BK99001; clear HB; have BK99001 := n0_; have HB := n1_; have BK99002 := n2_; have GW99002 := n3_; have GE99002 := n4_; have NB99001_99002 := n5_; have NB99002_99001 := n6_; clear n0_ n1_ n2_ n3_ n4_ n5_ n6_; clear hb hbox hg; have hnb15 := NB99001_99002.out; have hnc15 := NB99002_99001.out; have hcz16_0 : w14.cell? ⟨gb99001, 0, none⟩ = some (.int .i64 a0_0) := (blk_cell BK99001.out 0).trans rfl; have hcz16_1 : w14.cell? ⟨gb99001, 1, none⟩ = some (.string a0_1) := (blk_cell BK99001.out 1).trans rfl; have hcz16_2 : w14.cell? ⟨gb99001, 2, none⟩ = some (.slice A0_2 l0_2.length c0_2) := (blk_cell BK99001.out 2).trans rfl; have hfz16_0 := blk_frozen BK99001.out 0; have hfz16_1 := blk_frozen BK99001.out 1; have hfz16_2 := blk_frozen BK99001.out 2; have hcz17_0 : w14.cell? ⟨gb99002, 0, none⟩ = some (.int .i64 a1_0) := (blk_cell BK99002.out 0).trans rfl; have hcz17_1 : w14.cell? ⟨gb99002, 1, none⟩ = some (.string a1_1) := (blk_cell BK99002.out 1).trans rfl; have hcz17_2 : w14.cell? ⟨gb99002, 2, none⟩ = some (.slice A1_2 l1_2.length c1_2) := (blk_cell BK99002.out 2).trans rfl; have hfz17_0 := blk_frozen BK99002.out 0; have hfz17_1 := blk_frozen BK99002.out 1; have hfz17_2 := blk_frozen BK99002.out 2) | ((with_reducible refine gate_callee (f := 170) rfl ?_); refine goesL_ (some 19) rfl rfl Try.func170 (by kernel_rfl) rfl #[.slice A0_2 l0_2.length c0_2, .slice A1_2 l1_2.length c1_2] rfl (by (try simp only [List.map_toArray, List.map_cons, List.map_nil]); first | done | rfl | (simp only [List.length_drop, List.length_take]; rfl)) ?_; (with_reducible refine (laws_eqRegexSG.calls gF gC k _ _ l0_2 _ _ l1_2 false _ ?side1 ?side2 ?side3 ?side4 A5.out).mono ?_); (case side1 => repeat (first | exact (Kd.C_below HR0_2.out HB.out) | (with_reducible refine Kd.C_alloc ?_ _) | (with_reducible refine Kd.C_drewN ?_ _) | (with_reducible refine Kd.C_drew ?_))); (case side2 => exact HC0_2.out); (case side3 => repeat (first | exact (Kd.C_below HR1_2.out HB.out) | (with_reducible refine Kd.C_alloc ?_ _) | (with_reducible refine Kd.C_drewN ?_ _) | (with_reducible refine Kd.C_drew ?_))); (case side4 => exact HC1_2.out); rintro e w18 ⟨rfl, hb⟩; refine ⟨_, rfl, ?_⟩; have n0_ := Aside0.mk (blk_below (g := gb99001) (o := .cells #[.int .i64 a0_0, .string a0_1, .slice A0_2 l0_2.length c0_2] 42 (0, 0)) (by (with_reducible repeat (first | refine blk_drewN ?_ _ | refine blk_drew ?_ | refine blk_alloc ?_ _)); exact BK99001.out) hb); have n1_ := Aside0.mk (blk_below (g := gb99002) (o := .cells #[.int .i64 a1_0, .string a1_1, .slice A1_2 l1_2.length c1_2] 42 (0, 0)) (by (with_reducible repeat (first | refine blk_drewN ?_ _ | refine blk_drew ?_ | refine blk_alloc ?_ _)); exact BK99002.out) hb); have n2_ := Aside0.mk (below_step (by repeat (first | (with_reducible first | exact HB.out | apply below_alloc | apply pw_below_drewN | apply below_drew1 | refine below_set ?_ GE99001.out | refine below_set ?_ GE99002.out) | exact HB.out)) hb); clear BK99001; clear BK99002; clear HB; have BK99001 := n0_; have BK99002 := n1_; have HB := n2_; clear n0_ n1_ n2_; (try clear hb); (try clear hb2); (try clear hk); (try clear hi)))
        go_ret
        exact ⟨by first | rfl | (simp [errW_none, errW_some] <;> rfl) | (simp [*, errW_none, errW_some] <;> rfl), by repeat (first | (with_reducible first | exact HB.out | apply below_alloc | apply pw_below_drewN | apply below_drew1 | refine below_set ?_ GE99001.out | refine below_set ?_ GE99002.out) | exact HB.out)⟩
    · rw [if_neg c4] at H
      have c4b0 : (a0_1.toList == a1_1.toList) = false := beq_eq_false_iff_ne.mpr c4
      have c4b1 : (a0_1.toList != a1_1.toList) = true := bne_iff_ne.mpr c4
      obtain rfl := Option.some.inj H
      go_enter Try.func99, Try.ntmps99
      go_wp2_with (first | ((with_reducible refine gate_dst (N := 2) rfl ?_); refine box_event ?hg (N := 2) ?hd (cs := #[.int .i64 a0_0, .string a0_1, .slice A0_2 l0_2.length c0_2]) (t := 42) ?hr ?_; (case hd => rfl); (case hg => rfl); (case hr => first | (go_simp; done) | (go_simp; rfl)); intro gb99001 hg w19 hbox hb; have n0_ := Aside0.mk (below_step (by repeat (first | (with_reducible first | exact HB.out | apply below_alloc | apply pw_below_drewN | apply below_drew1) | exact HB.out)) hb); have n1_ := Aside0.mk (hbox); have n2_ := Aside0.mk ((by rw [hg]; exact (below_size (by repeat (first | (with_reducible first | exact HB.out | apply below_alloc | apply pw_below_drewN | apply below_drew1) | exact HB.out))) : w.heap.size ≤ gb99001)); have n3_ := Aside0.mk ((by rw [hg]; exact (below_size (by repeat (first | (with_reducible first | exact HB.out | apply below_alloc | apply pw_below_drewN | apply below_drew1) | exact HB.out))) : w.heap.size ≤ gb99001)); clear HB; have HB := n0_; have BK99001 := n1_; have GW99001 := n2_; have GE99001 := n3_; clear n0_ n1_ n2_ n3_; clear hb hbox hg) | ((with_reducible refine gate_dst (N := 3) rfl ?_); refine box_event ?hg (N := 3) ?hd (cs := #[.int .i64 a1_0, .string a1_1, .slice A1_2 l1_2.length c1_2]) (t := 42) ?hr ?_; (case hd => rfl); (case hg => rfl); (case hr => first | (go_simp; done) | (go_simp; rfl)); intro gb99002 hg w20 hbox hb; have n0_ := Aside0.mk (blk_below (g := gb99001) (o := .cells #[.int .i64 a0_0, .string a0_1, .slice A0_2 l0_2.length c0_2] 42 (0, 0)) (by (with_reducible repeat (first | refine blk_drewN ?_ _ | refine blk_drew ?_ | refine blk_alloc ?_ _)); exact BK99001.out) hb); have n1_ := Aside0.mk (below_step (by repeat (first | (with_reducible first | exact HB.out | apply below_alloc | apply pw_below_drewN | apply below_drew1 | refine below_set ?_ GE99001.out) | exact HB.out)) hb); have n2_ := Aside0.mk (hbox); have n3_ := Aside0.mk ((by rw [hg]; exact (below_size (by repeat (first | (with_reducible first | exact HB.out | apply below_alloc | apply pw_below_drewN | apply below_drew1 | refine below_set ?_ GE99001.out) | exact HB.out))) : w.heap.size ≤ gb99002)); have n4_ := Aside0.mk ((by rw [hg]; exact (below_size (by repeat (first | (with_reducible first | exact HB.out | apply below_alloc | apply pw_below_drewN | apply below_drew1 | refine below_set ?_ GE99001.out) | exact HB.out))) : w.heap.size ≤ gb99002)); have n5_ := Aside0.mk ((by rw [hg]; exact Nat.ne_of_lt (blk_lt (g := gb99001) (o := .cells #[.int .i64 a0_0, .string a0_1, .slice A0_2 l0_2.length c0_2] 42 (0, 0)) (by (with_reducible repeat (first | refine blk_drewN ?_ _ | refine blk_drew ?_ | refine blk_alloc ?_ _)); exact BK99001.out)) : gb99001 ≠ gb99002)); have n6_ := Aside0.mk ((by rw [hg]; exact Nat.ne_of_gt (blk_lt (g := gb99001) (o := .cells #[.int .i64 a0_0, .string a0_1, .slice A0_2 l0_2.length c0_2] 42 (0, 0)) (by (with_reducible repeat (first | refine blk_drewN ?_ _ | refine blk_drew ?_ | refine blk_alloc ?_ _)); exact BK99001.out)) : gb99002 ≠ gb99001)); clear BK99001; clear HB; have BK99001 := n0_; have HB := n1_; have BK99002 := n2_; have GW99002 := n3_; have GE99002 := n4_; have NB99001_99002 := n5_; have NB99002_99001 := n6_; clear n0_ n1_ n2_ n3_ n4_ n5_ n6_; clear hb hbox hg; have hnb21 := NB99001_99002.out; have hnc21 := NB99002_99001.out; have hcz22_0 : w20.cell? ⟨gb99001, 0, none⟩ = some (.int .i64 a0_0) := (blk_cell BK99001.out 0).trans rfl; have hcz22_1 : w20.cell? ⟨gb99001, 1, none⟩ = some (.string a0_1) := (blk_cell BK99001.out 1).trans rfl; have hcz22_2 : w20.cell? ⟨gb99001, 2, none⟩ = some (.slice A0_2 l0_2.length c0_2) := (blk_cell BK99001.out 2).trans rfl; have hfz22_0 := blk_frozen BK99001.out 0; have hfz22_1 := blk_frozen BK99001.out 1; have hfz22_2 := blk_frozen BK99001.out 2; have hcz23_0 : w20.cell? ⟨gb99002, 0, none⟩ = some (.int .i64 a1_0) := (blk_cell BK99002.out 0).trans rfl; have hcz23_1 : w20.cell? ⟨gb99002, 1, none⟩ = some (.string a1_1) := (blk_cell BK99002.out 1).trans rfl; have hcz23_2 : w20.cell? ⟨gb99002, 2, none⟩ = some (.slice A1_2 l1_2.length c1_2) := (blk_cell BK99002.out 2).trans rfl; have hfz23_0 := blk_frozen BK99002.out 0; have hfz23_1 := blk_frozen BK99002.out 1; have hfz23_2 := blk_frozen BK99002.out 2))
      go_ret
      exact ⟨by first | rfl | (simp [errW_none, errW_some] <;> rfl) | (simp [*, errW_none, errW_some] <;> rfl), by repeat (first | (with_reducible first | exact HB.out | apply below_alloc | apply pw_below_drewN | apply below_drew1 | refine below_set ?_ GE99001.out | refine below_set ?_ GE99002.out) | exact HB.out)⟩
  · rw [if_neg c3] at H
    have c3b0 : (a0_0 == a1_0) = false := beq_eq_false_iff_ne.mpr c3
    have c3b1 : (a0_0 != a1_0) = true := bne_iff_ne.mpr c3
    obtain rfl := Option.some.inj H
    go_enter Try.func99, Try.ntmps99
    go_wp2_with (first | ((with_reducible refine gate_dst (N := 2) rfl ?_); refine box_event ?hg (N := 2) ?hd (cs := #[.int .i64 a0_0, .string a0_1, .slice A0_2 l0_2.length c0_2]) (t := 42) ?hr ?_; (case hd => rfl); (case hg => rfl); (case hr => first | (go_simp; done) | (go_simp; rfl)); intro gb99001 hg w24 hbox hb; have n0_ := Aside0.mk (below_step (by repeat (first | (with_reducible first | exact HB.out | apply below_alloc | apply pw_below_drewN | apply below_drew1) | exact HB.out)) hb); have n1_ := Aside0.mk (hbox); have n2_ := Aside0.mk ((by rw [hg]; exact (below_size (by repeat (first | (with_reducible first | exact HB.out | apply below_alloc | apply pw_below_drewN | apply below_drew1) | exact HB.out))) : w.heap.size ≤ gb99001)); have n3_ := Aside0.mk ((by rw [hg]; exact (below_size (by repeat (first | (with_reducible first | exact HB.out | apply below_alloc | apply pw_below_drewN | apply below_drew1) | exact HB.out))) : w.heap.size ≤ gb99001)); clear HB; have HB := n0_; have BK99001 := n1_; have GW99001 := n2_; have GE99001 := n3_; clear n0_ n1_ n2_ n3_; clear hb hbox hg) | ((with_reducible refine gate_dst (N := 3) rfl ?_); refine box_event ?hg (N := 3) ?hd (cs := #[.int .i64 a1_0, .string a1_1, .slice A1_2 l1_2.length c1_2]) (t := 42) ?hr ?_; (case hd => rfl); (case hg => rfl); (case hr => first | (go_simp; done) | (go_simp; rfl)); intro gb99002 hg w25 hbox hb; have n0_ := Aside0.mk (blk_below (g := gb99001) (o := .cells #[.int .i64 a0_0, .string a0_1, .slice A0_2 l0_2.length c0_2] 42 (0, 0)) (by (with_reducible repeat (first | refine blk_drewN ?_ _ | refine blk_drew ?_ | refine blk_alloc ?_ _)); exact BK99001.out) hb); have n1_ := Aside0.mk (below_step (by repeat (first | (with_reducible first | exact HB.out | apply below_alloc | apply pw_below_drewN | apply below_drew1 | refine below_set ?_ GE99001.out) | exact HB.out)) hb); have n2_ := Aside0.mk (hbox); have n3_ := Aside0.mk ((by rw [hg]; exact (below_size (by repeat (first | (with_reducible first | exact HB.out | apply below_alloc | apply pw_below_drewN | apply below_drew1 | refine below_set ?_ GE99001.out) | exact HB.out))) : w.heap.size ≤ gb99002)); have n4_ := Aside0.mk ((by rw [hg]; exact (below_size (by repeat (first | (with_reducible first | exact HB.out | apply below_alloc | apply pw_below_drewN | apply below_drew1 | refine below_set ?_ GE99001.out) | exact HB.out))) : w.heap.size ≤ gb99002)); have n5_ := Aside0.mk ((by rw [hg]; exact Nat.ne_of_lt (blk_lt (g := gb99001) (o := .cells #[.int .i64 a0_0, .string a0_1, .slice A0_2 l0_2.length c0_2] 42 (0, 0)) (by (with_reducible repeat (first | refine blk_drewN ?_ _ | refine blk_drew ?_ | refine blk_alloc ?_ _)); exact BK99001.out)) : gb99001 ≠ gb99002)); have n6_ := Aside0.mk ((by rw [hg]; exact Nat.ne_of_gt (blk_lt (g := gb99001) (o := .cells #[.int .i64 a0_0, .string a0_1, .slice A0_2 l0_2.length c0_2] 42 (0, 0)) (by (with_reducible repeat (first | refine blk_drewN ?_ _ | refine blk_drew ?_ | refine blk_alloc ?_ _)); exact BK99001.out)) : gb99002 ≠ gb99001)); clear BK99001; clear HB; have BK99001 := n0_; have HB := n1_; have BK99002 := n2_; have GW99002 := n3_; have GE99002 := n4_; have NB99001_99002 := n5_; have NB99002_99001 := n6_; clear n0_ n1_ n2_ n3_ n4_ n5_ n6_; clear hb hbox hg; have hnb26 := NB99001_99002.out; have hnc26 := NB99002_99001.out; have hcz27_0 : w25.cell? ⟨gb99001, 0, none⟩ = some (.int .i64 a0_0) := (blk_cell BK99001.out 0).trans rfl; have hcz27_1 : w25.cell? ⟨gb99001, 1, none⟩ = some (.string a0_1) := (blk_cell BK99001.out 1).trans rfl; have hcz27_2 : w25.cell? ⟨gb99001, 2, none⟩ = some (.slice A0_2 l0_2.length c0_2) := (blk_cell BK99001.out 2).trans rfl; have hfz27_0 := blk_frozen BK99001.out 0; have hfz27_1 := blk_frozen BK99001.out 1; have hfz27_2 := blk_frozen BK99001.out 2; have hcz28_0 : w25.cell? ⟨gb99002, 0, none⟩ = some (.int .i64 a1_0) := (blk_cell BK99002.out 0).trans rfl; have hcz28_1 : w25.cell? ⟨gb99002, 1, none⟩ = some (.string a1_1) := (blk_cell BK99002.out 1).trans rfl; have hcz28_2 : w25.cell? ⟨gb99002, 2, none⟩ = some (.slice A1_2 l1_2.length c1_2) := (blk_cell BK99002.out 2).trans rfl; have hfz28_0 := blk_frozen BK99002.out 0; have hfz28_1 := blk_frozen BK99002.out 1; have hfz28_2 := blk_frozen BK99002.out 2))
    go_ret
    exact ⟨by first | rfl | (simp [errW_none, errW_some] <;> rfl) | (simp [*, errW_none, errW_some] <;> rfl), by repeat (first | (with_reducible first | exact HB.out | apply below_alloc | apply pw_below_drewN | apply below_drew1 | refine below_set ?_ GE99001.out | refine below_set ?_ GE99002.out) | exact HB.out)⟩
theorem laws_eqRegexG.monog (gF gF2 : Nat → Int → ByteArray → List (S42) → Int → ByteArray → List (S42) → Option (Bool)) (hg : ∀ b0 b1 b2 b3 b4 b5 k, LeO (gF k b0 b1 b2 b3 b4 b5) (gF2 k b0 b1 b2 b3 b4 b5)) : ∀ a0 a1 a2 a3 a4 a5 k, LeO (laws_eqRegexG.f gF k a0 a1 a2 a3 a4 a5) (laws_eqRegexG.f gF2 k a0 a1 a2 a3 a4 a5) := by
  intro a0 a1 a2 a3 a4 a5 k
  unfold laws_eqRegexG.f
  repeat' first
      | (with_reducible exact laws_eqRegexSG.monog gF gF2 hg _ _ _)
      | (with_reducible exact LeO.refl _)
      | (with_reducible exact LeO.none _)
      | (with_reducible refine LeO.ite ?_ ?_)
      | (with_reducible refine LeO.bind ?_ (fun _ => ?_))
      | exact laws_eqRegexSG.monog gF gF2 hg _ _ _
      | exact LeO.none _
      | refine LeO.ite ?_ ?_
      | refine LeO.bind ?_ (fun _ => ?_)

def laws_eqRegex.f : Nat → Int → ByteArray → List (S42) → Int → ByteArray → List (S42) → Option (Bool)
  | 0, _, _, _, _, _, _ => none
  | K + 1, a0_, a1_, a2_, a3_, a4_, a5_ => laws_eqRegexG.f (fun _ => laws_eqRegex.f K) K a0_ a1_ a2_ a3_ a4_ a5_
theorem laws_eqRegex.mono : ∀ a0 a1 a2 a3 a4 a5 k, LeO (laws_eqRegex.f k a0 a1 a2 a3 a4 a5) (laws_eqRegex.f (k + 1) a0 a1 a2 a3 a4 a5) := by
  intro a0_ a1_ a2_ a3_ a4_ a5_ k
  induction k generalizing a0_ a1_ a2_ a3_ a4_ a5_ with
  | zero => exact LeO.none _
  | succ K ih =>
    intro r h
    have h1 := laws_eqRegexG.monog (fun _ => laws_eqRegex.f K) (fun _ => laws_eqRegex.f (K + 1)) (fun a0_ a1_ a2_ a3_ a4_ a5_ k => ih a0_ a1_ a2_ a3_ a4_ a5_) a0_ a1_ a2_ a3_ a4_ a5_ K r h
    exact laws_eqRegexG.mono (fun _ => laws_eqRegex.f (K + 1)) (fun a0_ a1_ a2_ a3_ a4_ a5_ k => LeO.refl _) a0_ a1_ a2_ a3_ a4_ a5_ K r h1
theorem laws_eqRegex.calls (k : Nat) (a0_0 : Int) (a0_1 : ByteArray) (A0_2 : Option Addr) (c0_2 : Nat) (l0_2 : List (S42)) (a1_0 : Int) (a1_1 : ByteArray) (A1_2 : Option Addr) (c1_2 : Nat) (l1_2 : List (S42)) (r : Bool) (w : World) (hr0_2 : Kd.C k42 w A0_2 l0_2.length l0_2) (hc0_2 : l0_2.length ≤ c0_2) (hr1_2 : Kd.C k42 w A1_2 l1_2.length l1_2) (hc1_2 : l1_2.length ≤ c1_2) (h : laws_eqRegex.f k a0_0 a0_1 l0_2 a1_0 a1_1 l1_2 = some r) :
    Calls Try.prog 99 #[.agg #[.int .i64 a0_0, .string a0_1, .slice A0_2 l0_2.length c0_2], .agg #[.int .i64 a1_0, .string a1_1, .slice A1_2 l1_2.length c1_2]] w fun e w' => e = .returned (.bool r) ∧ Below w.heap.size w w' := by
  induction k generalizing a0_0 a0_1 A0_2 c0_2 l0_2 a1_0 a1_1 A1_2 c1_2 l1_2 r w hr0_2 hc0_2 hr1_2 hc1_2 with
  | zero => exact absurd h (by simp [laws_eqRegex.f])
  | succ K ih => exact laws_eqRegexG.calls (fun _ => laws_eqRegex.f K) (fun k a0_0 a0_1 A0_2 c0_2 l0_2 a1_0 a1_1 A1_2 c1_2 l1_2 r w hr0_2 hc0_2 hr1_2 hc1_2 h => ih a0_0 a0_1 A0_2 c0_2 l0_2 a1_0 a1_1 A1_2 c1_2 l1_2 r w hr0_2 hc0_2 hr1_2 hc1_2 h) K a0_0 a0_1 A0_2 c0_2 l0_2 a1_0 a1_1 A1_2 c1_2 l1_2 r w hr0_2 hc0_2 hr1_2 hc1_2 h
def laws_eqRegexS.f (k : Nat) (l0 : List (S42)) (l1 : List (S42)) : Option (Bool) := laws_eqRegexSG.f laws_eqRegex.f k l0 l1
theorem laws_eqRegexS.mono : ∀ a0 a1 k, LeO (laws_eqRegexS.f k a0 a1) (laws_eqRegexS.f (k + 1) a0 a1) := laws_eqRegexSG.mono laws_eqRegex.f laws_eqRegex.mono
theorem laws_eqRegexS.calls (k : Nat) (A0 : Option Addr) (c0 : Nat) (l0 : List (S42)) (A1 : Option Addr) (c1 : Nat) (l1 : List (S42)) (r : Bool) (w : World) (hr0 : Kd.C k42 w A0 l0.length l0) (hc0 : l0.length ≤ c0) (hr1 : Kd.C k42 w A1 l1.length l1) (hc1 : l1.length ≤ c1) (h : laws_eqRegexS.f k l0 l1 = some r) :
    Calls Try.prog 170 #[.slice A0 l0.length c0, .slice A1 l1.length c1] w fun e w' => e = .returned (.bool r) ∧ Below w.heap.size w w' := laws_eqRegexSG.calls laws_eqRegex.f laws_eqRegex.calls k A0 c0 l0 A1 c1 l1 r w hr0 hc0 hr1 hc1 h


end Go.Proofs.Ytpppopdmnejcfaa.A


namespace Go.Proofs.Ytpppopdmnejcfaa.A
open Go.RowKit Go.Proofs.Ytpppopdmnejcfaa.Ext Go.Proofs.YtpppopdmnejcfaaW.PrintWords Go.Proofs.YtpppopdmnejcfaaW.PrintLast Go.Proofs.YtpppopdmnejcfaaW.PrintMore
attribute [local go_sem] max2_int min2_int max_two min_two max_three min_three max_four min_four   -- for this text's walks alone
set_option linter.unusedVariables false
set_option linter.unusedSimpArgs false

/-! ### laws_szIntS: function 87 -/
def laws_szIntS.f (l0 : List Int) (a1 : Int) : Option (Int) := if (wrap64 (a1 - (l0.length : Int))) < 0 then (some (-1)) else (some (wrap64 (a1 - (l0.length : Int))))
set_option maxHeartbeats 8000000 in
set_option maxRecDepth 100000 in
theorem laws_szIntS.calls (A0 : Option Addr) (c0 : Nat) (l0 : List Int) (a1 : Int) (r : Int) (w : World) (hr0 : Kd.C (Kd.int .i64) w A0 l0.length l0) (hc0 : l0.length ≤ c0) (h : laws_szIntS.f l0 a1 = some r) :
    Calls Try.prog 87 #[.slice A0 l0.length c0, .int .i64 a1] w fun e w' => e = .returned (.int .i64 r) ∧ Drawn0 w w' := by
  have HR0 := Aside0.mk hr0
  have HC0 := Aside0.mk hc0
  clear hr0 hc0
  have H : (if (wrap64 (a1 - (l0.length : Int))) < 0 then (some (-1)) else (some (wrap64 (a1 - (l0.length : Int))))) = some r := h
  clear h
  by_cases c3 : (wrap64 (a1 - (l0.length : Int))) < 0
  · rw [if_pos c3] at H
    have c3b0 : decide ((wrap64 (a1 - (l0.length : Int))) < 0) = true := decide_eq_true c3
    have c3w : decide ((IntKind.i64.wrap (a1 - (l0.length : Int))) < 0) = true := by simp only [i64_w]; exact c3b0
    clear c3
    obtain rfl := Option.some.inj H
    go_enter Try.func87, Try.ntmps87
    go_wp2
    go_ret
    exact ⟨by first | rfl | (simp; done) | (simp [*]; done), by repeat (first | exact Drawn0.refl _ | apply Drawn0.step)⟩
  · rw [if_neg c3] at H
    have c3b0 : decide ((wrap64 (a1 - (l0.length : Int))) < 0) = false := decide_eq_false c3
    have c3w : decide ((IntKind.i64.wrap (a1 - (l0.length : Int))) < 0) = false := by simp only [i64_w]; exact c3b0
    clear c3
    obtain rfl := Option.some.inj H
    go_enter Try.func87, Try.ntmps87
    go_wp2
    go_ret
    exact ⟨by first | rfl | (simp; done) | (simp [*]; done), by repeat (first | exact Drawn0.refl _ | apply Drawn0.step)⟩

/-! ### laws_toIntS: function 93 -/
def laws_toIntS.l0 : Nat → List Int → List Int → Int → Option (List Int)
  | 0, _, _, _ => none
  | k + 1, x0, x3, x4 => if x4 < (x0.length : Int) then (if 0 ≤ x4 then (if x4 < (x3.length : Int) then (laws_toIntS.l0 k x0 (x3.set (x4 : Int).toNat (rd x0 x4)) (wrap64 (x4 + 1))) else (none)) else (none)) else (some x3)
def laws_toIntS.f (k : Nat) (l0 : List Int) : Option (List Int) := if 0 ≤ (l0.length : Int) then (if ((l0.length : Int) : Int).toNat ≤ 35184372088832 then (laws_toIntS.l0 k l0 (List.replicate ((l0.length : Int) : Int).toNat 0) 0) else (none)) else (none)
theorem laws_toIntS.mono_l : ∀ k, (∀ y0 y1 y2, LeO (laws_toIntS.l0 k y0 y1 y2) (laws_toIntS.l0 (k + 1) y0 y1 y2))
  | 0 => fun _ _ _ r h => by simp [laws_toIntS.l0] at h
  | k + 1 => by
    have ih0 := laws_toIntS.mono_l k
    · intro y0 y1 y2
      unfold laws_toIntS.l0
      repeat' first
      | (with_reducible exact ih0 _ _ _)
      | (with_reducible exact LeO.refl _)
      | (with_reducible exact LeO.none _)
      | (with_reducible refine LeO.ite ?_ ?_)
      | (with_reducible refine LeO.bind ?_ (fun _ => ?_))
      | exact ih0 _ _ _
      | exact LeO.none _
      | refine LeO.ite ?_ ?_
      | refine LeO.bind ?_ (fun _ => ?_)
theorem laws_toIntS.mono : ∀ a0 k, LeO (laws_toIntS.f k a0) (laws_toIntS.f (k + 1) a0) := by
  intro a0 k
  have ih0 := laws_toIntS.mono_l k
  unfold laws_toIntS.f
  repeat' first
      | (with_reducible exact ih0 _ _ _)
      | (with_reducible exact LeO.refl _)
      | (with_reducible exact LeO.none _)
      | (with_reducible refine LeO.ite ?_ ?_)
      | (with_reducible refine LeO.bind ?_ (fun _ => ?_))
      | exact ih0 _ _ _
      | exact LeO.none _
      | refine LeO.ite ?_ ?_
      | refine LeO.bind ?_ (fun _ => ?_)
set_option maxHeartbeats 8000000 in
set_option maxRecDepth 100000 in
theorem laws_toIntS.calls (k : Nat) (A0 : Option Addr) (c0 : Nat) (l0 : List Int) (r : List Int) (w : World) (hr0 : Kd.C (Kd.int .i64) w A0 l0.length l0) (hc0 : l0.length ≤ c0) (h : laws_toIntS.f k l0 = some r) :
    Calls Try.prog 93 #[.slice A0 l0.length c0] w fun e w' => ∃ v0_ : Value, e = .returned (v0_) ∧ Kd.R (Kd.int .i64) 3 w' w.heap.size (fun _ => True) v0_ r ∧ Below w.heap.size w w' := by
  have HR0 := Aside0.mk hr0
  have HC0 := Aside0.mk hc0
  clear hr0 hc0
  have HB := Aside0.mk (Below.refl w.heap.size w)
  have H : (if 0 ≤ (l0.length : Int) then (if ((l0.length : Int) : Int).toNat ≤ 35184372088832 then (laws_toIntS.l0 k l0 (List.replicate ((l0.length : Int) : Int).toNat 0) 0) else (none)) else (none)) = some r := h
  clear h
  by_cases c2 : 0 ≤ (l0.length : Int)
  · rw [if_pos c2] at H
    have c2b0 := eq_true c2
    have c2b1 : decide (0 ≤ (l0.length : Int)) = true := decide_eq_true c2
    clear c2
    by_cases c3 : ((l0.length : Int) : Int).toNat ≤ 35184372088832
    · rw [if_pos c3] at H
      have c3b0 := eq_true c3
      have c3b1 : decide (((l0.length : Int) : Int).toNat ≤ 35184372088832) = true := decide_eq_true c3
      clear c3
      obtain ⟨y93001, hy93001⟩ : ∃ y_ : List Int, y_ = (List.replicate ((l0.length : Int) : Int).toNat 0) := ⟨_, rfl⟩
      replace H : (laws_toIntS.l0 k l0 y93001 0) = some r := by first | (rw [hy93001]; with_reducible exact H) | (have H2_ := (Option.bind_some _ _).symm.trans H; rw [hy93001]; with_reducible exact H2_) | (have H2_ := (Option.bind_some _ _).symm.trans H; with_reducible exact H2_) | with_reducible exact H | (rw [hy93001]; exact H) | exact H
      have Ny93001 := Aside0.mk hy93001
      clear hy93001
      have H' := Aside0.mk H
      clear H
      go_enter Try.func93, Try.ntmps93
      go_wp2_with (first | ((with_reducible refine gate_dst (N := 7) rfl ?_); refine Kd.R_make (Kd.int .i64) _ 3 rfl (N := 7) rfl 35 _ _ rfl (l0.length : Int) rfl rfl Try.underlying35 (.int .i64 0) 8 info3 rfl (by decide) (by omega) 0 (ok := fun _ => True) (okp := fun _ => True) rfl (fun _ hk => hk) trivial (of_decide_eq_true (by first | (with_reducible assumption) | assumption)) (Nat.le_trans (Nat.mul_le_mul_right _ (of_decide_eq_true (by first | (with_reducible assumption) | assumption) : (l0.length : Int).toNat ≤ 35184372088832)) (by omega)) (Below.refl _ _) (Nat.le_refl _) ?_; intro v93002 w4 ho5 hb hg_ hnew_; clear hg_ hnew_; (first | rw [← Ny93001.out] at ho5 | (simp only [Int.reduceToNat] at ho5; rw [← Ny93001.out] at ho5)); have n0_ := Aside0.mk (Kd.R_lower ho5 (below_size (by repeat (first | (with_reducible first | exact HB.out | apply below_alloc | apply pw_below_drewN | apply below_drew1) | exact HB.out)))); have n1_ := Aside0.mk (below_step (by repeat (first | (with_reducible first | exact HB.out | apply below_alloc | apply pw_below_drewN | apply below_drew1) | exact HB.out)) hb); clear HB; have HO93003 := n0_; have HB := n1_; clear n0_ n1_; clear hb ho5))
      first | go_loopg [4] k (fun kq v4 w' => ∃ (x3_1 : List Int) (x4_1 : Int), v4 = .int .i64 x4_1 ∧ Aside0 (laws_toIntS.l0 kq l0 x3_1 x4_1 = some r) ∧ Aside0 (kq ≤ k) ∧ Aside0 (Kd.R (Kd.int .i64) 3 w' w.heap.size (fun _ => True) v93002 x3_1) ∧ Aside0 (Below w.heap.size w w')) | (simp only [Act.put, List.setIfInBounds_toArray, List.set_cons_succ, List.set_cons_zero]; go_loopg [4] k (fun kq v4 w' => ∃ (x3_1 : List Int) (x4_1 : Int), v4 = .int .i64 x4_1 ∧ Aside0 (laws_toIntS.l0 kq l0 x3_1 x4_1 = some r) ∧ Aside0 (kq ≤ k) ∧ Aside0 (Kd.R (Kd.int .i64) 3 w' w.heap.size (fun _ => True) v93002 x3_1) ∧ Aside0 (Below w.heap.size w w')))
      case atStart => exact ⟨(y93001), (0), (by first | rfl | (simp; done) | (simp [*]; done)), H', ⟨Nat.le_refl _⟩, ⟨by (with_reducible repeat (first | apply Kd.R_alloc | apply Kd.R_drewN | apply Kd.R_drew)); exact HO93003.out⟩, ⟨by repeat (first | (with_reducible first | exact HB.out | apply below_alloc | apply pw_below_drewN | apply below_drew1) | exact HB.out)⟩⟩
      case round =>
        clear H'
        try clear c2
        try clear c2b0
        try clear c2b1
        try clear p2
        try clear c3
        try clear c3b0
        try clear c3b1
        obtain ⟨x3_1, x4_1, rfl, HA, HK1, HO_3, HB⟩ := hrel
        cases gk with
        | zero => exact absurd HA.out (by simp [laws_toIntS.l0])
        | succ k1 =>
          have H := HA.out
          clear HA
          simp only [laws_toIntS.l0] at H
          by_cases c6 : x4_1 < (l0.length : Int)
          · rw [if_pos c6] at H
            have c6b0 : decide (x4_1 < (l0.length : Int)) = true := decide_eq_true c6
            clear c6
            by_cases c7 : 0 ≤ x4_1
            · rw [if_pos c7] at H
              have c7b0 : decide (0 ≤ x4_1) = true := decide_eq_true c7
              clear c7
              by_cases c8 : x4_1 < (x3_1.length : Int)
              · rw [if_pos c8] at H
                have c8b0 : decide (x4_1 < (x3_1.length : Int)) = true := decide_eq_true c8
                clear c8
                obtain ⟨y93005, hy93005⟩ : ∃ y_ : List Int, y_ = (x3_1.set (x4_1 : Int).toNat (rd l0 x4_1)) := ⟨_, rfl⟩
                replace H : (laws_toIntS.l0 k1 l0 y93005 (wrap64 (x4_1 + 1))) = some r := by first | (rw [hy93005]; with_reducible exact H) | (have H2_ := (Option.bind_some _ _).symm.trans H; rw [hy93005]; with_reducible exact H2_) | (have H2_ := (Option.bind_some _ _).symm.trans H; with_reducible exact H2_) | with_reducible exact H | (rw [hy93005]; exact H) | exact H
                have Ny93005 := Aside0.mk hy93005
                clear hy93005
                have H' := Aside0.mk H
                clear H
                have p93004 : 0 ≤ (x4_1 : Int) := of_decide_eq_true (by first | (with_reducible assumption) | assumption)
                have q93004 : x4_1 < (l0.length : Int) := of_decide_eq_true (by first | (with_reducible assumption) | assumption)
                obtain ⟨ad93004, e93004, hx93004_0⟩ := Kd.at_int HR0.out x4_1 p93004 q93004
                cases e93004
                replace hx93004_0 := (HB.out.cell (World.block_lt_of_cell? w _ hx93004_0)).trans hx93004_0
                replace p93004 := eq_true p93004
                replace q93004 := eq_true q93004
                have p9 : 0 ≤ (x4_1 : Int) := of_decide_eq_true (by first | (with_reducible assumption) | assumption)
                have q9 : (x4_1 : Int) < ((x3_1.length : Int) : Int) := of_decide_eq_true (by first | (with_reducible assumption) | assumption)
                obtain ⟨go9, co9, eo9, gb9, gl9, cl9, HG9⟩ := Kd.R_form HO_3.out (by omega)
                (first | cases eo9 | (injection eo9 with ea_ en_ ec_; (first | subst ea_ | (injection ea_ with ea_; subst ea_)); subst ec_; clear en_))
                have GB9 := Aside0.mk gb9
                have GG9 := Aside0.mk HG9
                clear gb9 gl9 HG9
                obtain ⟨hx9_0, hf9_0⟩ := Kd.R_celln 0 HO_3.out (x4_1 : Int) p9 q9
                replace p9 := eq_true p9
                replace q9 := eq_true q9
                have HP10 := Kd.R_putg HO_3.out (x4_1 : Int) (rd l0 x4_1)
                go_wp2_with (first | ((with_reducible refine gate_store (t := 3) (p := 20) rfl ?_); refine store_event (t := 3) (p := 20) (v := ?vo_w11) (w1 := (wr.setCell ⟨go9, (x4_1 : Int).toNat, none⟩ (.int .i64 (rd l0 x4_1)))) ?hg ?ho ?hn ?hr ?_; (case ho => rfl); (case hg => rfl); (case hn => rfl); (case hr => first | (go_simp; done) | (go_simp; rfl)); intro w11 hw; have hg : wr.grownBy w11 (some go9) := (by rw [hw]; exact HP10.2); have hp_ : Kd.R (Kd.int .i64) 3 w11 w.heap.size (fun _ => True) (.slice (some ⟨go9, 0, none⟩) x3_1.length co9) y93005 := (by rw [hw, Ny93005.out]; exact HP10.1); clear HP10; have n0_ := Aside0.mk (hp_); have n1_ := Aside0.mk ((by rw [hw]; exact below_set (HB.out) GB9.out : Below w.heap.size w w11)); clear HO_3; clear HB; have HO_3 := n0_; have HB := n1_; clear n0_ n1_; clear hg hw hp_))
                go_roundg k1
                case measure => have := HK1.out; omega
                case rel => exact ⟨(y93005), (wrap64 (x4_1 + 1)), (by first | rfl | (simp; done) | (simp [*]; done)), H', ⟨by have := HK1.out; omega⟩, ⟨by (with_reducible repeat (first | apply Kd.R_alloc | apply Kd.R_drewN | apply Kd.R_drew)); exact HO_3.out⟩, ⟨by repeat (first | (with_reducible first | exact HB.out | apply below_alloc | apply pw_below_drewN | apply below_drew1) | exact HB.out)⟩⟩
              · rw [if_neg c8] at H
                exact absurd H (by simp)
            · rw [if_neg c7] at H
              exact absurd H (by simp)
          · rw [if_neg c6] at H
            have c6b0 : decide (x4_1 < (l0.length : Int)) = false := decide_eq_false c6
            clear c6
            obtain rfl := Option.some.inj H
            go_wp2
            go_ret
            exact ⟨_, by first | rfl | (simp [errW_none, errW_some] <;> rfl) | (simp [*, errW_none, errW_some] <;> rfl), by (with_reducible repeat (first | apply Kd.R_alloc | apply Kd.R_drewN | apply Kd.R_drew)); exact HO_3.out, by repeat (first | (with_reducible first | exact HB.out | apply below_alloc | apply pw_below_drewN | apply below_drew1) | exact HB.out)⟩
    · rw [if_neg c3] at H
      exact absurd H (by simp)
  · rw [if_neg c2] at H
    exact absurd H (by simp)

/-! ### laws_eqIntS: function 100 -/
def laws_eqIntS.l0 : Nat → List Int → List Int → Int → Option (Bool)
  | 0, _, _, _ => none
  | k + 1, x0, x1, x5 => if x5 < (x0.length : Int) then (if 0 ≤ x5 then (if x5 < (x1.length : Int) then (if (rd x0 x5) = (rd x1 x5) then (laws_eqIntS.l0 k x0 x1 (wrap64 (x5 + 1))) else (some false)) else (none)) else (none)) else (some true)
def laws_eqIntS.f (k : Nat) (l0 : List Int) (l1 : List Int) : Option (Bool) := if (l0.length : Int) = (l1.length : Int) then (laws_eqIntS.l0 k l0 l1 0) else (some false)
theorem laws_eqIntS.mono_l : ∀ k, (∀ y0 y1 y2, LeO (laws_eqIntS.l0 k y0 y1 y2) (laws_eqIntS.l0 (k + 1) y0 y1 y2))
  | 0 => fun _ _ _ r h => by simp [laws_eqIntS.l0] at h
  | k + 1 => by
    have ih0 := laws_eqIntS.mono_l k
    · intro y0 y1 y2
      unfold laws_eqIntS.l0
      repeat' first
      | (with_reducible exact ih0 _ _ _)
      | (with_reducible exact LeO.refl _)
      | (with_reducible exact LeO.none _)
      | (with_reducible refine LeO.ite ?_ ?_)
      | (with_reducible refine LeO.bind ?_ (fun _ => ?_))
      | exact ih0 _ _ _
      | exact LeO.none _
      | refine LeO.ite ?_ ?_
      | refine LeO.bind ?_ (fun _ => ?_)
theorem laws_eqIntS.mono : ∀ a0 a1 k, LeO (laws_eqIntS.f k a0 a1) (laws_eqIntS.f (k + 1) a0 a1) := by
  intro a0 a1 k
  have ih0 := laws_eqIntS.mono_l k
  unfold laws_eqIntS.f
  repeat' first
      | (with_reducible exact ih0 _ _ _)
      | (with_reducible exact LeO.refl _)
      | (with_reducible exact LeO.none _)
      | (with_reducible refine LeO.ite ?_ ?_)
      | (with_reducible refine LeO.bind ?_ (fun _ => ?_))
      | exact ih0 _ _ _
      | exact LeO.none _
      | refine LeO.ite ?_ ?_
      | refine LeO.bind ?_ (fun _ => ?_)
set_option maxHeartbeats 8000000 in
set_option maxRecDepth 100000 in
theorem laws_eqIntS.calls (k : Nat) (A0 : Option Addr) (c0 : Nat) (l0 : List Int) (A1 : Option Addr) (c1 : Nat) (l1 : List Int) (r : Bool) (w : World) (hr0 : Kd.C (Kd.int .i64) w A0 l0.length l0) (hc0 : l0.length ≤ c0) (hr1 : Kd.C (Kd.int .i64) w A1 l1.length l1) (hc1 : l1.length ≤ c1) (h : laws_eqIntS.f k l0 l1 = some r) :
    Calls Try.prog 100 #[.slice A0 l0.length c0, .slice A1 l1.length c1] w fun e w' => e = .returned (.bool r) ∧ Drawn0 w w' := by
  have HR0 := Aside0.mk hr0
  have HC0 := Aside0.mk hc0
  clear hr0 hc0
  have HR1 := Aside0.mk hr1
  have HC1 := Aside0.mk hc1
  clear hr1 hc1
  have H : (if (l0.length : Int) = (l1.length : Int) then (laws_eqIntS.l0 k l0 l1 0) else (some false)) = some r := h
  clear h
  by_cases c3 : (l0.length : Int) = (l1.length : Int)
  · rw [if_pos c3] at H
    have c3b0 : ((l0.length : Int) == (l1.length : Int)) = true := beq_iff_eq.mpr c3
    have c3b1 : ((l0.length : Int) != (l1.length : Int)) = false := bne_eq_false_iff_eq.mpr c3
    have c3b2 : (l0.length == l1.length) = true := by first | simpa using c3 | (simp at c3 ⊢; omega)
    clear c3
    have H' := Aside0.mk H
    clear H
    go_enter Try.func100, Try.ntmps100
    go_wp2
    repeat (go_quiet (fail); try go_wp2)
    first | go_loopg [5] k (fun kq v5 w' => ∃ (x5_1 : Int), v5 = .int .i64 x5_1 ∧ Aside0 (laws_eqIntS.l0 kq l0 l1 x5_1 = some r) ∧ Aside0 (kq ≤ k) ∧ Drawn0 w w') | (simp only [Act.put, List.setIfInBounds_toArray, List.set_cons_succ, List.set_cons_zero]; go_loopg [5] k (fun kq v5 w' => ∃ (x5_1 : Int), v5 = .int .i64 x5_1 ∧ Aside0 (laws_eqIntS.l0 kq l0 l1 x5_1 = some r) ∧ Aside0 (kq ≤ k) ∧ Drawn0 w w'))
    case atStart => exact ⟨(0), (by first | rfl | (simp; done) | (simp [*]; done)), H', ⟨Nat.le_refl _⟩, by repeat (first | exact Drawn0.refl _ | apply Drawn0.step)⟩
    case round =>
      clear H'
      try clear c1
      try clear p2
      try clear c3
      try clear c3b0
      try clear c3b1
      try clear c3b2
      obtain ⟨x5_1, rfl, HA, HK1, ⟨m1, rfl⟩⟩ := hrel
      cases gk with
      | zero => exact absurd HA.out (by simp [laws_eqIntS.l0])
      | succ k1 =>
        have H := HA.out
        clear HA
        simp only [laws_eqIntS.l0] at H
        by_cases c4 : x5_1 < (l0.length : Int)
        · rw [if_pos c4] at H
          have c4b0 : decide (x5_1 < (l0.length : Int)) = true := decide_eq_true c4
          clear c4
          by_cases c5 : 0 ≤ x5_1
          · rw [if_pos c5] at H
            have c5b0 : decide (0 ≤ x5_1) = true := decide_eq_true c5
            clear c5
            by_cases c6 : x5_1 < (l1.length : Int)
            · rw [if_pos c6] at H
              have c6b0 : decide (x5_1 < (l1.length : Int)) = true := decide_eq_true c6
              clear c6
              by_cases c7 : (rd l0 x5_1) = (rd l1 x5_1)
              · rw [if_pos c7] at H
                have c7b0 : ((rd l0 x5_1) == (rd l1 x5_1)) = true := beq_iff_eq.mpr c7
                have c7b1 : ((rd l0 x5_1) != (rd l1 x5_1)) = false := bne_eq_false_iff_eq.mpr c7
                clear c7
                have H' := Aside0.mk H
                clear H
                have p100001 : 0 ≤ (x5_1 : Int) := of_decide_eq_true (by first | (with_reducible assumption) | assumption)
                have q100001 : x5_1 < (l0.length : Int) := of_decide_eq_true (by first | (with_reducible assumption) | assumption)
                obtain ⟨ad100001, e100001, hx100001_0⟩ := Kd.at_int HR0.out x5_1 p100001 q100001
                cases e100001
                replace p100001 := eq_true p100001
                replace q100001 := eq_true q100001
                have p100002 : 0 ≤ (x5_1 : Int) := of_decide_eq_true (by first | (with_reducible assumption) | assumption)
                have q100002 : x5_1 < (l1.length : Int) := of_decide_eq_true (by first | (with_reducible assumption) | assumption)
                obtain ⟨ad100002, e100002, hx100002_0⟩ := Kd.at_int HR1.out x5_1 p100002 q100002
                cases e100002
                replace p100002 := eq_true p100002
                replace q100002 := eq_true q100002
                go_wp2
                repeat (go_quiet (fail); try go_wp2)
                go_roundg k1
                case measure => have := HK1.out; omega
                case rel => exact ⟨(wrap64 (x5_1 + 1)), (by first | rfl | (simp; done) | (simp [*]; done)), H', ⟨by have := HK1.out; omega⟩, by repeat (first | exact Drawn0.refl _ | apply Drawn0.step)⟩
              · rw [if_neg c7] at H
                have c7b0 : ((rd l0 x5_1) == (rd l1 x5_1)) = false := beq_eq_false_iff_ne.mpr c7
                have c7b1 : ((rd l0 x5_1) != (rd l1 x5_1)) = true := bne_iff_ne.mpr c7
                obtain rfl := Option.some.inj H
                have p100001 : 0 ≤ (x5_1 : Int) := of_decide_eq_true (by first | (with_reducible assumption) | assumption)
                have q100001 : x5_1 < (l0.length : Int) := of_decide_eq_true (by first | (with_reducible assumption) | assumption)
                obtain ⟨ad100001, e100001, hx100001_0⟩ := Kd.at_int HR0.out x5_1 p100001 q100001
                cases e100001
                replace p100001 := eq_true p100001
                replace q100001 := eq_true q100001
                have p100002 : 0 ≤ (x5_1 : Int) := of_decide_eq_true (by first | (with_reducible assumption) | assumption)
                have q100002 : x5_1 < (l1.length : Int) := of_decide_eq_true (by first | (with_reducible assumption) | assumption)
                obtain ⟨ad100002, e100002, hx100002_0⟩ := Kd.at_int HR1.out x5_1 p100002 q100002
                cases e100002
                replace p100002 := eq_true p100002
                replace q100002 := eq_true q100002
                go_wp2
                repeat (go_quiet (fail); try go_wp2)
                go_ret
                exact ⟨by first | rfl | (simp; done) | (simp [*]; done), by repeat (first | exact Drawn0.refl _ | apply Drawn0.step)⟩
            · rw [if_neg c6] at H
              exact absurd H (by simp)
          · rw [if_neg c5] at H
            exact absurd H (by simp)
        · rw [if_neg c4] at H
          have c4b0 : decide (x5_1 < (l0.length : Int)) = false := decide_eq_false c4
          clear c4
          obtain rfl := Option.some.inj H
          go_wp2
          repeat (go_quiet (fail); try go_wp2)
          go_ret
          exact ⟨by first | rfl | (simp; done) | (simp [*]; done), by repeat (first | exact Drawn0.refl _ | apply Drawn0.step)⟩
  · rw [if_neg c3] at H
    have c3b0 : ((l0.length : Int) == (l1.length : Int)) = false := beq_eq_false_iff_ne.mpr c3
    have c3b1 : ((l0.length : Int) != (l1.length : Int)) = true := bne_iff_ne.mpr c3
    have c3b2 : (l0.length == l1.length) = false := by first | simpa using c3 | (simp at c3 ⊢; omega)
    obtain rfl := Option.some.inj H
    go_enter Try.func100, Try.ntmps100
    go_wp2
    repeat (go_quiet (fail); try go_wp2)
    go_ret
    exact ⟨by first | rfl | (simp; done) | (simp [*]; done), by repeat (first | exact Drawn0.refl _ | apply Drawn0.step)⟩


end Go.Proofs.Ytpppopdmnejcfaa.A


namespace Go.Proofs.Ytpppopdmnejcfaa.A
open Go.RowKit Go.Proofs.Ytpppopdmnejcfaa.Ext Go.Proofs.YtpppopdmnejcfaaW.PrintWords Go.Proofs.YtpppopdmnejcfaaW.PrintLast Go.Proofs.YtpppopdmnejcfaaW.PrintMore
attribute [local go_sem] max2_int min2_int max_two min_two max_three min_three max_four min_four   -- for this text's walks alone
set_option linter.unusedVariables false
set_option linter.unusedSimpArgs false

/-! ### laws_szConstraint: function 20 -/
def laws_szConstraint.f (k : Nat) (a0_0 : Int) (a0_1 : ByteArray) (a0_2 : ByteArray) (a0_3 : Int) (a0_4 : ByteArray) (l0_5 : List (S34)) (l0_6 : List Int) (a0_7 : Int) (a1 : Int) : Option (Int) := if (wrap64 (a1 - (a0_1.size : Int))) < 0 then (some (-1)) else (if (wrap64 ((wrap64 (a1 - (a0_1.size : Int))) - (a0_2.size : Int))) < 0 then (some (-1)) else ((laws_szRegex.f k a0_3 a0_4 l0_5 (wrap64 ((wrap64 (a1 - (a0_1.size : Int))) - (a0_2.size : Int)))).bind fun t20002 => (if t20002 < 0 then (some (-1)) else ((laws_szIntS.f l0_6 t20002).bind fun t20003 => (if t20003 < 0 then (some (-1)) else (some t20003))))))
theorem laws_szConstraint.mono : ∀ a0 a1 a2 a3 a4 a5 a6 a7 a8 k, LeO (laws_szConstraint.f k a0 a1 a2 a3 a4 a5 a6 a7 a8) (laws_szConstraint.f (k + 1) a0 a1 a2 a3 a4 a5 a6 a7 a8) := by
  intro a0 a1 a2 a3 a4 a5 a6 a7 a8 k
  unfold laws_szConstraint.f
  repeat' first
      | (with_reducible exact laws_szRegex.mono _ _ _ _ _)
      | (with_reducible exact LeO.refl _)
      | (with_reducible exact LeO.none _)
      | (with_reducible refine LeO.ite ?_ ?_)
      | (with_reducible refine LeO.bind ?_ (fun _ => ?_))
      | exact laws_szRegex.mono _ _ _ _ _
      | exact LeO.none _
      | refine LeO.ite ?_ ?_
      | refine LeO.bind ?_ (fun _ => ?_)
set_option maxHeartbeats 8000000 in
set_option maxRecDepth 100000 in
theorem laws_szConstraint.calls (k : Nat) (a0_0 : Int) (a0_1 : ByteArray) (a0_2 : ByteArray) (a0_3 : Int) (a0_4 : ByteArray) (A0_5 : Option Addr) (c0_5 : Nat) (l0_5 : List (S34)) (A0_6 : Option Addr) (c0_6 : Nat) (l0_6 : List Int) (a0_7 : Int) (a1 : Int) (r : Int) (w : World) (hr0_5 : Kd.C k34 w A0_5 l0_5.length l0_5) (hc0_5 : l0_5.length ≤ c0_5) (hr0_6 : Kd.C (Kd.int .i64) w A0_6 l0_6.length l0_6) (hc0_6 : l0_6.length ≤ c0_6) (h : laws_szConstraint.f k a0_0 a0_1 a0_2 a0_3 a0_4 l0_5 l0_6 a0_7 a1 = some r) :
    Calls Try.prog 20 #[.agg #[.int .i64 a0_0, .string a0_1, .string a0_2, .int .i64 a0_3, .string a0_4, .slice A0_5 l0_5.length c0_5, .slice A0_6 l0_6.length c0_6, .int .i64 a0_7], .int .i64 a1] w fun e w' => e = .returned (.int .i64 r) ∧ Below w.heap.size w w' := by
  have hu37 := Try.underlying37
  have hu34 := Try.underlying34
  have HR0_5 := Aside0.mk hr0_5
  have HC0_5 := Aside0.mk hc0_5
  clear hr0_5 hc0_5
  have HR0_6 := Aside0.mk hr0_6
  have HC0_6 := Aside0.mk hc0_6
  clear hr0_6 hc0_6
  have HB := Aside0.mk (Below.refl w.heap.size w)
  have H : (if (wrap64 (a1 - (a0_1.size : Int))) < 0 then (some (-1)) else (if (wrap64 ((wrap64 (a1 - (a0_1.size : Int))) - (a0_2.size : Int))) < 0 then (some (-1)) else ((laws_szRegex.f k a0_3 a0_4 l0_5 (wrap64 ((wrap64 (a1 - (a0_1.size : Int))) - (a0_2.size : Int)))).bind fun t20002 => (if t20002 < 0 then (some (-1)) else ((laws_szIntS.f l0_6 t20002).bind fun t20003 => (if t20003 < 0 then (some (-1)) else (some t20003))))))) = some r := h
  clear h
  by_cases c3 : (wrap64 (a1 - (a0_1.size : Int))) < 0
  · rw [if_pos c3] at H
    have c3b0 : decide ((wrap64 (a1 - (a0_1.size : Int))) < 0) = true := decide_eq_true c3
    have c3w : decide ((IntKind.i64.wrap (a1 - (a0_1.size : Int))) < 0) = true := by simp only [i64_w]; exact c3b0
    clear c3
    obtain rfl := Option.some.inj H
    go_enter Try.func20, Try.ntmps20
    go_wp2_with (first | ((with_reducible refine gate_dst (N := 2) rfl ?_); refine box_event ?hg (N := 2) ?hd (cs := #[.int .i64 a0_0, .string a0_1, .string a0_2, .int .i64 a0_3, .string a0_4, .slice A0_5 l0_5.length c0_5, .slice A0_6 l0_6.length c0_6, .int .i64 a0_7]) (t := 37) ?hr ?_; (case hd => rfl); (case hg => rfl); (case hr => first | (go_simp; done) | (go_simp; rfl)); intro gb20001 hg w4 hbox hb; have n0_ := Aside0.mk (below_step (by repeat (first | (with_reducible first | exact HB.out | apply below_alloc | apply pw_below_drewN | apply below_drew1) | exact HB.out)) hb); have n1_ := Aside0.mk (hbox); have n2_ := Aside0.mk ((by rw [hg]; exact (below_size (by repeat (first | (with_reducible first | exact HB.out | apply below_alloc | apply pw_below_drewN | apply below_drew1) | exact HB.out))) : w.heap.size ≤ gb20001)); have n3_ := Aside0.mk ((by rw [hg]; exact (below_size (by repeat (first | (with_reducible first | exact HB.out | apply below_alloc | apply pw_below_drewN | apply below_drew1) | exact HB.out))) : w.heap.size ≤ gb20001)); clear HB; have HB := n0_; have BK20001 := n1_; have GW20001 := n2_; have GE20001 := n3_; clear n0_ n1_ n2_ n3_; clear hb hbox hg; have hcz5_0 : w4.cell? ⟨gb20001, 0, none⟩ = some (.int .i64 a0_0) := (blk_cell BK20001.out 0).trans rfl; have hcz5_1 : w4.cell? ⟨gb20001, 1, none⟩ = some (.string a0_1) := (blk_cell BK20001.out 1).trans rfl; have hcz5_2 : w4.cell? ⟨gb20001, 2, none⟩ = some (.string a0_2) := (blk_cell BK20001.out 2).trans rfl; have hcz5_3 : w4.cell? ⟨gb20001, 3, none⟩ = some (.int .i64 a0_3) := (blk_cell BK20001.out 3).trans rfl; have hcz5_4 : w4.cell? ⟨gb20001, 4, none⟩ = some (.string a0_4) := (blk_cell BK20001.out 4).trans rfl; have hcz5_5 : w4.cell? ⟨gb20001, 5, none⟩ = some (.slice A0_5 l0_5.length c0_5) := (blk_cell BK20001.out 5).trans rfl; have hcz5_6 : w4.cell? ⟨gb20001, 6, none⟩ = some (.slice A0_6 l0_6.length c0_6) := (blk_cell BK20001.out 6).trans rfl; have hcz5_7 : w4.cell? ⟨gb20001, 7, none⟩ = some (.int .i64 a0_7) := (blk_cell BK20001.out 7).trans rfl; have hfz5_0 := blk_frozen BK20001.out 0; have hfz5_1 := blk_frozen BK20001.out 1; have hfz5_2 := blk_frozen BK20001.out 2; have hfz5_3 := blk_frozen BK20001.out 3; have hfz5_4 := blk_frozen BK20001.out 4; have hfz5_5 := blk_frozen BK20001.out 5; have hfz5_6 := blk_frozen BK20001.out 6; have hfz5_7 := blk_frozen BK20001.out 7))
    go_ret
    exact ⟨by first | rfl | (simp [errW_none, errW_some] <;> rfl) | (simp [*, errW_none, errW_some] <;> rfl), by repeat (first | (with_reducible first | exact HB.out | apply below_alloc | apply pw_below_drewN | apply below_drew1 | refine below_set ?_ GE20001.out) | exact HB.out)⟩
  · rw [if_neg c3] at H
    have c3b0 : decide ((wrap64 (a1 - (a0_1.size : Int))) < 0) = false := decide_eq_false c3
    have c3w : decide ((IntKind.i64.wrap (a1 - (a0_1.size : Int))) < 0) = false := by simp only [i64_w]; exact c3b0
    clear c3
    by_cases c6 : (wrap64 ((wrap64 (a1 - (a0_1.size : Int))) - (a0_2.size : Int))) < 0
    · rw [if_pos c6] at H
      have c6b0 : decide ((wrap64 ((wrap64 (a1 - (a0_1.size : Int))) - (a0_2.size : Int))) < 0) = true := decide_eq_true c6
      have c6w : decide ((IntKind.i64.wrap ((IntKind.i64.wrap (a1 - (a0_1.size : Int))) - (a0_2.size : Int))) < 0) = true := by simp only [i64_w]; exact c6b0
      clear c6
      obtain rfl := Option.some.inj H
      go_enter Try.func20, Try.ntmps20
      go_wp2_with (first | ((with_reducible refine gate_dst (N := 2) rfl ?_); refine box_event ?hg (N := 2) ?hd (cs := #[.int .i64 a0_0, .string a0_1, .string a0_2, .int .i64 a0_3, .string a0_4, .slice A0_5 l0_5.length c0_5, .slice A0_6 l0_6.length c0_6, .int .i64 a0_7]) (t := 37) ?hr ?_; (case hd => rfl); (case hg => rfl); (case hr => first | (go_simp; done) | (go_simp; rfl)); intro gb20001 hg w7 hbox hb; have n0_ := Aside0.mk (below_step (by repeat (first | (with_reducible first | exact HB.out | apply below_alloc | apply pw_below_drewN | apply below_drew1) | exact HB.out)) hb); have n1_ := Aside0.mk (hbox); have n2_ := Aside0.mk ((by rw [hg]; exact (below_size (by repeat (first | (with_reducible first | exact HB.out | apply below_alloc | apply pw_below_drewN | apply below_drew1) | exact HB.out))) : w.heap.size ≤ gb20001)); have n3_ := Aside0.mk ((by rw [hg]; exact (below_size (by repeat (first | (with_reducible first | exact HB.out | apply below_alloc | apply pw_below_drewN | apply below_drew1) | exact HB.out))) : w.heap.size ≤ gb20001)); clear HB; have HB := n0_; have BK20001 := n1_; have GW20001 := n2_; have GE20001 := n3_; clear n0_ n1_ n2_ n3_; clear hb hbox hg; have hcz8_0 : w7.cell? ⟨gb20001, 0, none⟩ = some (.int .i64 a0_0) := (blk_cell BK20001.out 0).trans rfl; have hcz8_1 : w7.cell? ⟨gb20001, 1, none⟩ = some (.string a0_1) := (blk_cell BK20001.out 1).trans rfl; have hcz8_2 : w7.cell? ⟨gb20001, 2, none⟩ = some (.string a0_2) := (blk_cell BK20001.out 2).trans rfl; have hcz8_3 : w7.cell? ⟨gb20001, 3, none⟩ = some (.int .i64 a0_3) := (blk_cell BK20001.out 3).trans rfl; have hcz8_4 : w7.cell? ⟨gb20001, 4, none⟩ = some (.string a0_4) := (blk_cell BK20001.out 4).trans rfl; have hcz8_5 : w7.cell? ⟨gb20001, 5, none⟩ = some (.slice A0_5 l0_5.length c0_5) := (blk_cell BK20001.out 5).trans rfl; have hcz8_6 : w7.cell? ⟨gb20001, 6, none⟩ = some (.slice A0_6 l0_6.length c0_6) := (blk_cell BK20001.out 6).trans rfl; have hcz8_7 : w7.cell? ⟨gb20001, 7, none⟩ = some (.int .i64 a0_7) := (blk_cell BK20001.out 7).trans rfl; have hfz8_0 := blk_frozen BK20001.out 0; have hfz8_1 := blk_frozen BK20001.out 1; have hfz8_2 := blk_frozen BK20001.out 2; have hfz8_3 := blk_frozen BK20001.out 3; have hfz8_4 := blk_frozen BK20001.out 4; have hfz8_5 := blk_frozen BK20001.out 5; have hfz8_6 := blk_frozen BK20001.out 6; have hfz8_7 := blk_frozen BK20001.out 7))
      go_ret
      exact ⟨by first | rfl | (simp [errW_none, errW_some] <;> rfl) | (simp [*, errW_none, errW_some] <;> rfl), by repeat (first | (with_reducible first | exact HB.out | apply below_alloc | apply pw_below_drewN | apply below_drew1 | refine below_set ?_ GE20001.out) | exact HB.out)⟩
    · rw [if_neg c6] at H
      have c6b0 : decide ((wrap64 ((wrap64 (a1 - (a0_1.size : Int))) - (a0_2.size : Int))) < 0) = false := decide_eq_false c6
      have c6w : decide ((IntKind.i64.wrap ((IntKind.i64.wrap (a1 - (a0_1.size : Int))) - (a0_2.size : Int))) < 0) = false := by simp only [i64_w]; exact c6b0
      clear c6
      replace H := Option.bind_eq_some_iff.mp H
      obtain ⟨t20002, A90, H⟩ := H
      replace H : (if t20002 < 0 then (some (-1)) else ((laws_szIntS.f l0_6 t20002).bind fun t20003 => (if t20003 < 0 then (some (-1)) else (some t20003)))) = some r := H
      have A9 := Aside0.mk A90
      clear A90
      by_cases c10 : t20002 < 0
      · rw [if_pos c10] at H
        have c10b0 : decide (t20002 < 0) = true := decide_eq_true c10
        clear c10
        obtain rfl := Option.some.inj H
        go_enter Try.func20, Try.ntmps20
        go_wp2_with (first | ((with_reducible refine gate_dst (N := 2) rfl ?_); refine box_event ?hg (N := 2) ?hd (cs := #[.int .i64 a0_0, .string a0_1, .string a0_2, .int .i64 a0_3, .string a0_4, .slice A0_5 l0_5.length c0_5, .slice A0_6 l0_6.length c0_6, .int .i64 a0_7]) (t := 37) ?hr ?_; (case hd => rfl); (case hg => rfl); (case hr => first | (go_simp; done) | (go_simp; rfl)); intro gb20001 hg w11 hbox hb; have n0_ := Aside0.mk (below_step (by repeat (first | (with_reducible first | exact HB.out | apply below_alloc | apply pw_below_drewN | apply below_drew1) | exact HB.out)) hb); have n1_ := Aside0.mk (hbox); have n2_ := Aside0.mk ((by rw [hg]; exact (below_size (by repeat (first | (with_reducible first | exact HB.out | apply below_alloc | apply pw_below_drewN | apply below_drew1) | exact HB.out))) : w.heap.size ≤ gb20001)); have n3_ := Aside0.mk ((by rw [hg]; exact (below_size (by repeat (first | (with_reducible first | exact HB.out | apply below_alloc | apply pw_below_drewN | apply below_drew1) | exact HB.out))) : w.heap.size ≤ gb20001)); clear HB; have HB := n0_; have BK20001 := n1_; have GW20001 := n2_; have GE20001 := n3_; clear n0_ n1_ n2_ n3_; clear hb hbox hg; have hcz12_0 : w11.cell? ⟨gb20001, 0, none⟩ = some (.int .i64 a0_0) := (blk_cell BK20001.out 0).trans rfl; have hcz12_1 : w11.cell? ⟨gb20001, 1, none⟩ = some (.string a0_1) := (blk_cell BK20001.out 1).trans rfl; have hcz12_2 : w11.cell? ⟨gb20001, 2, none⟩ = some (.string a0_2) := (blk_cell BK20001.out 2).trans rfl; have hcz12_3 : w11.cell? ⟨gb20001, 3, none⟩ = some (.int .i64 a0_3) := (blk_cell BK20001.out 3).trans rfl; have hcz12_4 : w11.cell? ⟨gb20001, 4, none⟩ = some (.string a0_4) := (blk_cell BK20001.out 4).trans rfl; have hcz12_5 : w11.cell? ⟨gb20001, 5, none⟩ = some (.slice A0_5 l0_5.length c0_5) := (blk_cell BK20001.out 5).trans rfl; have hcz12_6 : w11.cell? ⟨gb20001, 6, none⟩ = some (.slice A0_6 l0_6.length c0_6) := (blk_cell BK20001.out 6).trans rfl; have hcz12_7 : w11.cell? ⟨gb20001, 7, none⟩ = some (.int .i64 a0_7) := (blk_cell BK20001.out 7).trans rfl; have hfz12_0 := blk_frozen BK20001.out 0; have hfz12_1 := blk_frozen BK20001.out 1; have hfz12_2 := blk_frozen BK20001.out 2; have hfz12_3 := blk_frozen BK20001.out 3; have hfz12_4 := blk_frozen BK20001.out 4; have hfz12_5 := blk_frozen BK20001.out 5; have hfz12_6 := blk_frozen BK20001.out 6; have hfz12_7 := blk_frozen BK20001.out 7) | ((with_reducible refine gate_callee (f := 86) rfl ?_); refine goesL_ (some 22) rfl rfl Try.func86 (by kernel_rfl) rfl #[.agg #[.int .i64 a0_3, .string a0_4, .slice A0_5 l0_5.length c0_5], .int .i64 (wrap64 ((wrap64 (a1 - (a0_1.size : Int))) - (a0_2.size : Int)))] rfl (by (try simp only [List.map_toArray, List.map_cons, List.map_nil]); first | done | rfl | (simp only [List.length_drop, List.length_take]; rfl)) ?_; (with_reducible refine (laws_szRegex.calls k a0_3 a0_4 _ _ l0_5 (wrap64 ((wrap64 (a1 - (a0_1.size : Int))) - (a0_2.size : Int))) t20002 _ ?side1 ?side2 A9.out).mono ?_); (case side1 => repeat (first | exact (Kd.C_below HR0_5.out HB.out) | (with_reducible refine Kd.C_alloc ?_ _) | (with_reducible refine Kd.C_drewN ?_ _) | (with_reducible refine Kd.C_drew ?_))); (case side2 => exact HC0_5.out); rintro e w13 ⟨rfl, hb⟩; refine ⟨_, rfl, ?_⟩; have n0_ := Aside0.mk (blk_below (g := gb20001) (o := .cells #[.int .i64 a0_0, .string a0_1, .string a0_2, .int .i64 a0_3, .string a0_4, .slice A0_5 l0_5.length c0_5, .slice A0_6 l0_6.length c0_6, .int .i64 a0_7] 37 (0, 0)) (by (with_reducible repeat (first | refine blk_drewN ?_ _ | refine blk_drew ?_ | refine blk_alloc ?_ _)); exact BK20001.out) hb); have n1_ := Aside0.mk (below_step (by repeat (first | (with_reducible first | exact HB.out | apply below_alloc | apply pw_below_drewN | apply below_drew1 | refine below_set ?_ GE20001.out) | exact HB.out)) hb); clear BK20001; clear HB; have BK20001 := n0_; have HB := n1_; clear n0_ n1_; (try clear hb); (try clear hb2); (try clear hk); (try clear hi)))
        go_ret
        exact ⟨by first | rfl | (simp [errW_none, errW_some] <;> rfl) | (simp [*, errW_none, errW_some] <;> rfl), by repeat (first | (with_reducible first | exact HB.out | apply below_alloc | apply pw_below_drewN | apply below_drew1 | refine below_set ?_ GE20001.out) | exact HB.out)⟩
      · rw [if_neg c10] at H
        have c10b0 : decide (t20002 < 0) = false := decide_eq_false c10
        clear c10
        replace H := Option.bind_eq_some_iff.mp H
        obtain ⟨t20003, A140, H⟩ := H
        replace H : (if t20003 < 0 then (some (-1)) else (some t20003)) = some r := H
        have A14 := Aside0.mk A140
        clear A140
        by_cases c15 : t20003 < 0
        · rw [if_pos c15] at H
          have c15b0 : decide (t20003 < 0) = true := decide_eq_true c15
          clear c15
          obtain rfl := Option.some.inj H
          go_enter Try.func20, Try.ntmps20
          go_wp2_with (first | ((with_reducible refine gate_dst (N := 2) rfl ?_); refine box_event ?hg (N := 2) ?hd (cs := #[.int .i64 a0_0, .string a0_1, .string a0_2, .int .i64 a0_3, .string a0_4, .slice A0_5 l0_5.length c0_5, .slice A0_6 l0_6.length c0_6, .int .i64 a0_7]) (t := 37) ?hr ?_; (case hd => rfl); (case hg => rfl); (case hr => first | (go_simp; done) | (go_simp; rfl)); intro gb20001 hg w16 hbox hb; have n0_ := Aside0.mk (below_step (by repeat (first | (with_reducible first | exact HB.out | apply below_alloc | apply pw_below_drewN | apply below_drew1) | exact HB.out)) hb); have n1_ := Aside0.mk (hbox); have n2_ := Aside0.mk ((by rw [hg]; exact (below_size (by repeat (first | (with_reducible first | exact HB.out | apply below_alloc | apply pw_below_drewN | apply below_drew1) | exact HB.out))) : w.heap.size ≤ gb20001)); have n3_ := Aside0.mk ((by rw [hg]; exact (below_size (by repeat (first | (with_reducible first | exact HB.out | apply below_alloc | apply pw_below_drewN | apply below_drew1) | exact HB.out))) : w.heap.size ≤ gb20001)); clear HB; have HB := n0_; have BK20001 := n1_; have GW20001 := n2_; have GE20001 := n3_; clear n0_ n1_ n2_ n3_; clear hb hbox hg; have hcz17_0 : w16.cell? ⟨gb20001, 0, none⟩ = some (.int .i64 a0_0) := (blk_cell BK20001.out 0).trans rfl; have hcz17_1 : w16.cell? ⟨gb20001, 1, none⟩ = some (.string a0_1) := (blk_cell BK20001.out 1).trans rfl; have hcz17_2 : w16.cell? ⟨gb20001, 2, none⟩ = some (.string a0_2) := (blk_cell BK20001.out 2).trans rfl; have hcz17_3 : w16.cell? ⟨gb20001, 3, none⟩ = some (.int .i64 a0_3) := (blk_cell BK20001.out 3).trans rfl; have hcz17_4 : w16.cell? ⟨gb20001, 4, none⟩ = some (.string a0_4) := (blk_cell BK20001.out 4).trans rfl; have hcz17_5 : w16.cell? ⟨gb20001, 5, none⟩ = some (.slice A0_5 l0_5.length c0_5) := (blk_cell BK20001.out 5).trans rfl; have hcz17_6 : w16.cell? ⟨gb20001, 6, none⟩ = some (.slice A0_6 l0_6.length c0_6) := (blk_cell BK20001.out 6).trans rfl; have hcz17_7 : w16.cell? ⟨gb20001, 7, none⟩ = some (.int .i64 a0_7) := (blk_cell BK20001.out 7).trans rfl; have hfz17_0 := blk_frozen BK20001.out 0; have hfz17_1 := blk_frozen BK20001.out 1; have hfz17_2 := blk_frozen BK20001.out 2; have hfz17_3 := blk_frozen BK20001.out 3; have hfz17_4 := blk_frozen BK20001.out 4; have hfz17_5 := blk_frozen BK20001.out 5; have hfz17_6 := blk_frozen BK20001.out 6; have hfz17_7 := blk_frozen BK20001.out 7) | ((with_reducible refine gate_callee (f := 86) rfl ?_); refine goesL_ (some 22) rfl rfl Try.func86 (by kernel_rfl) rfl #[.agg #[.int .i64 a0_3, .string a0_4, .slice A0_5 l0_5.length c0_5], .int .i64 (wrap64 ((wrap64 (a1 - (a0_1.size : Int))) - (a0_2.size : Int)))] rfl (by (try simp only [List.map_toArray, List.map_cons, List.map_nil]); first | done | rfl | (simp only [List.length_drop, List.length_take]; rfl)) ?_; (with_reducible refine (laws_szRegex.calls k a0_3 a0_4 _ _ l0_5 (wrap64 ((wrap64 (a1 - (a0_1.size : Int))) - (a0_2.size : Int))) t20002 _ ?side1 ?side2 A9.out).mono ?_); (case side1 => repeat (first | exact (Kd.C_below HR0_5.out HB.out) | (with_reducible refine Kd.C_alloc ?_ _) | (with_reducible refine Kd.C_drewN ?_ _) | (with_reducible refine Kd.C_drew ?_))); (case side2 => exact HC0_5.out); rintro e w18 ⟨rfl, hb⟩; refine ⟨_, rfl, ?_⟩; have n0_ := Aside0.mk (blk_below (g := gb20001) (o := .cells #[.int .i64 a0_0, .string a0_1, .string a0_2, .int .i64 a0_3, .string a0_4, .slice A0_5 l0_5.length c0_5, .slice A0_6 l0_6.length c0_6, .int .i64 a0_7] 37 (0, 0)) (by (with_reducible repeat (first | refine blk_drewN ?_ _ | refine blk_drew ?_ | refine blk_alloc ?_ _)); exact BK20001.out) hb); have n1_ := Aside0.mk (below_step (by repeat (first | (with_reducible first | exact HB.out | apply below_alloc | apply pw_below_drewN | apply below_drew1 | refine below_set ?_ GE20001.out) | exact HB.out)) hb); clear BK20001; clear HB; have BK20001 := n0_; have HB := n1_; clear n0_ n1_; (try clear hb); (try clear hb2); (try clear hk); (try clear hi); have hcz19_0 : w18.cell? ⟨gb20001, 0, none⟩ = some (.int .i64 a0_0) := (blk_cell BK20001.out 0).trans rfl; have hcz19_1 : w18.cell? ⟨gb20001, 1, none⟩ = some (.string a0_1) := (blk_cell BK20001.out 1).trans rfl; have hcz19_2 : w18.cell? ⟨gb20001, 2, none⟩ = some (.string a0_2) := (blk_cell BK20001.out 2).trans rfl; have hcz19_3 : w18.cell? ⟨gb20001, 3, none⟩ = some (.int .i64 a0_3) := (blk_cell BK20001.out 3).trans rfl; have hcz19_4 : w18.cell? ⟨gb20001, 4, none⟩ = some (.string a0_4) := (blk_cell BK20001.out 4).trans rfl; have hcz19_5 : w18.cell? ⟨gb20001, 5, none⟩ = some (.slice A0_5 l0_5.length c0_5) := (blk_cell BK20001.out 5).trans rfl; have hcz19_6 : w18.cell? ⟨gb20001, 6, none⟩ = some (.slice A0_6 l0_6.length c0_6) := (blk_cell BK20001.out 6).trans rfl; have hcz19_7 : w18.cell? ⟨gb20001, 7, none⟩ = some (.int .i64 a0_7) := (blk_cell BK20001.out 7).trans rfl; have hfz19_0 := blk_frozen BK20001.out 0; have hfz19_1 := blk_frozen BK20001.out 1; have hfz19_2 := blk_frozen BK20001.out 2; have hfz19_3 := blk_frozen BK20001.out 3; have hfz19_4 := blk_frozen BK20001.out 4; have hfz19_5 := blk_frozen BK20001.out 5; have hfz19_6 := blk_frozen BK20001.out 6; have hfz19_7 := blk_frozen BK20001.out 7) | ((with_reducible refine gate_callee (f := 87) rfl ?_); refine goesL_ (some 28) rfl rfl Try.func87 (by kernel_rfl) rfl #[.slice A0_6 l0_6.length c0_6, .int .i64 t20002] rfl (by (try simp only [List.map_toArray, List.map_cons, List.map_nil]); first | done | rfl | (simp only [List.length_drop, List.length_take]; rfl)) ?_; (with_reducible refine (laws_szIntS.calls _ _ l0_6 t20002 t20003 _ ?side1 ?side2 A14.out).mono ?_); (case side1 => repeat (first | exact (Kd.C_below HR0_6.out HB.out) | (with_reducible refine Kd.C_alloc ?_ _) | (with_reducible refine Kd.C_drewN ?_ _) | (with_reducible refine Kd.C_drew ?_))); (case side2 => exact HC0_6.out); rintro e w' ⟨rfl, ⟨nd, rfl⟩⟩; refine ⟨_, rfl, ?_⟩))
          go_ret
          exact ⟨by first | rfl | (simp [errW_none, errW_some] <;> rfl) | (simp [*, errW_none, errW_some] <;> rfl), by repeat (first | (with_reducible first | exact HB.out | apply below_alloc | apply pw_below_drewN | apply below_drew1 | refine below_set ?_ GE20001.out) | exact HB.out)⟩
        · rw [if_neg c15] at H
          have c15b0 : decide (t20003 < 0) = false := decide_eq_false c15
          clear c15
          obtain rfl := Option.some.inj H
          go_enter Try.func20, Try.ntmps20
          go_wp2_with (first | ((with_reducible refine gate_dst (N := 2) rfl ?_); refine box_event ?hg (N := 2) ?hd (cs := #[.int .i64 a0_0, .string a0_1, .string a0_2, .int .i64 a0_3, .string a0_4, .slice A0_5 l0_5.length c0_5, .slice A0_6 l0_6.length c0_6, .int .i64 a0_7]) (t := 37) ?hr ?_; (case hd => rfl); (case hg => rfl); (case hr => first | (go_simp; done) | (go_simp; rfl)); intro gb20001 hg w20 hbox hb; have n0_ := Aside0.mk (below_step (by repeat (first | (with_reducible first | exact HB.out | apply below_alloc | apply pw_below_drewN | apply below_drew1) | exact HB.out)) hb); have n1_ := Aside0.mk (hbox); have n2_ := Aside0.mk ((by rw [hg]; exact (below_size (by repeat (first | (with_reducible first | exact HB.out | apply below_alloc | apply pw_below_drewN | apply below_drew1) | exact HB.out))) : w.heap.size ≤ gb20001)); have n3_ := Aside0.mk ((by rw [hg]; exact (below_size (by repeat (first | (with_reducible first | exact HB.out | apply below_alloc | apply pw_below_drewN | apply below_drew1) | exact HB.out))) : w.heap.size ≤ gb20001)); clear HB; have HB := n0_; have BK20001 := n1_; have GW20001 := n2_; have GE20001 := n3_; clear n0_ n1_ n2_ n3_; clear hb hbox hg; have hcz21_0 : w20.cell? ⟨gb20001, 0, none⟩ = some (.int .i64 a0_0) := (blk_cell BK20001.out 0).trans rfl; have hcz21_1 : w20.cell? ⟨gb20001, 1, none⟩ = some (.string a0_1) := (blk_cell BK20001.out 1).trans rfl; have hcz21_2 : w20.cell? ⟨gb20001, 2, none⟩ = some (.string a0_2) := (blk_cell BK20001.out 2).trans rfl; have hcz21_3 : w20.cell? ⟨gb20001, 3, none⟩ = some (.int .i64 a0_3) := (blk_cell BK20001.out 3).trans rfl; have hcz21_4 : w20.cell? ⟨gb20001, 4, none⟩ = some (.string a0_4) := (blk_cell BK20001.out 4).trans rfl; have hcz21_5 : w20.cell? ⟨gb20001, 5, none⟩ = some (.slice A0_5 l0_5.length c0_5) := (blk_cell BK20001.out 5).trans rfl; have hcz21_6 : w20.cell? ⟨gb20001, 6, none⟩ = some (.slice A0_6 l0_6.length c0_6) := (blk_cell BK20001.out 6).trans rfl; have hcz21_7 : w20.cell? ⟨gb20001, 7, none⟩ = some (.int .i64 a0_7) := (blk_cell BK20001.out 7).trans rfl; have hfz21_0 := blk_frozen BK20001.out 0; have hfz21_1 := blk_frozen BK20001.out 1; have hfz21_2 := blk_frozen BK20001.out 2; have hfz21_3 := blk_frozen BK20001.out 3; have hfz21_4 := blk_frozen BK20001.out 4; have hfz21_5 := blk_frozen BK20001.out 5; have hfz21_6 := blk_frozen BK20001.out 6; have hfz21_7 := blk_frozen BK20001.out 7) | ((with_reducible refine gate_callee (f := 86) rfl ?_); refine goesL_ (some 22) rfl rfl Try.func86 (by kernel_rfl) rfl #[.agg #[.int .i64 a0_3, .string a0_4, .slice A0_5 l0_5.length c0_5], .int .i64 (wrap64 ((wrap64 (a1 - (a0_1.size : Int))) - (a0_2.size : Int)))] rfl (by (try simp only [List.map_toArray, List.map_cons, List.map_nil]); first | done | rfl | (simp only [List.length_drop, List.length_take]; rfl)) ?_; (with_reducible refine (laws_szRegex.calls k a0_3 a0_4 _ _ l0_5 (wrap64 ((wrap64 (a1 - (a0_1.size : Int))) - (a0_2.size : Int))) t20002 _ ?side1 ?side2 A9.out).mono ?_); (case side1 => repeat (first | exact (Kd.C_below HR0_5.out HB.out) | (with_reducible refine Kd.C_alloc ?_ _) | (with_reducible refine Kd.C_drewN ?_ _) | (with_reducible refine Kd.C_drew ?_))); (case side2 => exact HC0_5.out); rintro e w22 ⟨rfl, hb⟩; refine ⟨_, rfl, ?_⟩; have n0_ := Aside0.mk (blk_below (g := gb20001) (o := .cells #[.int .i64 a0_0, .string a0_1, .string a0_2, .int .i64 a0_3, .string a0_4, .slice A0_5 l0_5.length c0_5, .slice A0_6 l0_6.length c0_6, .int .i64 a0_7] 37 (0, 0)) (by (with_reducible repeat (first | refine blk_drewN ?_ _ | refine blk_drew ?_ | refine blk_alloc ?_ _)); exact BK20001.out) hb); have n1_ := Aside0.mk (below_step (by repeat (first | (with_reducible first | exact HB.out | apply below_alloc | apply pw_below_drewN | apply below_drew1 | refine below_set ?_ GE20001.out) | exact HB.out)) hb); clear BK20001; clear HB; have BK20001 := n0_; have HB := n1_; clear n0_ n1_; (try clear hb); (try clear hb2); (try clear hk); (try clear hi); have hcz23_0 : w22.cell? ⟨gb20001, 0, none⟩ = some (.int .i64 a0_0) := (blk_cell BK20001.out 0).trans rfl; have hcz23_1 : w22.cell? ⟨gb20001, 1, none⟩ = some (.string a0_1) := (blk_cell BK20001.out 1).trans rfl; have hcz23_2 : w22.cell? ⟨gb20001, 2, none⟩ = some (.string a0_2) := (blk_cell BK20001.out 2).trans rfl; have hcz23_3 : w22.cell? ⟨gb20001, 3, none⟩ = some (.int .i64 a0_3) := (blk_cell BK20001.out 3).trans rfl; have hcz23_4 : w22.cell? ⟨gb20001, 4, none⟩ = some (.string a0_4) := (blk_cell BK20001.out 4).trans rfl; have hcz23_5 : w22.cell? ⟨gb20001, 5, none⟩ = some (.slice A0_5 l0_5.length c0_5) := (blk_cell BK20001.out 5).trans rfl; have hcz23_6 : w22.cell? ⟨gb20001, 6, none⟩ = some (.slice A0_6 l0_6.length c0_6) := (blk_cell BK20001.out 6).trans rfl; have hcz23_7 : w22.cell? ⟨gb20001, 7, none⟩ = some (.int .i64 a0_7) := (blk_cell BK20001.out 7).trans rfl; have hfz23_0 := blk_frozen BK20001.out 0; have hfz23_1 := blk_frozen BK20001.out 1; have hfz23_2 := blk_frozen BK20001.out 2; have hfz23_3 := blk_frozen BK20001.out 3; have hfz23_4 := blk_frozen BK20001.out 4; have hfz23_5 := blk_frozen BK20001.out 5; have hfz23_6 := blk_frozen BK20001.out 6; have hfz23_7 := blk_frozen BK20001.out 7) | ((with_reducible refine gate_callee (f := 87) rfl ?_); refine goesL_ (some 28) rfl rfl Try.func87 (by kernel_rfl) rfl #[.slice A0_6 l0_6.length c0_6, .int .i64 t20002] rfl (by (try simp only [List.map_toArray, List.map_cons, List.map_nil]); first | done | rfl | (simp only [List.length_drop, List.length_take]; rfl)) ?_; (with_reducible refine (laws_szIntS.calls _ _ l0_6 t20002 t20003 _ ?side1 ?side2 A14.out).mono ?_); (case side1 => repeat (first | exact (Kd.C_below HR0_6.out HB.out) | (with_reducible refine Kd.C_alloc ?_ _) | (with_reducible refine Kd.C_drewN ?_ _) | (with_reducible refine Kd.C_drew ?_))); (case side2 => exact HC0_6.out); rintro e w' ⟨rfl, ⟨nd, rfl⟩⟩; refine ⟨_, rfl, ?_⟩))
          go_ret
          exact ⟨by first | rfl | (simp [errW_none, errW_some] <;> rfl) | (simp [*, errW_none, errW_some] <;> rfl), by repeat (first | (with_reducible first | exact HB.out | apply below_alloc | apply pw_below_drewN | apply below_drew1 | refine below_set ?_ GE20001.out) | exact HB.out)⟩

/-! ### laws_toConstraint: function 22 -/
def laws_toConstraint.f (k : Nat) (a0_0 : Int) (a0_1 : ByteArray) (a0_2 : ByteArray) (a0_3 : Int) (a0_4 : ByteArray) (l0_5 : List (S34)) (l0_6 : List Int) (a0_7 : Int) : Option (Int × ByteArray × ByteArray × Int × ByteArray × (List (S42)) × List Int × Int) := (laws_toRegex.f k a0_3 a0_4 l0_5).bind fun bt22004 => ((laws_toIntS.f k l0_6).bind fun t22009 => (some (a0_0, a0_1, a0_2, bt22004.1, bt22004.2.1, bt22004.2.2, t22009, a0_7)))
theorem laws_toConstraint.mono : ∀ a0 a1 a2 a3 a4 a5 a6 a7 k, LeO (laws_toConstraint.f k a0 a1 a2 a3 a4 a5 a6 a7) (laws_toConstraint.f (k + 1) a0 a1 a2 a3 a4 a5 a6 a7) := by
  intro a0 a1 a2 a3 a4 a5 a6 a7 k
  unfold laws_toConstraint.f
  repeat' first
      | (with_reducible exact laws_toIntS.mono _ _)
      | (with_reducible exact laws_toRegex.mono _ _ _ _)
      | (with_reducible exact LeO.refl _)
      | (with_reducible exact LeO.none _)
      | (with_reducible refine LeO.ite ?_ ?_)
      | (with_reducible refine LeO.bind ?_ (fun _ => ?_))
      | exact laws_toIntS.mono _ _
      | exact laws_toRegex.mono _ _ _ _
      | exact LeO.none _
      | refine LeO.ite ?_ ?_
      | refine LeO.bind ?_ (fun _ => ?_)
set_option maxHeartbeats 8000000 in
set_option maxRecDepth 100000 in
theorem laws_toConstraint.calls (k : Nat) (a0_0 : Int) (a0_1 : ByteArray) (a0_2 : ByteArray) (a0_3 : Int) (a0_4 : ByteArray) (A0_5 : Option Addr) (c0_5 : Nat) (l0_5 : List (S34)) (A0_6 : Option Addr) (c0_6 : Nat) (l0_6 : List Int) (a0_7 : Int) (r1 : Int) (r2 : ByteArray) (r3 : ByteArray) (r4 : Int) (r5 : ByteArray) (r6 : List (S42)) (r7 : List Int) (r8 : Int) (w : World) (hr0_5 : Kd.C k34 w A0_5 l0_5.length l0_5) (hc0_5 : l0_5.length ≤ c0_5) (hr0_6 : Kd.C (Kd.int .i64) w A0_6 l0_6.length l0_6) (hc0_6 : l0_6.length ≤ c0_6) (h : laws_toConstraint.f k a0_0 a0_1 a0_2 a0_3 a0_4 l0_5 l0_6 a0_7 = some (r1, r2, r3, r4, r5, r6, r7, r8)) :
    Calls Try.prog 22 #[.agg #[.int .i64 a0_0, .string a0_1, .string a0_2, .int .i64 a0_3, .string a0_4, .slice A0_5 l0_5.length c0_5, .slice A0_6 l0_6.length c0_6, .int .i64 a0_7]] w fun e w' => ∃ v5_ v6_ : Value, e = .returned (.agg #[.int .i64 r1, .string r2, .string r3, .int .i64 r4, .string r5, v5_, v6_, .int .i64 r8]) ∧ Kd.R k42 42 w' w.heap.size (fun _ => True) v5_ r6 ∧ Kd.R (Kd.int .i64) 3 w' w.heap.size (fun _ => True) v6_ r7 ∧ Below w.heap.size w w' := by
  have hu37 := Try.underlying37
  have hu44 := Try.underlying44
  have hu34 := Try.underlying34
  have hu42 := Try.underlying42
  have HR0_5 := Aside0.mk hr0_5
  have HC0_5 := Aside0.mk hc0_5
  clear hr0_5 hc0_5
  have HR0_6 := Aside0.mk hr0_6
  have HC0_6 := Aside0.mk hc0_6
  clear hr0_6 hc0_6
  have HB := Aside0.mk (Below.refl w.heap.size w)
  have H : ((laws_toRegex.f k a0_3 a0_4 l0_5).bind fun bt22004 => ((laws_toIntS.f k l0_6).bind fun t22009 => (some (a0_0, a0_1, a0_2, bt22004.1, bt22004.2.1, bt22004.2.2, t22009, a0_7)))) = some (r1, r2, r3, r4, r5, r6, r7, r8) := h
  clear h
  replace H := Option.bind_eq_some_iff.mp H
  obtain ⟨⟨t22004, t22005, t22006⟩, A20, H⟩ := H
  replace H : ((laws_toIntS.f k l0_6).bind fun t22009 => (some (a0_0, a0_1, a0_2, t22004, t22005, t22006, t22009, a0_7))) = some (r1, r2, r3, r4, r5, r6, r7, r8) := H
  have A2 := Aside0.mk A20
  clear A20
  replace H := Option.bind_eq_some_iff.mp H
  obtain ⟨t22009, A30, H⟩ := H
  replace H : (some (a0_0, a0_1, a0_2, t22004, t22005, t22006, t22009, a0_7)) = some (r1, r2, r3, r4, r5, r6, r7, r8) := H
  have A3 := Aside0.mk A30
  clear A30
  simp only [Option.some.injEq, Prod.mk.injEq] at H
  obtain ⟨rfl, rfl, rfl, rfl, rfl, rfl, rfl, rfl⟩ := H
  go_enter Try.func22, Try.ntmps22
  go_wp2_with (first | ((with_reducible refine gate_dst (N := 1) rfl ?_); refine box_event ?hg (N := 1) ?hd (cs := #[.int .i64 a0_0, .string a0_1, .string a0_2, .int .i64 a0_3, .string a0_4, .slice A0_5 l0_5.length c0_5, .slice A0_6 l0_6.length c0_6, .int .i64 a0_7]) (t := 37) ?hr ?_; (case hd => rfl); (case hg => rfl); (case hr => first | (go_simp; done) | (go_simp; rfl)); intro gb22001 hg w4 hbox hb; have n0_ := Aside0.mk (below_step (by repeat (first | (with_reducible first | exact HB.out | apply below_alloc | apply pw_below_drewN | apply below_drew1) | exact HB.out)) hb); have n1_ := Aside0.mk (hbox); have n2_ := Aside0.mk ((by rw [hg]; exact (below_size (by repeat (first | (with_reducible first | exact HB.out | apply below_alloc | apply pw_below_drewN | apply below_drew1) | exact HB.out))) : w.heap.size ≤ gb22001)); have n3_ := Aside0.mk ((by rw [hg]; exact (below_size (by repeat (first | (with_reducible first | exact HB.out | apply below_alloc | apply pw_below_drewN | apply below_drew1) | exact HB.out))) : w.heap.size ≤ gb22001)); clear HB; have HB := n0_; have BK22001 := n1_; have GW22001 := n2_; have GE22001 := n3_; clear n0_ n1_ n2_ n3_; clear hb hbox hg) | ((with_reducible refine gate_dst (N := 2) rfl ?_); refine box_event ?hg (N := 2) ?hd (cs := #[.int .i64 0, .string (⟨#[]⟩ : ByteArray), .string (⟨#[]⟩ : ByteArray), .int .i64 0, .string (⟨#[]⟩ : ByteArray), .slice none 0 0, .slice none 0 0, .int .i64 0]) (t := 44) ?hr ?_; (case hd => rfl); (case hg => rfl); (case hr => first | (go_simp; done) | (go_simp; rfl)); intro gb22002 hg w5 hbox hb; have n0_ := Aside0.mk (blk_below (g := gb22001) (o := .cells #[.int .i64 a0_0, .string a0_1, .string a0_2, .int .i64 a0_3, .string a0_4, .slice A0_5 l0_5.length c0_5, .slice A0_6 l0_6.length c0_6, .int .i64 a0_7] 37 (0, 0)) (by (with_reducible repeat (first | refine blk_drewN ?_ _ | refine blk_drew ?_ | refine blk_alloc ?_ _)); exact BK22001.out) hb); have n1_ := Aside0.mk (below_step (by repeat (first | (with_reducible first | exact HB.out | apply below_alloc | apply pw_below_drewN | apply below_drew1 | refine below_set ?_ GE22001.out) | exact HB.out)) hb); have n2_ := Aside0.mk (hbox); have n3_ := Aside0.mk ((by rw [hg]; exact (below_size (by repeat (first | (with_reducible first | exact HB.out | apply below_alloc | apply pw_below_drewN | apply below_drew1 | refine below_set ?_ GE22001.out) | exact HB.out))) : w.heap.size ≤ gb22002)); have n4_ := Aside0.mk ((by rw [hg]; exact (below_size (by repeat (first | (with_reducible first | exact HB.out | apply below_alloc | apply pw_below_drewN | apply below_drew1 | refine below_set ?_ GE22001.out) | exact HB.out))) : w.heap.size ≤ gb22002)); have n5_ := Aside0.mk ((by rw [hg]; exact Nat.ne_of_lt (blk_lt (g := gb22001) (o := .cells #[.int .i64 a0_0, .string a0_1, .string a0_2, .int .i64 a0_3, .string a0_4, .slice A0_5 l0_5.length c0_5, .slice A0_6 l0_6.length c0_6, .int .i64 a0_7] 37 (0, 0)) (by (with_reducible repeat (first | refine blk_drewN ?_ _ | refine blk_drew ?_ | refine blk_alloc ?_ _)); exact BK22001.out)) : gb22001 ≠ gb22002)); have n6_ := Aside0.mk ((by rw [hg]; exact Nat.ne_of_gt (blk_lt (g := gb22001) (o := .cells #[.int .i64 a0_0, .string a0_1, .string a0_2, .int .i64 a0_3, .string a0_4, .slice A0_5 l0_5.length c0_5, .slice A0_6 l0_6.length c0_6, .int .i64 a0_7] 37 (0, 0)) (by (with_reducible repeat (first | refine blk_drewN ?_ _ | refine blk_drew ?_ | refine blk_alloc ?_ _)); exact BK22001.out)) : gb22002 ≠ gb22001)); clear BK22001; clear HB; have BK22001 := n0_; have HB := n1_; have BK22002 := n2_; have GW22002 := n3_; have GE22002 := n4_; have NB22001_22002 := n5_; have NB22002_22001 := n6_; clear n0_ n1_ n2_ n3_ n4_ n5_ n6_; clear hb hbox hg) | ((with_reducible refine gate_dst (N := 3) rfl ?_); refine box_event ?hg (N := 3) ?hd (cs := #[.int .i64 0, .string (⟨#[]⟩ : ByteArray), .string (⟨#[]⟩ : ByteArray), .int .i64 0, .string (⟨#[]⟩ : ByteArray), .slice none 0 0, .slice none 0 0, .int .i64 0]) (t := 44) ?hr ?_; (case hd => rfl); (case hg => rfl); (case hr => first | (go_simp; done) | (go_simp; rfl)); intro gb22003 hg w6 hbox hb; have n0_ := Aside0.mk (blk_below (g := gb22001) (o := .cells #[.int .i64 a0_0, .string a0_1, .string a0_2, .int .i64 a0_3, .string a0_4, .slice A0_5 l0_5.length c0_5, .slice A0_6 l0_6.length c0_6, .int .i64 a0_7] 37 (0, 0)) (by (with_reducible repeat (first | refine blk_drewN ?_ _ | refine blk_drew ?_ | refine blk_alloc ?_ _)); exact BK22001.out) hb); have n1_ := Aside0.mk (blk_below (g := gb22002) (o := .cells #[.int .i64 0, .string (⟨#[]⟩ : ByteArray), .string (⟨#[]⟩ : ByteArray), .int .i64 0, .string (⟨#[]⟩ : ByteArray), .slice none 0 0, .slice none 0 0, .int .i64 0] 44 (0, 0)) (by (with_reducible repeat (first | refine blk_drewN ?_ _ | refine blk_drew ?_ | refine blk_alloc ?_ _)); exact BK22002.out) hb); have n2_ := Aside0.mk (below_step (by repeat (first | (with_reducible first | exact HB.out | apply below_alloc | apply pw_below_drewN | apply below_drew1 | refine below_set ?_ GE22001.out | refine below_set ?_ GE22002.out) | exact HB.out)) hb); have n3_ := Aside0.mk (hbox); have n4_ := Aside0.mk ((by rw [hg]; exact (below_size (by repeat (first | (with_reducible first | exact HB.out | apply below_alloc | apply pw_below_drewN | apply below_drew1 | refine below_set ?_ GE22001.out | refine below_set ?_ GE22002.out) | exact HB.out))) : w.heap.size ≤ gb22003)); have n5_ := Aside0.mk ((by rw [hg]; exact (below_size (by repeat (first | (with_reducible first | exact HB.out | apply below_alloc | apply pw_below_drewN | apply below_drew1 | refine below_set ?_ GE22001.out | refine below_set ?_ GE22002.out) | exact HB.out))) : w.heap.size ≤ gb22003)); have n6_ := Aside0.mk ((by rw [hg]; exact Nat.ne_of_lt (blk_lt (g := gb22001) (o := .cells #[.int .i64 a0_0, .string a0_1, .string a0_2, .int .i64 a0_3, .string a0_4, .slice A0_5 l0_5.length c0_5, .slice A0_6 l0_6.length c0_6, .int .i64 a0_7] 37 (0, 0)) (by (with_reducible repeat (first | refine blk_drewN ?_ _ | refine blk_drew ?_ | refine blk_alloc ?_ _)); exact BK22001.out)) : gb22001 ≠ gb22003)); have n7_ := Aside0.mk ((by rw [hg]; exact Nat.ne_of_gt (blk_lt (g := gb22001) (o := .cells #[.int .i64 a0_0, .string a0_1, .string a0_2, .int .i64 a0_3, .string a0_4, .slice A0_5 l0_5.length c0_5, .slice A0_6 l0_6.length c0_6, .int .i64 a0_7] 37 (0, 0)) (by (with_reducible repeat (first | refine blk_drewN ?_ _ | refine blk_drew ?_ | refine blk_alloc ?_ _)); exact BK22001.out)) : gb22003 ≠ gb22001)); have n8_ := Aside0.mk ((by rw [hg]; exact Nat.ne_of_lt (blk_lt (g := gb22002) (o := .cells #[.int .i64 0, .string (⟨#[]⟩ : ByteArray), .string (⟨#[]⟩ : ByteArray), .int .i64 0, .string (⟨#[]⟩ : ByteArray), .slice none 0 0, .slice none 0 0, .int .i64 0] 44 (0, 0)) (by (with_reducible repeat (first | refine blk_drewN ?_ _ | refine blk_drew ?_ | refine blk_alloc ?_ _)); exact BK22002.out)) : gb22002 ≠ gb22003)); have n9_ := Aside0.mk ((by rw [hg]; exact Nat.ne_of_gt (blk_lt (g := gb22002) (o := .cells #[.int .i64 0, .string (⟨#[]⟩ : ByteArray), .string (⟨#[]⟩ : ByteArray), .int .i64 0, .string (⟨#[]⟩ : ByteArray), .slice none 0 0, .slice none 0 0, .int .i64 0] 44 (0, 0)) (by (with_reducible repeat (first | refine blk_drewN ?_ _ | refine blk_drew ?_ | refine blk_alloc ?_ _)); exact BK22002.out)) : gb22003 ≠ gb22002)); clear BK22001; clear BK22002; clear HB; have BK22001 := n0_; have BK22002 := n1_; have HB := n2_; have BK22003 := n3_; have GW22003 := n4_; have GE22003 := n5_; have NB22001_22003 := n6_; have NB22003_22001 := n7_; have NB22002_22003 := n8_; have NB22003_22002 := n9_; clear n0_ n1_ n2_ n3_ n4_ n5_ n6_ n7_ n8_ n9_; clear hb hbox hg; have hnb7 := NB22001_22002.out; have hnc7 := NB22002_22001.out; have hnb8 := NB22001_22003.out; have hnc8 := NB22003_22001.out; have hcz9_0 : w6.cell? ⟨gb22001, 0, none⟩ = some (.int .i64 a0_0) := (blk_cell BK22001.out 0).trans rfl; have hcz9_1 : w6.cell? ⟨gb22001, 1, none⟩ = some (.string a0_1) := (blk_cell BK22001.out 1).trans rfl; have hcz9_2 : w6.cell? ⟨gb22001, 2, none⟩ = some (.string a0_2) := (blk_cell BK22001.out 2).trans rfl; have hcz9_3 : w6.cell? ⟨gb22001, 3, none⟩ = some (.int .i64 a0_3) := (blk_cell BK22001.out 3).trans rfl; have hcz9_4 : w6.cell? ⟨gb22001, 4, none⟩ = some (.string a0_4) := (blk_cell BK22001.out 4).trans rfl; have hcz9_5 : w6.cell? ⟨gb22001, 5, none⟩ = some (.slice A0_5 l0_5.length c0_5) := (blk_cell BK22001.out 5).trans rfl; have hcz9_6 : w6.cell? ⟨gb22001, 6, none⟩ = some (.slice A0_6 l0_6.length c0_6) := (blk_cell BK22001.out 6).trans rfl; have hcz9_7 : w6.cell? ⟨gb22001, 7, none⟩ = some (.int .i64 a0_7) := (blk_cell BK22001.out 7).trans rfl; have hfz9_0 := blk_frozen BK22001.out 0; have hfz9_1 := blk_frozen BK22001.out 1; have hfz9_2 := blk_frozen BK22001.out 2; have hfz9_3 := blk_frozen BK22001.out 3; have hfz9_4 := blk_frozen BK22001.out 4; have hfz9_5 := blk_frozen BK22001.out 5; have hfz9_6 := blk_frozen BK22001.out 6; have hfz9_7 := blk_frozen BK22001.out 7; have hnb10 := NB22003_22002.out; have hnc10 := NB22002_22003.out; have hcz11_0 : w6.cell? ⟨gb22003, 0, none⟩ = some (.int .i64 0) := (blk_cell BK22003.out 0).trans rfl; have hcz11_1 : w6.cell? ⟨gb22003, 1, none⟩ = some (.string (⟨#[]⟩ : ByteArray)) := (blk_cell BK22003.out 1).trans rfl; have hcz11_2 : w6.cell? ⟨gb22003, 2, none⟩ = some (.string (⟨#[]⟩ : ByteArray)) := (blk_cell BK22003.out 2).trans rfl; have hcz11_3 : w6.cell? ⟨gb22003, 3, none⟩ = some (.int .i64 0) := (blk_cell BK22003.out 3).trans rfl; have hcz11_4 : w6.cell? ⟨gb22003, 4, none⟩ = some (.string (⟨#[]⟩ : ByteArray)) := (blk_cell BK22003.out 4).trans rfl; have hcz11_5 : w6.cell? ⟨gb22003, 5, none⟩ = some (.slice none 0 0) := (blk_cell BK22003.out 5).trans rfl; have hcz11_6 : w6.cell? ⟨gb22003, 6, none⟩ = some (.slice none 0 0) := (blk_cell BK22003.out 6).trans rfl; have hcz11_7 : w6.cell? ⟨gb22003, 7, none⟩ = some (.int .i64 0) := (blk_cell BK22003.out 7).trans rfl; have hfz11_0 := blk_frozen BK22003.out 0; have hfz11_1 := blk_frozen BK22003.out 1; have hfz11_2 := blk_frozen BK22003.out 2; have hfz11_3 := blk_frozen BK22003.out 3; have hfz11_4 := blk_frozen BK22003.out 4; have hfz11_5 := blk_frozen BK22003.out 5; have hfz11_6 := blk_frozen BK22003.out 6; have hfz11_7 := blk_frozen BK22003.out 7) | ((with_reducible refine gate_callee (f := 92) rfl ?_); refine goesL_ (some 15) rfl rfl Try.func92 (by kernel_rfl) rfl #[.agg #[.int .i64 a0_3, .string a0_4, .slice A0_5 l0_5.length c0_5]] rfl (by (try simp only [List.map_toArray, List.map_cons, List.map_nil]); first | done | rfl | (simp only [List.length_drop, List.length_take]; rfl)) ?_; (with_reducible refine (laws_toRegex.calls k a0_3 a0_4 _ _ l0_5 t22004 t22005 t22006 _ ?side1 ?side2 A2.out).mono ?_); (case side1 => exact Kd.C_below HR0_5.out (by repeat (first | (with_reducible first | exact HB.out | apply below_alloc | apply pw_below_drewN | apply below_drew1 | refine below_set ?_ GE22001.out | refine below_set ?_ GE22002.out | refine below_set ?_ GE22003.out) | exact HB.out))); (case side2 => exact HC0_5.out); rintro e w12 ⟨v22007, rfl, ho0, hb⟩; refine ⟨_, rfl, ?_⟩; have n0_ := Aside0.mk (Kd.R_lower ho0 (below_size (by repeat (first | (with_reducible first | exact HB.out | apply below_alloc | apply pw_below_drewN | apply below_drew1 | refine below_set ?_ GE22001.out | refine below_set ?_ GE22002.out | refine below_set ?_ GE22003.out) | exact HB.out)))); have n1_ := Aside0.mk (blk_below (g := gb22001) (o := .cells #[.int .i64 a0_0, .string a0_1, .string a0_2, .int .i64 a0_3, .string a0_4, .slice A0_5 l0_5.length c0_5, .slice A0_6 l0_6.length c0_6, .int .i64 a0_7] 37 (0, 0)) (by (with_reducible repeat (first | refine blk_drewN ?_ _ | refine blk_drew ?_ | refine blk_alloc ?_ _)); refine blk_far ?_ NB22001_22003.out _; (with_reducible repeat (first | refine blk_drewN ?_ _ | refine blk_drew ?_ | refine blk_alloc ?_ _)); refine blk_far ?_ NB22001_22003.out _; (with_reducible repeat (first | refine blk_drewN ?_ _ | refine blk_drew ?_ | refine blk_alloc ?_ _)); refine blk_far ?_ NB22001_22003.out _; (with_reducible repeat (first | refine blk_drewN ?_ _ | refine blk_drew ?_ | refine blk_alloc ?_ _)); exact BK22001.out) hb); have n2_ := Aside0.mk (blk_below (g := gb22002) (o := .cells #[.int .i64 0, .string (⟨#[]⟩ : ByteArray), .string (⟨#[]⟩ : ByteArray), .int .i64 0, .string (⟨#[]⟩ : ByteArray), .slice none 0 0, .slice none 0 0, .int .i64 0] 44 (0, 0)) (by (with_reducible repeat (first | refine blk_drewN ?_ _ | refine blk_drew ?_ | refine blk_alloc ?_ _)); refine blk_far ?_ NB22002_22003.out _; (with_reducible repeat (first | refine blk_drewN ?_ _ | refine blk_drew ?_ | refine blk_alloc ?_ _)); refine blk_far ?_ NB22002_22003.out _; (with_reducible repeat (first | refine blk_drewN ?_ _ | refine blk_drew ?_ | refine blk_alloc ?_ _)); refine blk_far ?_ NB22002_22003.out _; (with_reducible repeat (first | refine blk_drewN ?_ _ | refine blk_drew ?_ | refine blk_alloc ?_ _)); exact BK22002.out) hb); have n3_ := Aside0.mk (blk_below (g := gb22003) (o := .cells #[.int .i64 a0_0, .string a0_1, .string a0_2, .int .i64 0, .string (⟨#[]⟩ : ByteArray), .slice none 0 0, .slice none 0 0, .int .i64 0] 44 (0, 0)) (by (with_reducible repeat (first | refine blk_drewN ?_ _ | refine blk_drew ?_ | refine blk_alloc ?_ _)); refine blk_put (cs := #[.int .i64 a0_0, .string a0_1, .string (⟨#[]⟩ : ByteArray), .int .i64 0, .string (⟨#[]⟩ : ByteArray), .slice none 0 0, .slice none 0 0, .int .i64 0]) ?_ 2 _ rfl; (with_reducible repeat (first | refine blk_drewN ?_ _ | refine blk_drew ?_ | refine blk_alloc ?_ _)); refine blk_put (cs := #[.int .i64 a0_0, .string (⟨#[]⟩ : ByteArray), .string (⟨#[]⟩ : ByteArray), .int .i64 0, .string (⟨#[]⟩ : ByteArray), .slice none 0 0, .slice none 0 0, .int .i64 0]) ?_ 1 _ rfl; (with_reducible repeat (first | refine blk_drewN ?_ _ | refine blk_drew ?_ | refine blk_alloc ?_ _)); refine blk_put (cs := #[.int .i64 0, .string (⟨#[]⟩ : ByteArray), .string (⟨#[]⟩ : ByteArray), .int .i64 0, .string (⟨#[]⟩ : ByteArray), .slice none 0 0, .slice none 0 0, .int .i64 0]) ?_ 0 _ rfl; (with_reducible repeat (first | refine blk_drewN ?_ _ | refine blk_drew ?_ | refine blk_alloc ?_ _)); exact BK22003.out) hb); have n4_ := Aside0.mk (below_step (by repeat (first | (with_reducible first | exact HB.out | apply below_alloc | apply pw_below_drewN | apply below_drew1 | refine below_set ?_ GE22001.out | refine below_set ?_ GE22002.out | refine below_set ?_ GE22003.out) | exact HB.out)) hb); clear BK22001; clear BK22002; clear BK22003; clear HB; have HO22008 := n0_; have BK22001 := n1_; have BK22002 := n2_; have BK22003 := n3_; have HB := n4_; clear n0_ n1_ n2_ n3_ n4_; (try clear hb); (try clear hb2); (try clear hk); (try clear hi); (try clear ho0); have hcz13_0 : w12.cell? ⟨gb22003, 0, none⟩ = some (.int .i64 a0_0) := (blk_cell BK22003.out 0).trans rfl; have hcz13_1 : w12.cell? ⟨gb22003, 1, none⟩ = some (.string a0_1) := (blk_cell BK22003.out 1).trans rfl; have hcz13_2 : w12.cell? ⟨gb22003, 2, none⟩ = some (.string a0_2) := (blk_cell BK22003.out 2).trans rfl; have hcz13_3 : w12.cell? ⟨gb22003, 3, none⟩ = some (.int .i64 0) := (blk_cell BK22003.out 3).trans rfl; have hcz13_4 : w12.cell? ⟨gb22003, 4, none⟩ = some (.string (⟨#[]⟩ : ByteArray)) := (blk_cell BK22003.out 4).trans rfl; have hcz13_5 : w12.cell? ⟨gb22003, 5, none⟩ = some (.slice none 0 0) := (blk_cell BK22003.out 5).trans rfl; have hcz13_6 : w12.cell? ⟨gb22003, 6, none⟩ = some (.slice none 0 0) := (blk_cell BK22003.out 6).trans rfl; have hcz13_7 : w12.cell? ⟨gb22003, 7, none⟩ = some (.int .i64 0) := (blk_cell BK22003.out 7).trans rfl; have hfz13_0 := blk_frozen BK22003.out 0; have hfz13_1 := blk_frozen BK22003.out 1; have hfz13_2 := blk_frozen BK22003.out 2; have hfz13_3 := blk_frozen BK22003.out 3; have hfz13_4 := blk_frozen BK22003.out 4; have hfz13_5 := blk_frozen BK22003.out 5; have hfz13_6 := blk_frozen BK22003.out 6; have hfz13_7 := blk_frozen BK22003.out 7; obtain ⟨Ao14, co14, eo14⟩ := Kd.R_slice HO22008.out; subst eo14; have hcz15_0 : w12.cell? ⟨gb22001, 0, none⟩ = some (.int .i64 a0_0) := (blk_cell BK22001.out 0).trans rfl; have hcz15_1 : w12.cell? ⟨gb22001, 1, none⟩ = some (.string a0_1) := (blk_cell BK22001.out 1).trans rfl; have hcz15_2 : w12.cell? ⟨gb22001, 2, none⟩ = some (.string a0_2) := (blk_cell BK22001.out 2).trans rfl; have hcz15_3 : w12.cell? ⟨gb22001, 3, none⟩ = some (.int .i64 a0_3) := (blk_cell BK22001.out 3).trans rfl; have hcz15_4 : w12.cell? ⟨gb22001, 4, none⟩ = some (.string a0_4) := (blk_cell BK22001.out 4).trans rfl; have hcz15_5 : w12.cell? ⟨gb22001, 5, none⟩ = some (.slice A0_5 l0_5.length c0_5) := (blk_cell BK22001.out 5).trans rfl; have hcz15_6 : w12.cell? ⟨gb22001, 6, none⟩ = some (.slice A0_6 l0_6.length c0_6) := (blk_cell BK22001.out 6).trans rfl; have hcz15_7 : w12.cell? ⟨gb22001, 7, none⟩ = some (.int .i64 a0_7) := (blk_cell BK22001.out 7).trans rfl; have hfz15_0 := blk_frozen BK22001.out 0; have hfz15_1 := blk_frozen BK22001.out 1; have hfz15_2 := blk_frozen BK22001.out 2; have hfz15_3 := blk_frozen BK22001.out 3; have hfz15_4 := blk_frozen BK22001.out 4; have hfz15_5 := blk_frozen BK22001.out 5; have hfz15_6 := blk_frozen BK22001.out 6; have hfz15_7 := blk_frozen BK22001.out 7) | ((with_reducible refine gate_callee (f := 93) rfl ?_); refine goesL_ (some 19) rfl rfl Try.func93 (by kernel_rfl) rfl #[.slice A0_6 l0_6.length c0_6] rfl (by (try simp only [List.map_toArray, List.map_cons, List.map_nil]); first | done | rfl | (simp only [List.length_drop, List.length_take]; rfl)) ?_; (with_reducible refine (laws_toIntS.calls k _ _ l0_6 t22009 _ ?side1 ?side2 A3.out).mono ?_); (case side1 => exact Kd.C_below HR0_6.out (by repeat (first | (with_reducible first | exact HB.out | apply below_alloc | apply pw_below_drewN | apply below_drew1 | refine below_set ?_ GE22001.out | refine below_set ?_ GE22002.out | refine below_set ?_ GE22003.out) | exact HB.out))); (case side2 => exact HC0_6.out); rintro e w16 ⟨v22010, rfl, ho0, hb⟩; refine ⟨_, rfl, ?_⟩; have n0_ := Aside0.mk (Kd.R_below (by (with_reducible repeat (first | apply Kd.R_alloc | apply Kd.R_drewN | apply Kd.R_drew)); exact (Kd.R_mono (Kd.R_far (p := ⟨gb22003, 5, none⟩) (Kd.R_far (p := ⟨gb22003, 4, none⟩) (Kd.R_far (p := ⟨gb22003, 3, none⟩) (Kd.R_types HO22008.out BK22003.out (by decide)) (fun _ hk => hk.2) (.int .i64 t22004)) (fun _ hk => hk.2) (.string t22005)) (fun _ hk => hk.2) (.slice Ao14 t22006.length co14)) (fun _ h_ => h_.1))) hb); have n1_ := Aside0.mk (Kd.R_lower ho0 (below_size (by repeat (first | (with_reducible first | exact HB.out | apply below_alloc | apply pw_below_drewN | apply below_drew1 | refine below_set ?_ GE22001.out | refine below_set ?_ GE22002.out | refine below_set ?_ GE22003.out) | exact HB.out)))); have n2_ := Aside0.mk (blk_below (g := gb22001) (o := .cells #[.int .i64 a0_0, .string a0_1, .string a0_2, .int .i64 a0_3, .string a0_4, .slice A0_5 l0_5.length c0_5, .slice A0_6 l0_6.length c0_6, .int .i64 a0_7] 37 (0, 0)) (by (with_reducible repeat (first | refine blk_drewN ?_ _ | refine blk_drew ?_ | refine blk_alloc ?_ _)); refine blk_far ?_ NB22001_22003.out _; (with_reducible repeat (first | refine blk_drewN ?_ _ | refine blk_drew ?_ | refine blk_alloc ?_ _)); refine blk_far ?_ NB22001_22003.out _; (with_reducible repeat (first | refine blk_drewN ?_ _ | refine blk_drew ?_ | refine blk_alloc ?_ _)); refine blk_far ?_ NB22001_22003.out _; (with_reducible repeat (first | refine blk_drewN ?_ _ | refine blk_drew ?_ | refine blk_alloc ?_ _)); exact BK22001.out) hb); have n3_ := Aside0.mk (blk_below (g := gb22002) (o := .cells #[.int .i64 0, .string (⟨#[]⟩ : ByteArray), .string (⟨#[]⟩ : ByteArray), .int .i64 0, .string (⟨#[]⟩ : ByteArray), .slice none 0 0, .slice none 0 0, .int .i64 0] 44 (0, 0)) (by (with_reducible repeat (first | refine blk_drewN ?_ _ | refine blk_drew ?_ | refine blk_alloc ?_ _)); refine blk_far ?_ NB22002_22003.out _; (with_reducible repeat (first | refine blk_drewN ?_ _ | refine blk_drew ?_ | refine blk_alloc ?_ _)); refine blk_far ?_ NB22002_22003.out _; (with_reducible repeat (first | refine blk_drewN ?_ _ | refine blk_drew ?_ | refine blk_alloc ?_ _)); refine blk_far ?_ NB22002_22003.out _; (with_reducible repeat (first | refine blk_drewN ?_ _ | refine blk_drew ?_ | refine blk_alloc ?_ _)); exact BK22002.out) hb); have n4_ := Aside0.mk (blk_below (g := gb22003) (o := .cells #[.int .i64 a0_0, .string a0_1, .string a0_2, .int .i64 t22004, .string t22005, .slice Ao14 t22006.length co14, .slice none 0 0, .int .i64 0] 44 (0, 0)) (by (with_reducible repeat (first | refine blk_drewN ?_ _ | refine blk_drew ?_ | refine blk_alloc ?_ _)); refine blk_put (cs := #[.int .i64 a0_0, .string a0_1, .string a0_2, .int .i64 t22004, .string t22005, .slice none 0 0, .slice none 0 0, .int .i64 0]) ?_ 5 _ rfl; (with_reducible repeat (first | refine blk_drewN ?_ _ | refine blk_drew ?_ | refine blk_alloc ?_ _)); refine blk_put (cs := #[.int .i64 a0_0, .string a0_1, .string a0_2, .int .i64 t22004, .string (⟨#[]⟩ : ByteArray), .slice none 0 0, .slice none 0 0, .int .i64 0]) ?_ 4 _ rfl; (with_reducible repeat (first | refine blk_drewN ?_ _ | refine blk_drew ?_ | refine blk_alloc ?_ _)); refine blk_put (cs := #[.int .i64 a0_0, .string a0_1, .string a0_2, .int .i64 0, .string (⟨#[]⟩ : ByteArray), .slice none 0 0, .slice none 0 0, .int .i64 0]) ?_ 3 _ rfl; (with_reducible repeat (first | refine blk_drewN ?_ _ | refine blk_drew ?_ | refine blk_alloc ?_ _)); exact BK22003.out) hb); have n5_ := Aside0.mk (below_step (by repeat (first | (with_reducible first | exact HB.out | apply below_alloc | apply pw_below_drewN | apply below_drew1 | refine below_set ?_ GE22001.out | refine below_set ?_ GE22002.out | refine below_set ?_ GE22003.out) | exact HB.out)) hb); clear HO22008; clear BK22001; clear BK22002; clear BK22003; clear HB; have HO22008 := n0_; have HO22011 := n1_; have BK22001 := n2_; have BK22002 := n3_; have BK22003 := n4_; have HB := n5_; clear n0_ n1_ n2_ n3_ n4_ n5_; (try clear hb); (try clear hb2); (try clear hk); (try clear hi); (try clear ho0); obtain ⟨Ao17, co17, eo17⟩ := Kd.R_slice HO22011.out; subst eo17; have hcz18_0 : w16.cell? ⟨gb22003, 0, none⟩ = some (.int .i64 a0_0) := (blk_cell BK22003.out 0).trans rfl; have hcz18_1 : w16.cell? ⟨gb22003, 1, none⟩ = some (.string a0_1) := (blk_cell BK22003.out 1).trans rfl; have hcz18_2 : w16.cell? ⟨gb22003, 2, none⟩ = some (.string a0_2) := (blk_cell BK22003.out 2).trans rfl; have hcz18_3 : w16.cell? ⟨gb22003, 3, none⟩ = some (.int .i64 t22004) := (blk_cell BK22003.out 3).trans rfl; have hcz18_4 : w16.cell? ⟨gb22003, 4, none⟩ = some (.string t22005) := (blk_cell BK22003.out 4).trans rfl; have hcz18_5 : w16.cell? ⟨gb22003, 5, none⟩ = some (.slice Ao14 t22006.length co14) := (blk_cell BK22003.out 5).trans rfl; have hcz18_6 : w16.cell? ⟨gb22003, 6, none⟩ = some (.slice none 0 0) := (blk_cell BK22003.out 6).trans rfl; have hcz18_7 : w16.cell? ⟨gb22003, 7, none⟩ = some (.int .i64 0) := (blk_cell BK22003.out 7).trans rfl; have hfz18_0 := blk_frozen BK22003.out 0; have hfz18_1 := blk_frozen BK22003.out 1; have hfz18_2 := blk_frozen BK22003.out 2; have hfz18_3 := blk_frozen BK22003.out 3; have hfz18_4 := blk_frozen BK22003.out 4; have hfz18_5 := blk_frozen BK22003.out 5; have hfz18_6 := blk_frozen BK22003.out 6; have hfz18_7 := blk_frozen BK22003.out 7; have hcz19_0 : w16.cell? ⟨gb22001, 0, none⟩ = some (.int .i64 a0_0) := (blk_cell BK22001.out 0).trans rfl; have hcz19_1 : w16.cell? ⟨gb22001, 1, none⟩ = some (.string a0_1) := (blk_cell BK22001.out 1).trans rfl; have hcz19_2 : w16.cell? ⟨gb22001, 2, none⟩ = some (.string a0_2) := (blk_cell BK22001.out 2).trans rfl; have hcz19_3 : w16.cell? ⟨gb22001, 3, none⟩ = some (.int .i64 a0_3) := (blk_cell BK22001.out 3).trans rfl; have hcz19_4 : w16.cell? ⟨gb22001, 4, none⟩ = some (.string a0_4) := (blk_cell BK22001.out 4).trans rfl; have hcz19_5 : w16.cell? ⟨gb22001, 5, none⟩ = some (.slice A0_5 l0_5.length c0_5) := (blk_cell BK22001.out 5).trans rfl; have hcz19_6 : w16.cell? ⟨gb22001, 6, none⟩ = some (.slice A0_6 l0_6.length c0_6) := (blk_cell BK22001.out 6).trans rfl; have hcz19_7 : w16.cell? ⟨gb22001, 7, none⟩ = some (.int .i64 a0_7) := (blk_cell BK22001.out 7).trans rfl; have hfz19_0 := blk_frozen BK22001.out 0; have hfz19_1 := blk_frozen BK22001.out 1; have hfz19_2 := blk_frozen BK22001.out 2; have hfz19_3 := blk_frozen BK22001.out 3; have hfz19_4 := blk_frozen BK22001.out 4; have hfz19_5 := blk_frozen BK22001.out 5; have hfz19_6 := blk_frozen BK22001.out 6; have hfz19_7 := blk_frozen BK22001.out 7; have hcz20_0 : w16.cell? ⟨gb22002, 0, none⟩ = some (.int .i64 0) := (blk_cell BK22002.out 0).trans rfl; have hcz20_1 : w16.cell? ⟨gb22002, 1, none⟩ = some (.string (⟨#[]⟩ : ByteArray)) := (blk_cell BK22002.out 1).trans rfl; have hcz20_2 : w16.cell? ⟨gb22002, 2, none⟩ = some (.string (⟨#[]⟩ : ByteArray)) := (blk_cell BK22002.out 2).trans rfl; have hcz20_3 : w16.cell? ⟨gb22002, 3, none⟩ = some (.int .i64 0) := (blk_cell BK22002.out 3).trans rfl; have hcz20_4 : w16.cell? ⟨gb22002, 4, none⟩ = some (.string (⟨#[]⟩ : ByteArray)) := (blk_cell BK22002.out 4).trans rfl; have hcz20_5 : w16.cell? ⟨gb22002, 5, none⟩ = some (.slice none 0 0) := (blk_cell BK22002.out 5).trans rfl; have hcz20_6 : w16.cell? ⟨gb22002, 6, none⟩ = some (.slice none 0 0) := (blk_cell BK22002.out 6).trans rfl; have hcz20_7 : w16.cell? ⟨gb22002, 7, none⟩ = some (.int .i64 0) := (blk_cell BK22002.out 7).trans rfl; have hfz20_0 := blk_frozen BK22002.out 0; have hfz20_1 := blk_frozen BK22002.out 1; have hfz20_2 := blk_frozen BK22002.out 2; have hfz20_3 := blk_frozen BK22002.out 3; have hfz20_4 := blk_frozen BK22002.out 4; have hfz20_5 := blk_frozen BK22002.out 5; have hfz20_6 := blk_frozen BK22002.out 6; have hfz20_7 := blk_frozen BK22002.out 7))
  refine bodyPost_ret (results_cell_row rfl _ _ gb22002 44 #[.int .i64 a0_0, .string a0_1, .string a0_2, .int .i64 t22004, .string t22005, .slice Ao14 t22006.length co14, .slice Ao17 t22009.length co17, .int .i64 a0_7] (0, 0) _ rfl (by (with_reducible repeat (first | refine blk_drewN ?_ _ | refine blk_drew ?_ | refine blk_alloc ?_ _)); refine blk_put (cs := #[.int .i64 a0_0, .string a0_1, .string a0_2, .int .i64 t22004, .string t22005, .slice Ao14 t22006.length co14, .slice Ao17 t22009.length co17, .int .i64 0]) ?_ 7 _ rfl; (with_reducible repeat (first | refine blk_drewN ?_ _ | refine blk_drew ?_ | refine blk_alloc ?_ _)); refine blk_put (cs := #[.int .i64 a0_0, .string a0_1, .string a0_2, .int .i64 t22004, .string t22005, .slice Ao14 t22006.length co14, .slice none 0 0, .int .i64 0]) ?_ 6 _ rfl; (with_reducible repeat (first | refine blk_drewN ?_ _ | refine blk_drew ?_ | refine blk_alloc ?_ _)); refine blk_put (cs := #[.int .i64 a0_0, .string a0_1, .string a0_2, .int .i64 t22004, .string t22005, .slice none 0 0, .slice none 0 0, .int .i64 0]) ?_ 5 _ rfl; (with_reducible repeat (first | refine blk_drewN ?_ _ | refine blk_drew ?_ | refine blk_alloc ?_ _)); refine blk_put (cs := #[.int .i64 a0_0, .string a0_1, .string a0_2, .int .i64 t22004, .string (⟨#[]⟩ : ByteArray), .slice none 0 0, .slice none 0 0, .int .i64 0]) ?_ 4 _ rfl; (with_reducible repeat (first | refine blk_drewN ?_ _ | refine blk_drew ?_ | refine blk_alloc ?_ _)); refine blk_put (cs := #[.int .i64 a0_0, .string a0_1, .string a0_2, .int .i64 0, .string (⟨#[]⟩ : ByteArray), .slice none 0 0, .slice none 0 0, .int .i64 0]) ?_ 3 _ rfl; (with_reducible repeat (first | refine blk_drewN ?_ _ | refine blk_drew ?_ | refine blk_alloc ?_ _)); refine blk_put (cs := #[.int .i64 a0_0, .string a0_1, .string (⟨#[]⟩ : ByteArray), .int .i64 0, .string (⟨#[]⟩ : ByteArray), .slice none 0 0, .slice none 0 0, .int .i64 0]) ?_ 2 _ rfl; (with_reducible repeat (first | refine blk_drewN ?_ _ | refine blk_drew ?_ | refine blk_alloc ?_ _)); refine blk_put (cs := #[.int .i64 a0_0, .string (⟨#[]⟩ : ByteArray), .string (⟨#[]⟩ : ByteArray), .int .i64 0, .string (⟨#[]⟩ : ByteArray), .slice none 0 0, .slice none 0 0, .int .i64 0]) ?_ 1 _ rfl; (with_reducible repeat (first | refine blk_drewN ?_ _ | refine blk_drew ?_ | refine blk_alloc ?_ _)); refine blk_put (cs := #[.int .i64 0, .string (⟨#[]⟩ : ByteArray), .string (⟨#[]⟩ : ByteArray), .int .i64 0, .string (⟨#[]⟩ : ByteArray), .slice none 0 0, .slice none 0 0, .int .i64 0]) ?_ 0 _ rfl; (with_reducible repeat (first | refine blk_drewN ?_ _ | refine blk_drew ?_ | refine blk_alloc ?_ _)); refine blk_far ?_ NB22002_22003.out _; (with_reducible repeat (first | refine blk_drewN ?_ _ | refine blk_drew ?_ | refine blk_alloc ?_ _)); refine blk_far ?_ NB22002_22003.out _; (with_reducible repeat (first | refine blk_drewN ?_ _ | refine blk_drew ?_ | refine blk_alloc ?_ _)); exact BK22002.out) Try.underlying44 rfl (by kernel_rfl)) rfl ?_
  exact ⟨_, _, by first | rfl | (simp [errW_none, errW_some] <;> rfl) | (simp [*, errW_none, errW_some] <;> rfl), by (with_reducible repeat (first | apply Kd.R_alloc | apply Kd.R_drewN | apply Kd.R_drew)); exact Kd.R_mono (Kd.R_far (p := ⟨gb22002, 7, none⟩) (Kd.R_far (p := ⟨gb22002, 6, none⟩) (Kd.R_far (p := ⟨gb22002, 5, none⟩) (Kd.R_far (p := ⟨gb22002, 4, none⟩) (Kd.R_far (p := ⟨gb22002, 3, none⟩) (Kd.R_far (p := ⟨gb22002, 2, none⟩) (Kd.R_far (p := ⟨gb22002, 1, none⟩) (Kd.R_far (p := ⟨gb22002, 0, none⟩) (Kd.R_far (p := ⟨gb22003, 7, none⟩) (Kd.R_far (p := ⟨gb22003, 6, none⟩) (Kd.R_types (Kd.R_types HO22008.out BK22003.out (by decide)) BK22002.out (by decide)) (fun _ hk => hk.1.2) (.slice Ao17 t22009.length co17)) (fun _ hk => hk.1.2) (.int .i64 a0_7)) (fun _ hk => hk.2) (.int .i64 a0_0)) (fun _ hk => hk.2) (.string a0_1)) (fun _ hk => hk.2) (.string a0_2)) (fun _ hk => hk.2) (.int .i64 t22004)) (fun _ hk => hk.2) (.string t22005)) (fun _ hk => hk.2) (.slice Ao14 t22006.length co14)) (fun _ hk => hk.2) (.slice Ao17 t22009.length co17)) (fun _ hk => hk.2) (.int .i64 a0_7)) (fun _ hk => trivial), by (with_reducible repeat (first | apply Kd.R_alloc | apply Kd.R_drewN | apply Kd.R_drew)); exact Kd.R_mono (Kd.R_far (p := ⟨gb22002, 7, none⟩) (Kd.R_far (p := ⟨gb22002, 6, none⟩) (Kd.R_far (p := ⟨gb22002, 5, none⟩) (Kd.R_far (p := ⟨gb22002, 4, none⟩) (Kd.R_far (p := ⟨gb22002, 3, none⟩) (Kd.R_far (p := ⟨gb22002, 2, none⟩) (Kd.R_far (p := ⟨gb22002, 1, none⟩) (Kd.R_far (p := ⟨gb22002, 0, none⟩) (Kd.R_far (p := ⟨gb22003, 7, none⟩) (Kd.R_far (p := ⟨gb22003, 6, none⟩) (Kd.R_types (Kd.R_types HO22011.out BK22003.out (by decide)) BK22002.out (by decide)) (fun _ hk => hk.1.2) (.slice Ao17 t22009.length co17)) (fun _ hk => hk.1.2) (.int .i64 a0_7)) (fun _ hk => hk.2) (.int .i64 a0_0)) (fun _ hk => hk.2) (.string a0_1)) (fun _ hk => hk.2) (.string a0_2)) (fun _ hk => hk.2) (.int .i64 t22004)) (fun _ hk => hk.2) (.string t22005)) (fun _ hk => hk.2) (.slice Ao14 t22006.length co14)) (fun _ hk => hk.2) (.slice Ao17 t22009.length co17)) (fun _ hk => hk.2) (.int .i64 a0_7)) (fun _ hk => trivial), by repeat (first | (with_reducible first | exact HB.out | apply below_alloc | apply pw_below_drewN | apply below_drew1 | refine below_set ?_ GE22001.out | refine below_set ?_ GE22002.out | refine below_set ?_ GE22003.out) | exact HB.out)⟩


end Go.Proofs.Ytpppopdmnejcfaa.A

