/- FnExactEqualConstraint: what its proof needs, put together by this session's program wip/merge.py out of the texts that wip/xp.py printed and of this session's own. -/
import Derived.Test.YtkefiajemifklaaProg
import Derived.Test.YtkefiajemifklaaWMore
import Derived.Lib.Bytealg
import Derived.Lib.Walk
import Derived.Below
import Derived.Deep.Draws
import Derived.Deep.AppendLies
import Derived.Maps.AppendAt
import Derived.OwnWalk
import Derived.Laws.BytesArg
import Derived.Laws.MakeOwn
import Derived.Laws.OwnMore
import Derived.Deep.OwnRows
import Derived.Tactics
import Derived.Lib.ConvBytes
import Derived.Laws.Slices
import Derived.WalkKit
import Derived.KernelRfl
import Derived.RowKit3
import Derived.Deep.LoopGhost
import Derived.Deep.QuietTactic
import Derived.BigQuiet
import Derived.WideLaws
import Derived.Deep.DeepCutAuto
import Derived.Deep.CutBlock
import Derived.Deep.RegionHeld3
import Derived.Laws.Rows
import Derived.Lib.AppendStr
import Derived.ArgAppend
import Derived.Laws.IdiomCopy
import Derived.OrdersHeld
import Derived.Laws.BitsLemmas
import Derived.RowKit
import Derived.Test.YtkefiajemifklaaWWords
import Derived.Test.YtkefiajemifklaaWLast
import Derived.Test.YtkefiajemifklaaWTab
import Derived.Test.YtkefiajemifklaaWFour
import Derived.Test.YtkefiajemifklaaWQPut
import Derived.Test.YtkefiajemifklaaWApart
import Derived.Test.YtkefiajemifklaaWArr
import Derived.Test.YtkefiajemifklaaWZeros
import Derived.Test.YtkefiajemifklaaWFoot
import Derived.Test.YtkefiajemifklaaWKept
import Derived.Test.YtkefiajemifklaaWShare
import Derived.Test.YtkefiajemifklaaWN
import Derived.Test.YtkefiajemifklaaWFootNe
import Derived.Test.YtkefiajemifklaaWAt
import Derived.Test.YtkefiajemifklaaWEqStruct
import Derived.Test.YtkefiajemifklaaWRepsOne
import Derived.Test.YtkefiajemifklaaWInv
import Derived.Test.YtkefiajemifklaaWInvWords
import Derived.Test.YtkefiajemifklaaWGuard
import Derived.Test.YtkefiajemifklaaWNEv
namespace Go.Proofs.Ytkefiajemifklaa.Ext
set_option linter.unusedVariables false
set_option linter.unusedSimpArgs false
open Go.RowKit Go.Proofs.YtkefiajemifklaaW.PrintWords

-- EXT strings.IndexByte
def strings_IndexByte.f (s : ByteArray) (c : Int) : Option Int := some (Lib.indexByte s.data.toList c.toNat.toUInt8)

set_option maxRecDepth 100000 in
theorem stringslite_run (s : ByteArray) (c : Int) (w : World) :
    Calls Try.prog 156 #[.string s, .int .u8 c] w fun e w' => e = .returned (.int .i64 (Lib.indexByte s.data.toList c.toNat.toUInt8)) ∧ w' = w := by
  go_enter Try.func156, Try.ntmps156
  go_wp2
  rw [run_callFunc_extern Try.func163 (by kernel_rfl) (by kernel_rfl) (by kernel_rfl) (e := Extern.BytealgIndexByte.indexByte) (by kernel_rfl), Lib.run_indexByteString]
  simp only [Result.andThen]
  rw [Oper.upon_value]
  go_wp2
  go_ret
  exact ⟨rfl, rfl⟩
set_option maxRecDepth 100000 in
theorem strings_IndexByte.calls (s : ByteArray) (c : Int) (r : Int) (w : World) (h : strings_IndexByte.f s c = some r) :
    Calls Try.prog 127 #[.string s, .int .u8 c] w fun e w' => e = .returned (.int .i64 r) ∧ Drawn0 w w' := by
  obtain rfl := Option.some.inj h
  go_enter Try.func127, Try.ntmps127
  go_wp2_with (go_at_call 156; refine (stringslite_run _ _ _).mono ?_; rintro e w' ⟨rfl, rfl⟩)
  go_ret
  exact ⟨rfl, Drawn0.refl _⟩

end Go.Proofs.Ytkefiajemifklaa.Ext


namespace Go.Proofs.Ytkefiajemifklaa.A
open Go.RowKit Go.Proofs.Ytkefiajemifklaa.Ext Go.Proofs.YtkefiajemifklaaW.PrintWords Go.Proofs.YtkefiajemifklaaW.PrintLast Go.Proofs.YtkefiajemifklaaW.PrintMore
attribute [local go_sem] max2_int min2_int max_two min_two max_three min_three max_four min_four   -- for this text's walks alone
set_option linter.unusedVariables false
set_option linter.unusedSimpArgs false



def errW : Option Int → Value
  | none => .nilIface
  | some c => .iface 0 (.int .i64 c)
theorem errW_none : errW none = .nilIface := rfl
theorem errW_some (c : Int) : errW (some c) = .iface 0 (.int .i64 c) := rfl

theorem info3 : (Try.prog.info? 3).map (fun i => (i.zero, i.size, i.bytes)) = some (some (.int .i64 0), 1, 8) := by kernel_rfl
theorem info4 : (Try.prog.info? 4).map (fun i => (i.zero, i.size, i.bytes)) = some (some (.bool false), 1, 1) := by kernel_rfl
theorem info5 : (Try.prog.info? 5).map (fun i => (i.zero, i.size, i.bytes)) = some (some (.int .u8 0), 1, 1) := by kernel_rfl
theorem info9 : (Try.prog.info? 9).map (fun i => (i.zero, i.size, i.bytes)) = some (some (.string ⟨#[]⟩), 1, 16) := by kernel_rfl
theorem info29 : (Try.prog.info? 29).map (fun i => (i.zero, i.size, i.bytes)) = some (some (.slice none 0 0), 1, 24) := by kernel_rfl
theorem info62 : (Try.prog.info? 62).map (fun i => (i.zero, i.size, i.bytes)) = some (some (.agg #[(.int .u8 0), (.string ⟨#[]⟩)]), 2, 24) := by kernel_rfl
theorem info97 : (Try.prog.info? 97).map (fun i => (i.zero, i.size, i.bytes)) = some (some (.agg #[(.int .i64 0), (.string ⟨#[]⟩), (.slice none 0 0)]), 3, 48) := by kernel_rfl
-- the values' own types
def rd_L1 (xs : List (List Int)) (i : Int) : (List Int) := xs.getD i.toNat ([] : List Int)
theorem at_L1 {w : World} {A : Option Addr} {n : Nat} {xs : List (List Int)} (h : Kd.C (Kd.slice 3 (Kd.int .i64)) w A n xs) (i : Int) (h0 : 0 ≤ i) (h1 : i < n) : ∃ ad A0 c0, A = some ad ∧ w.cell? (ad.add i.toNat) = some (.slice A0 (rd_L1 xs i).length c0) ∧ (rd_L1 xs i).length ≤ c0 ∧ (Kd.int .i64).C w A0 (rd_L1 xs i).length (rd_L1 xs i) := by
  obtain ⟨ad, c, e, _, hK, hc0⟩ := Kd.C_get h ([] : List Int) i h0 h1
  have hc : ∀ j u, c[j]? = some u → w.cell? (ad.add (i.toNat * 1 + j)) = some u := hc0
  obtain ⟨A0, c0, rfl, l0, g0⟩ := hK
  exact ⟨ad, A0, c0, e, by have hq := hc 0 _ rfl; rwa [Nat.mul_one, Nat.add_zero] at hq, l0, g0⟩

/-! #### struct type 62 -/
structure S62 where
  f0 : Int
  f1 : ByteArray
def z62 : S62 := ⟨(0 : Int), (⟨#[]⟩ : ByteArray)⟩
def k62 : Kd S62 := Kd.iso (Kd.pair (Kd.int .u8) Kd.string) (fun x : S62 => (x.f0, x.f1))
theorem k62_open {w : World} {x : S62} {cs : List Value} (h : k62.K w x cs) : cs = [.int .u8 x.f0, .string x.f1] := by
  obtain ⟨_, _, rfl, rfl, rfl⟩ := h
  exact rfl
theorem k62_openM {w : World} {base : Nat} {ok : Nat → Prop} {x : S62} {cs : List Value} (h : k62.M w base ok x cs) : cs = [.int .u8 x.f0, .string x.f1] := by
  obtain ⟨_, _, rfl, rfl, rfl⟩ := h
  exact rfl
theorem k62_mk (w : World) (x : S62)  : k62.K w x [.int .u8 x.f0, .string x.f1] := ⟨[.int .u8 x.f0], [.string x.f1], rfl, rfl, rfl⟩
theorem k62_mkM (w : World) (base : Nat) (ok : Nat → Prop) (x : S62)  : k62.M w base ok x [.int .u8 x.f0, .string x.f1] := ⟨[.int .u8 x.f0], [.string x.f1], rfl, rfl, rfl⟩
theorem k62_mkF (W : World) (ok : Nat → Prop) (x : S62) : Kd.FK k62 W ok x [.int .u8 x.f0, .string x.f1] := fun W2 _ => k62_mk W2 x
def rd_T62 (xs : List S62) (i : Int) : S62 := xs.getD i.toNat z62
theorem at_T62 {w : World} {A : Option Addr} {n : Nat} {xs : List S62} (h : Kd.C k62 w A n xs) (i : Int) (h0 : 0 ≤ i) (h1 : i < n) : ∃ ad , A = some ad ∧ w.cell? (ad.add (i.toNat * 2)) = some (.int .u8 (rd_T62 xs i).f0) ∧ w.cell? ⟨(ad.add (i.toNat * 2)).block, (ad.add (i.toNat * 2)).off + 1, none⟩ = some (.string (rd_T62 xs i).f1) := by
  obtain ⟨ad, c, e, _, hK, hc0⟩ := Kd.C_get h z62 i h0 h1
  have hc : ∀ j u, c[j]? = some u → w.cell? (ad.add (i.toNat * 2 + j)) = some u := hc0
  obtain rfl := k62_open hK
  exact ⟨ad, e, hc 0 _ rfl, by rw [← add_field _ _ 1 (by omega)]; exact hc 1 _ rfl⟩

/-! #### struct type 90, nested in itself -/
structure S90 where
  f0 : Int
  f1 : ByteArray
  f2 : (List S90)
def z90 : S90 := ⟨(0 : Int), (⟨#[]⟩ : ByteArray), ([] : List S90)⟩
def F90 (d : Kd S90) : Kd S90 := Kd.iso (Kd.pair (Kd.int .i64) (Kd.pair Kd.string (Kd.slice 90 d))) (fun x : S90 => (x.f0, x.f1, x.f2))
theorem mono90 : Kd.Mono F90 := Kd.mono_iso _ (Kd.mono_pair (Kd.mono_const _) (Kd.mono_pair (Kd.mono_const _) (Kd.mono_slice 90 Kd.mono_id)))
theorem sub90 : Kd.Sub F90 [90] := Kd.sub_iso _ (Kd.sub_pair (Kd.sub_const _ (by decide)) (Kd.sub_pair (Kd.sub_const _ (by decide)) (Kd.sub_slice 90 (by decide) Kd.sub_id)))
theorem sz90 : ∀ n, (Kd.upto F90 3 [90] n).sz = 3 := Kd.upto_sz (fun _ => rfl)
def k90 : Kd S90 := Kd.fix F90 3 [90] sz90 (Kd.upto_E sub90)
theorem k90_open {w : World} {x : S90} {cs : List Value} (h : k90.K w x cs) : ∃ A2 c2, cs = [.int .i64 x.f0, .string x.f1, .slice A2 x.f2.length c2] ∧ x.f2.length ≤ c2 ∧ k90.C w A2 x.f2.length x.f2 := by
  obtain ⟨n, h⟩ := h
  cases n with
  | zero => exact h.elim
  | succ n =>
    obtain ⟨_, _, rfl, rfl, ⟨_, _, rfl, rfl, ⟨A2, c2, rfl, l2, g2⟩⟩⟩ := h
    exact ⟨A2, c2, rfl, l2, Kd.fix_C g2⟩
theorem k90_openM {w : World} {base : Nat} {ok : Nat → Prop} {x : S90} {cs : List Value} (h : k90.M w base ok x cs) : ∃ v2, cs = [.int .i64 x.f0, .string x.f1, v2] ∧ k90.R 90 w base ok v2 x.f2 := by
  obtain ⟨n, h⟩ := h
  cases n with
  | zero => exact h.elim
  | succ n =>
    obtain ⟨_, _, rfl, rfl, ⟨_, _, rfl, rfl, ⟨v2, rfl, g2⟩⟩⟩ := h
    exact ⟨v2, rfl, Kd.fix_R g2⟩
theorem k90_mk (w : World) (x : S90) {A2 : Option Addr} {c2 : Nat} (l2 : x.f2.length ≤ c2) (g2 : k90.C w A2 x.f2.length x.f2) : k90.K w x [.int .i64 x.f0, .string x.f1, .slice A2 x.f2.length c2] := by
  obtain ⟨n2, q2⟩ := Kd.fix_C_back mono90 g2
  have r2 := Kd.upto_C_le mono90 sz90 (show n2 ≤ n2 by omega) q2
  exact ⟨n2 + 1, ⟨[.int .i64 x.f0], [.string x.f1, .slice A2 x.f2.length c2], rfl, rfl, ⟨[.string x.f1], [.slice A2 x.f2.length c2], rfl, rfl, ⟨A2, c2, rfl, l2, r2⟩⟩⟩⟩
theorem k90_mkM (w : World) (base : Nat) (ok : Nat → Prop) (x : S90) {v2 : Value} (g2 : k90.R 90 w base ok v2 x.f2) : k90.M w base ok x [.int .i64 x.f0, .string x.f1, v2] := by
  obtain ⟨n2, q2⟩ := Kd.fix_R_back mono90 g2
  have r2 := Kd.upto_R_le mono90 sz90 (show n2 ≤ n2 by omega) q2
  exact ⟨n2 + 1, ⟨[.int .i64 x.f0], [.string x.f1, v2], rfl, rfl, ⟨[.string x.f1], [v2], rfl, rfl, ⟨v2, rfl, r2⟩⟩⟩⟩
theorem k90_openF {W : World} {ok : Nat → Prop} {x : S90} {cs : List Value} (h : Kd.FK k90 W ok x cs) : ∃ A2 c2, cs = [.int .i64 x.f0, .string x.f1, .slice A2 x.f2.length c2] ∧ x.f2.length ≤ c2 ∧ Kd.F k90 W ok A2 x.f2.length x.f2 := by
  obtain ⟨A2, c2, rfl, l2, _⟩ := k90_open (Kd.FK_now h)
  exact ⟨A2, c2, rfl, l2, (fun W' hW => by obtain ⟨A2_, c2_, he, l2_, g2_⟩ := k90_open (h W' hW); injection (Option.some.inj (show some (Value.slice A2 x.f2.length c2) = some (Value.slice A2_ x.f2.length c2_) from congrArg (fun l => l[2]?) he)) with ha_ _ _; rw [ha_]; exact g2_)⟩
theorem k90_mkF (W : World) (ok : Nat → Prop) (x : S90) {A2 : Option Addr} {c2 : Nat} (l2 : x.f2.length ≤ c2) (g2 : Kd.F k90 W ok A2 x.f2.length x.f2) : Kd.FK k90 W ok x [.int .i64 x.f0, .string x.f1, .slice A2 x.f2.length c2] := fun W2 hW => k90_mk W2 x l2 (g2 W2 hW)
def rd_T90 (xs : List S90) (i : Int) : S90 := xs.getD i.toNat z90
theorem at_T90 {w : World} {A : Option Addr} {n : Nat} {xs : List S90} (h : Kd.C k90 w A n xs) (i : Int) (h0 : 0 ≤ i) (h1 : i < n) : ∃ ad A2 c2, A = some ad ∧ w.cell? (ad.add (i.toNat * 3)) = some (.int .i64 (rd_T90 xs i).f0) ∧ w.cell? ⟨(ad.add (i.toNat * 3)).block, (ad.add (i.toNat * 3)).off + 1, none⟩ = some (.string (rd_T90 xs i).f1) ∧ w.cell? ⟨(ad.add (i.toNat * 3)).block, (ad.add (i.toNat * 3)).off + 2, none⟩ = some (.slice A2 (rd_T90 xs i).f2.length c2) ∧ (rd_T90 xs i).f2.length ≤ c2 ∧ k90.C w A2 (rd_T90 xs i).f2.length (rd_T90 xs i).f2 := by
  obtain ⟨ad, c, e, _, hK, hc0⟩ := Kd.C_get h z90 i h0 h1
  have hc : ∀ j u, c[j]? = some u → w.cell? (ad.add (i.toNat * 3 + j)) = some u := hc0
  obtain ⟨A2, c2, rfl, l2, g2⟩ := k90_open hK
  exact ⟨ad, A2, c2, e, hc 0 _ rfl, by rw [← add_field _ _ 1 (by omega)]; exact hc 1 _ rfl, by rw [← add_field _ _ 2 (by omega)]; exact hc 2 _ rfl, l2, g2⟩

/-! #### struct type 97, nested in itself -/
structure S97 where
  f0 : Int
  f1 : ByteArray
  f2 : (List S97)
def z97 : S97 := ⟨(0 : Int), (⟨#[]⟩ : ByteArray), ([] : List S97)⟩
def F97 (d : Kd S97) : Kd S97 := Kd.iso (Kd.pair (Kd.int .i64) (Kd.pair Kd.string (Kd.slice 97 d))) (fun x : S97 => (x.f0, x.f1, x.f2))
theorem mono97 : Kd.Mono F97 := Kd.mono_iso _ (Kd.mono_pair (Kd.mono_const _) (Kd.mono_pair (Kd.mono_const _) (Kd.mono_slice 97 Kd.mono_id)))
theorem sub97 : Kd.Sub F97 [97] := Kd.sub_iso _ (Kd.sub_pair (Kd.sub_const _ (by decide)) (Kd.sub_pair (Kd.sub_const _ (by decide)) (Kd.sub_slice 97 (by decide) Kd.sub_id)))
theorem sz97 : ∀ n, (Kd.upto F97 3 [97] n).sz = 3 := Kd.upto_sz (fun _ => rfl)
def k97 : Kd S97 := Kd.fix F97 3 [97] sz97 (Kd.upto_E sub97)
theorem k97_open {w : World} {x : S97} {cs : List Value} (h : k97.K w x cs) : ∃ A2 c2, cs = [.int .i64 x.f0, .string x.f1, .slice A2 x.f2.length c2] ∧ x.f2.length ≤ c2 ∧ k97.C w A2 x.f2.length x.f2 := by
  obtain ⟨n, h⟩ := h
  cases n with
  | zero => exact h.elim
  | succ n =>
    obtain ⟨_, _, rfl, rfl, ⟨_, _, rfl, rfl, ⟨A2, c2, rfl, l2, g2⟩⟩⟩ := h
    exact ⟨A2, c2, rfl, l2, Kd.fix_C g2⟩
theorem k97_openM {w : World} {base : Nat} {ok : Nat → Prop} {x : S97} {cs : List Value} (h : k97.M w base ok x cs) : ∃ v2, cs = [.int .i64 x.f0, .string x.f1, v2] ∧ k97.R 97 w base ok v2 x.f2 := by
  obtain ⟨n, h⟩ := h
  cases n with
  | zero => exact h.elim
  | succ n =>
    obtain ⟨_, _, rfl, rfl, ⟨_, _, rfl, rfl, ⟨v2, rfl, g2⟩⟩⟩ := h
    exact ⟨v2, rfl, Kd.fix_R g2⟩
theorem k97_mk (w : World) (x : S97) {A2 : Option Addr} {c2 : Nat} (l2 : x.f2.length ≤ c2) (g2 : k97.C w A2 x.f2.length x.f2) : k97.K w x [.int .i64 x.f0, .string x.f1, .slice A2 x.f2.length c2] := by
  obtain ⟨n2, q2⟩ := Kd.fix_C_back mono97 g2
  have r2 := Kd.upto_C_le mono97 sz97 (show n2 ≤ n2 by omega) q2
  exact ⟨n2 + 1, ⟨[.int .i64 x.f0], [.string x.f1, .slice A2 x.f2.length c2], rfl, rfl, ⟨[.string x.f1], [.slice A2 x.f2.length c2], rfl, rfl, ⟨A2, c2, rfl, l2, r2⟩⟩⟩⟩
theorem k97_mkM (w : World) (base : Nat) (ok : Nat → Prop) (x : S97) {v2 : Value} (g2 : k97.R 97 w base ok v2 x.f2) : k97.M w base ok x [.int .i64 x.f0, .string x.f1, v2] := by
  obtain ⟨n2, q2⟩ := Kd.fix_R_back mono97 g2
  have r2 := Kd.upto_R_le mono97 sz97 (show n2 ≤ n2 by omega) q2
  exact ⟨n2 + 1, ⟨[.int .i64 x.f0], [.string x.f1, v2], rfl, rfl, ⟨[.string x.f1], [v2], rfl, rfl, ⟨v2, rfl, r2⟩⟩⟩⟩
theorem k97_openF {W : World} {ok : Nat → Prop} {x : S97} {cs : List Value} (h : Kd.FK k97 W ok x cs) : ∃ A2 c2, cs = [.int .i64 x.f0, .string x.f1, .slice A2 x.f2.length c2] ∧ x.f2.length ≤ c2 ∧ Kd.F k97 W ok A2 x.f2.length x.f2 := by
  obtain ⟨A2, c2, rfl, l2, _⟩ := k97_open (Kd.FK_now h)
  exact ⟨A2, c2, rfl, l2, (fun W' hW => by obtain ⟨A2_, c2_, he, l2_, g2_⟩ := k97_open (h W' hW); injection (Option.some.inj (show some (Value.slice A2 x.f2.length c2) = some (Value.slice A2_ x.f2.length c2_) from congrArg (fun l => l[2]?) he)) with ha_ _ _; rw [ha_]; exact g2_)⟩
theorem k97_mkF (W : World) (ok : Nat → Prop) (x : S97) {A2 : Option Addr} {c2 : Nat} (l2 : x.f2.length ≤ c2) (g2 : Kd.F k97 W ok A2 x.f2.length x.f2) : Kd.FK k97 W ok x [.int .i64 x.f0, .string x.f1, .slice A2 x.f2.length c2] := fun W2 hW => k97_mk W2 x l2 (g2 W2 hW)
def rd_T97 (xs : List S97) (i : Int) : S97 := xs.getD i.toNat z97
theorem at_T97 {w : World} {A : Option Addr} {n : Nat} {xs : List S97} (h : Kd.C k97 w A n xs) (i : Int) (h0 : 0 ≤ i) (h1 : i < n) : ∃ ad A2 c2, A = some ad ∧ w.cell? (ad.add (i.toNat * 3)) = some (.int .i64 (rd_T97 xs i).f0) ∧ w.cell? ⟨(ad.add (i.toNat * 3)).block, (ad.add (i.toNat * 3)).off + 1, none⟩ = some (.string (rd_T97 xs i).f1) ∧ w.cell? ⟨(ad.add (i.toNat * 3)).block, (ad.add (i.toNat * 3)).off + 2, none⟩ = some (.slice A2 (rd_T97 xs i).f2.length c2) ∧ (rd_T97 xs i).f2.length ≤ c2 ∧ k97.C w A2 (rd_T97 xs i).f2.length (rd_T97 xs i).f2 := by
  obtain ⟨ad, c, e, _, hK, hc0⟩ := Kd.C_get h z97 i h0 h1
  have hc : ∀ j u, c[j]? = some u → w.cell? (ad.add (i.toNat * 3 + j)) = some u := hc0
  obtain ⟨A2, c2, rfl, l2, g2⟩ := k97_open hK
  exact ⟨ad, A2, c2, e, hc 0 _ rfl, by rw [← add_field _ _ 1 (by omega)]; exact hc 1 _ rfl, by rw [← add_field _ _ 2 (by omega)]; exact hc 2 _ rfl, l2, g2⟩

end Go.Proofs.Ytkefiajemifklaa.A

namespace Go.Proofs.Ytkefiajemifklaa.A
open Go.RowKit Go.Proofs.Ytkefiajemifklaa.Ext Go.Proofs.YtkefiajemifklaaW.PrintWords Go.Proofs.YtkefiajemifklaaW.PrintLast Go.Proofs.YtkefiajemifklaaW.PrintMore
attribute [local go_sem] max2_int min2_int max_two min_two max_three min_three max_four min_four   -- for this text's walks alone
set_option linter.unusedVariables false
set_option linter.unusedSimpArgs false

/-! ### spec_l5Ints: function 98 -/
def spec_l5Ints.l0 : Nat → List Int → List Int → Int → Option (Bool)
  | 0, _, _, _ => none
  | k + 1, x0, x1, x5 => if x5 < (x0.length : Int) then (if 0 ≤ x5 then (if x5 < (x1.length : Int) then (if (rd x0 x5) = (rd x1 x5) then (spec_l5Ints.l0 k x0 x1 (wrap64 (x5 + 1))) else (some false)) else (none)) else (none)) else (some true)
def spec_l5Ints.f (k : Nat) (l0 : List Int) (l1 : List Int) : Option (Bool) := if (l0.length : Int) = (l1.length : Int) then (spec_l5Ints.l0 k l0 l1 0) else (some false)
theorem spec_l5Ints.mono_l : ∀ k, (∀ y0 y1 y2, LeO (spec_l5Ints.l0 k y0 y1 y2) (spec_l5Ints.l0 (k + 1) y0 y1 y2))
  | 0 => fun _ _ _ r h => by simp [spec_l5Ints.l0] at h
  | k + 1 => by
    have ih0 := spec_l5Ints.mono_l k
    · intro y0 y1 y2
      unfold spec_l5Ints.l0
      repeat' first
      | (with_reducible exact ih0 _ _ _)
      | (with_reducible exact LeO.refl _)
      | (with_reducible exact LeO.none _)
      | (with_reducible refine LeO.ite ?_ ?_)
      | (with_reducible refine LeO.bind ?_ (fun _ => ?_))
      | exact ih0 _ _ _
      | exact LeO.none _
      | refine LeO.ite ?_ ?_
      | refine LeO.bind ?_ (fun _ => ?_)
theorem spec_l5Ints.mono : ∀ a0 a1 k, LeO (spec_l5Ints.f k a0 a1) (spec_l5Ints.f (k + 1) a0 a1) := by
  intro a0 a1 k
  have ih0 := spec_l5Ints.mono_l k
  unfold spec_l5Ints.f
  repeat' first
      | (with_reducible exact ih0 _ _ _)
      | (with_reducible exact LeO.refl _)
      | (with_reducible exact LeO.none _)
      | (with_reducible refine LeO.ite ?_ ?_)
      | (with_reducible refine LeO.bind ?_ (fun _ => ?_))
      | exact ih0 _ _ _
      | exact LeO.none _
      | refine LeO.ite ?_ ?_
      | refine LeO.bind ?_ (fun _ => ?_)
set_option maxHeartbeats 8000000 in
set_option maxRecDepth 100000 in
theorem spec_l5Ints.calls (k : Nat) (A0 : Option Addr) (c0 : Nat) (l0 : List Int) (A1 : Option Addr) (c1 : Nat) (l1 : List Int) (r : Bool) (w : World) (hr0 : Kd.C (Kd.int .i64) w A0 l0.length l0) (hc0 : l0.length ≤ c0) (hr1 : Kd.C (Kd.int .i64) w A1 l1.length l1) (hc1 : l1.length ≤ c1) (h : spec_l5Ints.f k l0 l1 = some r) :
    Calls Try.prog 98 #[.slice A0 l0.length c0, .slice A1 l1.length c1] w fun e w' => e = .returned (.bool r) ∧ Drawn0 w w' := by
  have HR0 := Aside0.mk hr0
  have HC0 := Aside0.mk hc0
  clear hr0 hc0
  have HR1 := Aside0.mk hr1
  have HC1 := Aside0.mk hc1
  clear hr1 hc1
  have H : (if (l0.length : Int) = (l1.length : Int) then (spec_l5Ints.l0 k l0 l1 0) else (some false)) = some r := h
  clear h
  by_cases c3 : (l0.length : Int) = (l1.length : Int)
  · rw [if_pos c3] at H
    have c3b0 : ((l0.length : Int) == (l1.length : Int)) = true := beq_iff_eq.mpr c3
    have c3b1 : ((l0.length : Int) != (l1.length : Int)) = false := bne_eq_false_iff_eq.mpr c3
    have c3b2 : (l0.length == l1.length) = true := by first | simpa using c3 | (simp at c3 ⊢; omega)
    clear c3
    have H' := Aside0.mk H
    clear H
    go_enter Try.func98, Try.ntmps98
    go_wp2
    repeat (go_quiet (fail); try go_wp2)
    first | go_loopg [5] k (fun kq v5 w' => ∃ (x5_1 : Int), v5 = .int .i64 x5_1 ∧ Aside0 (spec_l5Ints.l0 kq l0 l1 x5_1 = some r) ∧ Aside0 (kq ≤ k) ∧ Drawn0 w w') | (simp only [Act.put, List.setIfInBounds_toArray, List.set_cons_succ, List.set_cons_zero]; go_loopg [5] k (fun kq v5 w' => ∃ (x5_1 : Int), v5 = .int .i64 x5_1 ∧ Aside0 (spec_l5Ints.l0 kq l0 l1 x5_1 = some r) ∧ Aside0 (kq ≤ k) ∧ Drawn0 w w'))
    case atStart => exact ⟨(0), (by first | rfl | (simp; done) | (simp [*]; done)), H', ⟨Nat.le_refl _⟩, by repeat (first | exact Drawn0.refl _ | apply Drawn0.step)⟩
    case round =>
      clear H'
      try clear c1
      try clear p2
      try clear c3
      try clear c3b0
      try clear c3b1
      try clear c3b2
      obtain ⟨x5_1, rfl, HA, HK1, ⟨m1, rfl⟩⟩ := hrel
      cases gk with
      | zero => exact absurd HA.out (by simp [spec_l5Ints.l0])
      | succ k1 =>
        have H := HA.out
        clear HA
        simp only [spec_l5Ints.l0] at H
        by_cases c4 : x5_1 < (l0.length : Int)
        · rw [if_pos c4] at H
          have c4b0 : decide (x5_1 < (l0.length : Int)) = true := decide_eq_true c4
          clear c4
          by_cases c5 : 0 ≤ x5_1
          · rw [if_pos c5] at H
            have c5b0 : decide (0 ≤ x5_1) = true := decide_eq_true c5
            clear c5
            by_cases c6 : x5_1 < (l1.length : Int)
            · rw [if_pos c6] at H
              have c6b0 : decide (x5_1 < (l1.length : Int)) = true := decide_eq_true c6
              clear c6
              by_cases c7 : (rd l0 x5_1) = (rd l1 x5_1)
              · rw [if_pos c7] at H
                have c7b0 : ((rd l0 x5_1) == (rd l1 x5_1)) = true := beq_iff_eq.mpr c7
                have c7b1 : ((rd l0 x5_1) != (rd l1 x5_1)) = false := bne_eq_false_iff_eq.mpr c7
                clear c7
                have H' := Aside0.mk H
                clear H
                have p98001 : 0 ≤ (x5_1 : Int) := of_decide_eq_true (by first | (with_reducible assumption) | assumption)
                have q98001 : x5_1 < (l0.length : Int) := of_decide_eq_true (by first | (with_reducible assumption) | assumption)
                obtain ⟨ad98001, e98001, hx98001_0⟩ := Kd.at_int HR0.out x5_1 p98001 q98001
                cases e98001
                replace p98001 := eq_true p98001
                replace q98001 := eq_true q98001
                have p98002 : 0 ≤ (x5_1 : Int) := of_decide_eq_true (by first | (with_reducible assumption) | assumption)
                have q98002 : x5_1 < (l1.length : Int) := of_decide_eq_true (by first | (with_reducible assumption) | assumption)
                obtain ⟨ad98002, e98002, hx98002_0⟩ := Kd.at_int HR1.out x5_1 p98002 q98002
                cases e98002
                replace p98002 := eq_true p98002
                replace q98002 := eq_true q98002
                go_wp2
                repeat (go_quiet (fail); try go_wp2)
                go_roundg k1
                case measure => have := HK1.out; omega
                case rel => exact ⟨(wrap64 (x5_1 + 1)), (by first | rfl | (simp; done) | (simp [*]; done)), H', ⟨by have := HK1.out; omega⟩, by repeat (first | exact Drawn0.refl _ | apply Drawn0.step)⟩
              · rw [if_neg c7] at H
                have c7b0 : ((rd l0 x5_1) == (rd l1 x5_1)) = false := beq_eq_false_iff_ne.mpr c7
                have c7b1 : ((rd l0 x5_1) != (rd l1 x5_1)) = true := bne_iff_ne.mpr c7
                obtain rfl := Option.some.inj H
                have p98001 : 0 ≤ (x5_1 : Int) := of_decide_eq_true (by first | (with_reducible assumption) | assumption)
                have q98001 : x5_1 < (l0.length : Int) := of_decide_eq_true (by first | (with_reducible assumption) | assumption)
                obtain ⟨ad98001, e98001, hx98001_0⟩ := Kd.at_int HR0.out x5_1 p98001 q98001
                cases e98001
                replace p98001 := eq_true p98001
                replace q98001 := eq_true q98001
                have p98002 : 0 ≤ (x5_1 : Int) := of_decide_eq_true (by first | (with_reducible assumption) | assumption)
                have q98002 : x5_1 < (l1.length : Int) := of_decide_eq_true (by first | (with_reducible assumption) | assumption)
                obtain ⟨ad98002, e98002, hx98002_0⟩ := Kd.at_int HR1.out x5_1 p98002 q98002
                cases e98002
                replace p98002 := eq_true p98002
                replace q98002 := eq_true q98002
                go_wp2
                repeat (go_quiet (fail); try go_wp2)
                go_ret
                exact ⟨by first | rfl | (simp; done) | (simp [*]; done), by repeat (first | exact Drawn0.refl _ | apply Drawn0.step)⟩
            · rw [if_neg c6] at H
              exact absurd H (by simp)
          · rw [if_neg c5] at H
            exact absurd H (by simp)
        · rw [if_neg c4] at H
          have c4b0 : decide (x5_1 < (l0.length : Int)) = false := decide_eq_false c4
          clear c4
          obtain rfl := Option.some.inj H
          go_wp2
          repeat (go_quiet (fail); try go_wp2)
          go_ret
          exact ⟨by first | rfl | (simp; done) | (simp [*]; done), by repeat (first | exact Drawn0.refl _ | apply Drawn0.step)⟩
  · rw [if_neg c3] at H
    have c3b0 : ((l0.length : Int) == (l1.length : Int)) = false := beq_eq_false_iff_ne.mpr c3
    have c3b1 : ((l0.length : Int) != (l1.length : Int)) = true := bne_iff_ne.mpr c3
    have c3b2 : (l0.length == l1.length) = false := by first | simpa using c3 | (simp at c3 ⊢; omega)
    obtain rfl := Option.some.inj H
    go_enter Try.func98, Try.ntmps98
    go_wp2
    repeat (go_quiet (fail); try go_wp2)
    go_ret
    exact ⟨by first | rfl | (simp; done) | (simp [*]; done), by repeat (first | exact Drawn0.refl _ | apply Drawn0.step)⟩


end Go.Proofs.Ytkefiajemifklaa.A


namespace Go.Proofs.Ytkefiajemifklaa.A
open Go.RowKit Go.Proofs.Ytkefiajemifklaa.Ext Go.Proofs.YtkefiajemifklaaW.PrintWords Go.Proofs.YtkefiajemifklaaW.PrintLast Go.Proofs.YtkefiajemifklaaW.PrintMore
attribute [local go_sem] max2_int min2_int max_two min_two max_three min_three max_four min_four   -- for this text's walks alone
set_option linter.unusedVariables false
set_option linter.unusedSimpArgs false

/-! ### spec_EqualRegex: function 130 -/
mutual
def spec_EqualRegex.j0 : Nat → Bool → Int → ByteArray → List (S97) → Int → ByteArray → List (S97) → Option (Bool)
  | 0, _, _, _, _, _, _, _ => none
  | k + 1, x26, x130002000, x130002001, x130002002, x130003000, x130003001, x130003002 => if x26 = true then (some false) else (spec_EqualRegex.l0 k 0 x130002000 x130002001 x130002002 x130003000 x130003001 x130003002)
def spec_EqualRegex.l0 : Nat → Int → Int → ByteArray → List (S97) → Int → ByteArray → List (S97) → Option (Bool)
  | 0, _, _, _, _, _, _, _ => none
  | k + 1, x5, x130002000, x130002001, x130002002, x130003000, x130003001, x130003002 => if x5 < (x130002002.length : Int) then (if 0 ≤ x5 then (if x5 < (x130003002.length : Int) then ((spec_EqualRegex.f k ((rd_T97 x130002002 x5).f0) ((rd_T97 x130002002 x5).f1) ((rd_T97 x130002002 x5).f2) ((rd_T97 x130003002 x5).f0) ((rd_T97 x130003002 x5).f1) ((rd_T97 x130003002 x5).f2)).bind fun t130005 => (if t130005 = true then (spec_EqualRegex.l0 k (wrap64 (x5 + 1)) x130002000 x130002001 x130002002 x130003000 x130003001 x130003002) else (some false))) else (none)) else (none)) else (some true)
def spec_EqualRegex.f : Nat → Int → ByteArray → List (S97) → Int → ByteArray → List (S97) → Option (Bool)
  | 0, _, _, _, _, _, _ => none
  | k + 1, a0_0, a0_1, l0_2, a1_0, a1_1, l1_2 => if a0_0 = a1_0 then (if a0_1.toList = a1_1.toList then (spec_EqualRegex.j0 k ((l0_2.length : Int) != (l1_2.length : Int)) a0_0 a0_1 l0_2 a1_0 a1_1 l1_2) else (spec_EqualRegex.j0 k true a0_0 a0_1 l0_2 a1_0 a1_1 l1_2)) else (spec_EqualRegex.j0 k true a0_0 a0_1 l0_2 a1_0 a1_1 l1_2)
end
theorem spec_EqualRegex.mono_l : ∀ k, (∀ y0 y1 y2 y3 y4 y5, LeO (spec_EqualRegex.f k y0 y1 y2 y3 y4 y5) (spec_EqualRegex.f (k + 1) y0 y1 y2 y3 y4 y5)) ∧ (∀ y0 y1 y2 y3 y4 y5 y6, LeO (spec_EqualRegex.j0 k y0 y1 y2 y3 y4 y5 y6) (spec_EqualRegex.j0 (k + 1) y0 y1 y2 y3 y4 y5 y6)) ∧ (∀ y0 y1 y2 y3 y4 y5 y6, LeO (spec_EqualRegex.l0 k y0 y1 y2 y3 y4 y5 y6) (spec_EqualRegex.l0 (k + 1) y0 y1 y2 y3 y4 y5 y6))
  | 0 => ⟨fun _ _ _ _ _ _ r h => by simp [spec_EqualRegex.f] at h, fun _ _ _ _ _ _ _ r h => by simp [spec_EqualRegex.j0] at h, fun _ _ _ _ _ _ _ r h => by simp [spec_EqualRegex.l0] at h⟩
  | k + 1 => by
    obtain ⟨ih0, ih1, ih2⟩ := spec_EqualRegex.mono_l k
    refine ⟨?_, ?_, ?_⟩
    · intro y0 y1 y2 y3 y4 y5
      unfold spec_EqualRegex.f
      repeat' first
      | (with_reducible exact ih0 _ _ _ _ _ _)
      | (with_reducible exact ih1 _ _ _ _ _ _ _)
      | (with_reducible exact ih2 _ _ _ _ _ _ _)
      | (with_reducible exact LeO.refl _)
      | (with_reducible exact LeO.none _)
      | (with_reducible refine LeO.ite ?_ ?_)
      | (with_reducible refine LeO.bind ?_ (fun _ => ?_))
      | exact ih0 _ _ _ _ _ _
      | exact ih1 _ _ _ _ _ _ _
      | exact ih2 _ _ _ _ _ _ _
      | exact LeO.none _
      | refine LeO.ite ?_ ?_
      | refine LeO.bind ?_ (fun _ => ?_)
    · intro y0 y1 y2 y3 y4 y5 y6
      unfold spec_EqualRegex.j0
      repeat' first
      | (with_reducible exact ih0 _ _ _ _ _ _)
      | (with_reducible exact ih1 _ _ _ _ _ _ _)
      | (with_reducible exact ih2 _ _ _ _ _ _ _)
      | (with_reducible exact LeO.refl _)
      | (with_reducible exact LeO.none _)
      | (with_reducible refine LeO.ite ?_ ?_)
      | (with_reducible refine LeO.bind ?_ (fun _ => ?_))
      | exact ih0 _ _ _ _ _ _
      | exact ih1 _ _ _ _ _ _ _
      | exact ih2 _ _ _ _ _ _ _
      | exact LeO.none _
      | refine LeO.ite ?_ ?_
      | refine LeO.bind ?_ (fun _ => ?_)
    · intro y0 y1 y2 y3 y4 y5 y6
      unfold spec_EqualRegex.l0
      repeat' first
      | (with_reducible exact ih0 _ _ _ _ _ _)
      | (with_reducible exact ih1 _ _ _ _ _ _ _)
      | (with_reducible exact ih2 _ _ _ _ _ _ _)
      | (with_reducible exact LeO.refl _)
      | (with_reducible exact LeO.none _)
      | (with_reducible refine LeO.ite ?_ ?_)
      | (with_reducible refine LeO.bind ?_ (fun _ => ?_))
      | exact ih0 _ _ _ _ _ _
      | exact ih1 _ _ _ _ _ _ _
      | exact ih2 _ _ _ _ _ _ _
      | exact LeO.none _
      | refine LeO.ite ?_ ?_
      | refine LeO.bind ?_ (fun _ => ?_)
theorem spec_EqualRegex.mono : ∀ a0 a1 a2 a3 a4 a5 k, LeO (spec_EqualRegex.f k a0 a1 a2 a3 a4 a5) (spec_EqualRegex.f (k + 1) a0 a1 a2 a3 a4 a5) := by
  intro a0 a1 a2 a3 a4 a5 k
  obtain ⟨ih0, ih1, ih2⟩ := spec_EqualRegex.mono_l k
  exact ih0 a0 a1 a2 a3 a4 a5
def spec_EqualRegex.T6 : Bool × List (List Nat × List Nat) := (true, [([], []), ([0], [0]), ([], []), ([1, 2], [1, 2]), ([3], [3]), ([], []), ([5], [5]), ([], []), ([6, 7], [6, 7]), ([8], [8]), ([4, 9], [4, 9]), ([10], [10])])
def spec_EqualRegex.B6 : List Nat := [0, 1, 0, 7, 15, 0, 32, 0, 224, 480, 1023, 2047]
theorem spec_EqualRegex.tab6 : rtab .any (opsOf Try.f130 6) = spec_EqualRegex.T6 := by kernel_rfl
theorem spec_EqualRegex.bits6 : waitsOk spec_EqualRegex.T6.2 spec_EqualRegex.B6 = true := by kernel_rfl
set_option maxHeartbeats 8000000 in
set_option maxRecDepth 100000 in
theorem spec_EqualRegex.calls (k : Nat) : ∀ (a0_0 : Int) (a0_1 : ByteArray) (A0_2 : Option Addr) (c0_2 : Nat) (l0_2 : List (S97)) (a1_0 : Int) (a1_1 : ByteArray) (A1_2 : Option Addr) (c1_2 : Nat) (l1_2 : List (S97)) (r : Bool) (w : World) (hr0_2 : Kd.C k97 w A0_2 l0_2.length l0_2) (hc0_2 : l0_2.length ≤ c0_2) (hr1_2 : Kd.C k97 w A1_2 l1_2.length l1_2) (hc1_2 : l1_2.length ≤ c1_2) (h : spec_EqualRegex.f k a0_0 a0_1 l0_2 a1_0 a1_1 l1_2 = some r),
    Calls Try.prog 130 #[.agg #[.int .i64 a0_0, .string a0_1, .slice A0_2 l0_2.length c0_2], .agg #[.int .i64 a1_0, .string a1_1, .slice A1_2 l1_2.length c1_2]] w fun e w' => e = .returned (.bool r) ∧ Below w.heap.size w w' := by
  induction k using Nat.strongRecOn with
  | _ k ih =>
  intro a0_0 a0_1 A0_2 c0_2 l0_2 a1_0 a1_1 A1_2 c1_2 l1_2 r w hr0_2 hc0_2 hr1_2 hc1_2 h
  cases k with
  | zero => exact absurd h (by simp [spec_EqualRegex.f])
  | succ k =>
  simp only [spec_EqualRegex.f] at h
  have hu97 := Try.underlying97
  have HR0_2 := Aside0.mk hr0_2
  have HC0_2 := Aside0.mk hc0_2
  clear hr0_2 hc0_2
  have HR1_2 := Aside0.mk hr1_2
  have HC1_2 := Aside0.mk hc1_2
  clear hr1_2 hc1_2
  have HB := Aside0.mk (Below.refl w.heap.size w)
  have H : (if a0_0 = a1_0 then (if a0_1.toList = a1_1.toList then (spec_EqualRegex.j0 k ((l0_2.length : Int) != (l1_2.length : Int)) a0_0 a0_1 l0_2 a1_0 a1_1 l1_2) else (spec_EqualRegex.j0 k true a0_0 a0_1 l0_2 a1_0 a1_1 l1_2)) else (spec_EqualRegex.j0 k true a0_0 a0_1 l0_2 a1_0 a1_1 l1_2)) = some r := h
  clear h
  have HC3 := Aside0.mk H
  clear H
  go_enter Try.func130, Try.ntmps130
  go_upto_region 1 with (first | ((with_reducible refine gate_dst (N := 2) rfl ?_); (try (refine gate_guard (by rfl) ?_; dsimp only)); refine box_event ?hg (N := 2) ?hd (cs := #[.int .i64 a0_0, .string a0_1, .slice A0_2 l0_2.length c0_2]) (t := 97) ?hr ?_; (case hd => rfl); (case hg => rfl); (case hr => first | (go_simp; done) | (go_simp; rfl)); intro gb130001 hg w4 hbox hb; have n0_ := Aside0.mk (below_step (by repeat (first | (with_reducible first | exact HB.out | apply below_alloc | apply pw_below_drewN | apply below_drew1) | exact HB.out)) hb); have n1_ := Aside0.mk (hbox); have n2_ := Aside0.mk ((by rw [hg]; exact (below_size (by repeat (first | (with_reducible first | exact HB.out | apply below_alloc | apply pw_below_drewN | apply below_drew1) | exact HB.out))) : w.heap.size ≤ gb130001)); have n3_ := Aside0.mk ((by rw [hg]; exact (below_size (by repeat (first | (with_reducible first | exact HB.out | apply below_alloc | apply pw_below_drewN | apply below_drew1) | exact HB.out))) : w.heap.size ≤ gb130001)); clear HB; have HB := n0_; have BK130001 := n1_; have GW130001 := n2_; have GE130001 := n3_; clear n0_ n1_ n2_ n3_; clear hb hbox hg) | ((with_reducible refine gate_dst (N := 3) rfl ?_); (try (refine gate_guard (by rfl) ?_; dsimp only)); refine box_event ?hg (N := 3) ?hd (cs := #[.int .i64 a1_0, .string a1_1, .slice A1_2 l1_2.length c1_2]) (t := 97) ?hr ?_; (case hd => rfl); (case hg => rfl); (case hr => first | (go_simp; done) | (go_simp; rfl)); intro gb130002 hg w5 hbox hb; have n0_ := Aside0.mk (blk_below (g := gb130001) (o := .cells #[.int .i64 a0_0, .string a0_1, .slice A0_2 l0_2.length c0_2] 97 (0, 0)) (by (with_reducible repeat (first | refine blk_drewN ?_ _ | refine blk_drew ?_ | refine blk_alloc ?_ _)); exact BK130001.out) hb); have n1_ := Aside0.mk (below_step (by repeat (first | (with_reducible first | exact HB.out | apply below_alloc | apply pw_below_drewN | apply below_drew1 | refine below_set ?_ GE130001.out) | exact HB.out)) hb); have n2_ := Aside0.mk (hbox); have n3_ := Aside0.mk ((by rw [hg]; exact (below_size (by repeat (first | (with_reducible first | exact HB.out | apply below_alloc | apply pw_below_drewN | apply below_drew1 | refine below_set ?_ GE130001.out) | exact HB.out))) : w.heap.size ≤ gb130002)); have n4_ := Aside0.mk ((by rw [hg]; exact (below_size (by repeat (first | (with_reducible first | exact HB.out | apply below_alloc | apply pw_below_drewN | apply below_drew1 | refine below_set ?_ GE130001.out) | exact HB.out))) : w.heap.size ≤ gb130002)); have n5_ := Aside0.mk ((by rw [hg]; exact Nat.ne_of_lt (blk_lt (g := gb130001) (o := .cells #[.int .i64 a0_0, .string a0_1, .slice A0_2 l0_2.length c0_2] 97 (0, 0)) (by (with_reducible repeat (first | refine blk_drewN ?_ _ | refine blk_drew ?_ | refine blk_alloc ?_ _)); exact BK130001.out)) : gb130001 ≠ gb130002)); have n6_ := Aside0.mk ((by rw [hg]; exact Nat.ne_of_gt (blk_lt (g := gb130001) (o := .cells #[.int .i64 a0_0, .string a0_1, .slice A0_2 l0_2.length c0_2] 97 (0, 0)) (by (with_reducible repeat (first | refine blk_drewN ?_ _ | refine blk_drew ?_ | refine blk_alloc ?_ _)); exact BK130001.out)) : gb130002 ≠ gb130001)); clear BK130001; clear HB; have BK130001 := n0_; have HB := n1_; have BK130002 := n2_; have GW130002 := n3_; have GE130002 := n4_; have NB130001_130002 := n5_; have NB130002_130001 := n6_; clear n0_ n1_ n2_ n3_ n4_ n5_ n6_; clear hb hbox hg))
  (try simp only [Act.put, List.setIfInBounds_toArray, List.set_cons_zero, List.set_cons_succ])
  go_cut [26] (fun v26 wc => ∃ (kq : Nat) (x26_2 : Bool), v26 = .bool x26_2 ∧ Aside0 (spec_EqualRegex.j0 kq x26_2 a0_0 a0_1 l0_2 a1_0 a1_1 l1_2 = some r) ∧ Aside0 (kq ≤ k) ∧ Aside0 (wc.heap[gb130001]? = some (.cells #[.int .i64 a0_0, .string a0_1, (.slice A0_2 l0_2.length c0_2)] 97 (0, 0))) ∧ Aside0 (wc.heap[gb130002]? = some (.cells #[.int .i64 a1_0, .string a1_1, (.slice A1_2 l1_2.length c1_2)] 97 (0, 0))) ∧ Aside0 (Below w.heap.size w wc))
  case first =>
    have H := HC3.out
    clear HC3
    by_cases c6 : a0_0 = a1_0
    · rw [if_pos c6] at H
      have c6b0 : (a0_0 == a1_0) = true := beq_iff_eq.mpr c6
      have c6b1 : (a0_0 != a1_0) = false := bne_eq_false_iff_eq.mpr c6
      clear c6
      (first | rw [c6b0] | (simp only [i64_w, i32_w]; rw [c6b0]) | skip)
      by_cases c7 : a0_1.toList = a1_1.toList
      · rw [if_pos c7] at H
        have c7b0 : (a0_1.toList == a1_1.toList) = true := beq_iff_eq.mpr c7
        have c7b1 : (a0_1.toList != a1_1.toList) = false := bne_eq_false_iff_eq.mpr c7
        clear c7
        have H' := Aside0.mk H
        clear H
        have hnb8 := NB130001_130002.out
        have hnc8 := NB130002_130001.out
        have hcz9_0 : w5.cell? ⟨gb130001, 0, none⟩ = some (.int .i64 a0_0) := (blk_cell BK130001.out 0).trans rfl
        have hcz9_1 : w5.cell? ⟨gb130001, 1, none⟩ = some (.string a0_1) := (blk_cell BK130001.out 1).trans rfl
        have hcz9_2 : w5.cell? ⟨gb130001, 2, none⟩ = some (.slice A0_2 l0_2.length c0_2) := (blk_cell BK130001.out 2).trans rfl
        have hfz9_0 := blk_frozen BK130001.out 0
        have hfz9_1 := blk_frozen BK130001.out 1
        have hfz9_2 := blk_frozen BK130001.out 2
        have hcz10_0 : w5.cell? ⟨gb130002, 0, none⟩ = some (.int .i64 a1_0) := (blk_cell BK130002.out 0).trans rfl
        have hcz10_1 : w5.cell? ⟨gb130002, 1, none⟩ = some (.string a1_1) := (blk_cell BK130002.out 1).trans rfl
        have hcz10_2 : w5.cell? ⟨gb130002, 2, none⟩ = some (.slice A1_2 l1_2.length c1_2) := (blk_cell BK130002.out 2).trans rfl
        have hfz10_0 := blk_frozen BK130002.out 0
        have hfz10_1 := blk_frozen BK130002.out 1
        have hfz10_2 := blk_frozen BK130002.out 2
        go_wp2
        go_meet
        case rel => exact ⟨_, (((l0_2.length : Int) != (l1_2.length : Int))), (by first | rfl | (simp; done) | (simp [*]; done)), H', ⟨by first | omega | exact Nat.le_refl _⟩, ⟨by (with_reducible repeat (first | refine blk_drewN ?_ _ | refine blk_drew ?_ | refine blk_alloc ?_ _)); exact BK130001.out⟩, ⟨by (with_reducible repeat (first | refine blk_drewN ?_ _ | refine blk_drew ?_ | refine blk_alloc ?_ _)); exact BK130002.out⟩, ⟨by repeat (first | (with_reducible first | exact HB.out | apply below_alloc | apply pw_below_drewN | apply below_drew1 | refine below_set ?_ GE130001.out | refine below_set ?_ GE130002.out) | exact HB.out)⟩⟩
      · rw [if_neg c7] at H
        have c7b0 : (a0_1.toList == a1_1.toList) = false := beq_eq_false_iff_ne.mpr c7
        have c7b1 : (a0_1.toList != a1_1.toList) = true := bne_iff_ne.mpr c7
        have H' := Aside0.mk H
        clear H
        have hnb11 := NB130001_130002.out
        have hnc11 := NB130002_130001.out
        have hcz12_0 : w5.cell? ⟨gb130001, 0, none⟩ = some (.int .i64 a0_0) := (blk_cell BK130001.out 0).trans rfl
        have hcz12_1 : w5.cell? ⟨gb130001, 1, none⟩ = some (.string a0_1) := (blk_cell BK130001.out 1).trans rfl
        have hcz12_2 : w5.cell? ⟨gb130001, 2, none⟩ = some (.slice A0_2 l0_2.length c0_2) := (blk_cell BK130001.out 2).trans rfl
        have hfz12_0 := blk_frozen BK130001.out 0
        have hfz12_1 := blk_frozen BK130001.out 1
        have hfz12_2 := blk_frozen BK130001.out 2
        have hcz13_0 : w5.cell? ⟨gb130002, 0, none⟩ = some (.int .i64 a1_0) := (blk_cell BK130002.out 0).trans rfl
        have hcz13_1 : w5.cell? ⟨gb130002, 1, none⟩ = some (.string a1_1) := (blk_cell BK130002.out 1).trans rfl
        have hcz13_2 : w5.cell? ⟨gb130002, 2, none⟩ = some (.slice A1_2 l1_2.length c1_2) := (blk_cell BK130002.out 2).trans rfl
        have hfz13_0 := blk_frozen BK130002.out 0
        have hfz13_1 := blk_frozen BK130002.out 1
        have hfz13_2 := blk_frozen BK130002.out 2
        go_wp2
        go_meet
        case rel => exact ⟨_, (true), (by first | rfl | (simp; done) | (simp [*]; done)), H', ⟨by first | omega | exact Nat.le_refl _⟩, ⟨by (with_reducible repeat (first | refine blk_drewN ?_ _ | refine blk_drew ?_ | refine blk_alloc ?_ _)); exact BK130001.out⟩, ⟨by (with_reducible repeat (first | refine blk_drewN ?_ _ | refine blk_drew ?_ | refine blk_alloc ?_ _)); exact BK130002.out⟩, ⟨by repeat (first | (with_reducible first | exact HB.out | apply below_alloc | apply pw_below_drewN | apply below_drew1 | refine below_set ?_ GE130001.out | refine below_set ?_ GE130002.out) | exact HB.out)⟩⟩
    · rw [if_neg c6] at H
      have c6b0 : (a0_0 == a1_0) = false := beq_eq_false_iff_ne.mpr c6
      have c6b1 : (a0_0 != a1_0) = true := bne_iff_ne.mpr c6
      (first | rw [c6b0] | (simp only [i64_w, i32_w]; rw [c6b0]) | skip)
      have H' := Aside0.mk H
      clear H
      have hnb14 := NB130001_130002.out
      have hnc14 := NB130002_130001.out
      have hcz15_0 : w5.cell? ⟨gb130001, 0, none⟩ = some (.int .i64 a0_0) := (blk_cell BK130001.out 0).trans rfl
      have hcz15_1 : w5.cell? ⟨gb130001, 1, none⟩ = some (.string a0_1) := (blk_cell BK130001.out 1).trans rfl
      have hcz15_2 : w5.cell? ⟨gb130001, 2, none⟩ = some (.slice A0_2 l0_2.length c0_2) := (blk_cell BK130001.out 2).trans rfl
      have hfz15_0 := blk_frozen BK130001.out 0
      have hfz15_1 := blk_frozen BK130001.out 1
      have hfz15_2 := blk_frozen BK130001.out 2
      have hcz16_0 : w5.cell? ⟨gb130002, 0, none⟩ = some (.int .i64 a1_0) := (blk_cell BK130002.out 0).trans rfl
      have hcz16_1 : w5.cell? ⟨gb130002, 1, none⟩ = some (.string a1_1) := (blk_cell BK130002.out 1).trans rfl
      have hcz16_2 : w5.cell? ⟨gb130002, 2, none⟩ = some (.slice A1_2 l1_2.length c1_2) := (blk_cell BK130002.out 2).trans rfl
      have hfz16_0 := blk_frozen BK130002.out 0
      have hfz16_1 := blk_frozen BK130002.out 1
      have hfz16_2 := blk_frozen BK130002.out 2
      go_wp2
      go_meet
      case rel => exact ⟨_, (true), (by first | rfl | (simp; done) | (simp [*]; done)), H', ⟨by first | omega | exact Nat.le_refl _⟩, ⟨by (with_reducible repeat (first | refine blk_drewN ?_ _ | refine blk_drew ?_ | refine blk_alloc ?_ _)); exact BK130001.out⟩, ⟨by (with_reducible repeat (first | refine blk_drewN ?_ _ | refine blk_drew ?_ | refine blk_alloc ?_ _)); exact BK130002.out⟩, ⟨by repeat (first | (with_reducible first | exact HB.out | apply below_alloc | apply pw_below_drewN | apply below_drew1 | refine below_set ?_ GE130001.out | refine below_set ?_ GE130002.out) | exact HB.out)⟩⟩
  case rest =>
    clear HC3
    try clear c1
    try clear p2
    try clear c6
    try clear c6b0
    try clear c6b1
    try clear c7
    try clear c7b0
    try clear c7b1
    try clear c8
    try clear c11
    try clear c13
    try clear c14
    try clear hcz10_0
    try clear hcz10_1
    try clear hcz10_2
    try clear hcz12_0
    try clear hcz12_1
    try clear hcz12_2
    try clear hcz13_0
    try clear hcz13_1
    try clear hcz13_2
    try clear hcz15_0
    try clear hcz15_1
    try clear hcz15_2
    try clear hcz16_0
    try clear hcz16_1
    try clear hcz16_2
    try clear hcz9_0
    try clear hcz9_1
    try clear hcz9_2
    try clear hfz10_0
    try clear hfz10_1
    try clear hfz10_2
    try clear hfz12_0
    try clear hfz12_1
    try clear hfz12_2
    try clear hfz13_0
    try clear hfz13_1
    try clear hfz13_2
    try clear hfz15_0
    try clear hfz15_1
    try clear hfz15_2
    try clear hfz16_0
    try clear hfz16_1
    try clear hfz16_2
    try clear hfz9_0
    try clear hfz9_1
    try clear hfz9_2
    obtain ⟨kq, x26_2, rfl, HA, HJ2, BK130001, BK130002, HB⟩ := hcut
    cases kq with
    | zero => exact absurd HA.out (by simp [spec_EqualRegex.j0])
    | succ kj2 =>
      have H := HA.out
      clear HA
      simp only [spec_EqualRegex.j0] at H
      by_cases c17 : x26_2 = true
      · subst c17
        have H1 : (some false) = some r := by rw [if_pos rfl] at H; exact H
        clear H
        have H := H1
        clear H1
        obtain rfl := Option.some.inj H
        go_wp2
        go_ret
        exact ⟨by first | rfl | (simp [errW_none, errW_some] <;> rfl) | (simp [*, errW_none, errW_some] <;> rfl), by repeat (first | (with_reducible first | exact HB.out | apply below_alloc | apply pw_below_drewN | apply below_drew1 | refine below_set ?_ GE130001.out | refine below_set ?_ GE130002.out) | exact HB.out)⟩
      · replace c17 := Bool.eq_false_iff.mpr c17
        subst c17
        have H1 : (spec_EqualRegex.l0 kj2 0 a0_0 a0_1 l0_2 a1_0 a1_1 l1_2) = some r := by rw [if_neg (show ¬ (false = true) by decide)] at H; exact H
        clear H
        have H := H1
        clear H1
        have H' := Aside0.mk H
        clear H
        go_wp2
        first | go_loopg [5] kj2 (fun kq v5 w' => ∃ (x5_2 : Int), v5 = .int .i64 x5_2 ∧ Aside0 (spec_EqualRegex.l0 kq x5_2 a0_0 a0_1 l0_2 a1_0 a1_1 l1_2 = some r) ∧ Aside0 (kq ≤ kj2) ∧ Aside0 (w'.heap[gb130001]? = some (.cells #[.int .i64 a0_0, .string a0_1, (.slice A0_2 l0_2.length c0_2)] 97 (0, 0))) ∧ Aside0 (w'.heap[gb130002]? = some (.cells #[.int .i64 a1_0, .string a1_1, (.slice A1_2 l1_2.length c1_2)] 97 (0, 0))) ∧ Aside0 (Below w.heap.size w w')) | (simp only [Act.put, List.setIfInBounds_toArray, List.set_cons_succ, List.set_cons_zero]; go_loopg [5] kj2 (fun kq v5 w' => ∃ (x5_2 : Int), v5 = .int .i64 x5_2 ∧ Aside0 (spec_EqualRegex.l0 kq x5_2 a0_0 a0_1 l0_2 a1_0 a1_1 l1_2 = some r) ∧ Aside0 (kq ≤ kj2) ∧ Aside0 (w'.heap[gb130001]? = some (.cells #[.int .i64 a0_0, .string a0_1, (.slice A0_2 l0_2.length c0_2)] 97 (0, 0))) ∧ Aside0 (w'.heap[gb130002]? = some (.cells #[.int .i64 a1_0, .string a1_1, (.slice A1_2 l1_2.length c1_2)] 97 (0, 0))) ∧ Aside0 (Below w.heap.size w w')))
        case atStart => exact ⟨(0), (by first | rfl | (simp; done) | (simp [*]; done)), H', ⟨Nat.le_refl _⟩, ⟨by (with_reducible repeat (first | refine blk_drewN ?_ _ | refine blk_drew ?_ | refine blk_alloc ?_ _)); exact BK130001.out⟩, ⟨by (with_reducible repeat (first | refine blk_drewN ?_ _ | refine blk_drew ?_ | refine blk_alloc ?_ _)); exact BK130002.out⟩, ⟨by repeat (first | (with_reducible first | exact HB.out | apply below_alloc | apply pw_below_drewN | apply below_drew1 | refine below_set ?_ GE130001.out | refine below_set ?_ GE130002.out) | exact HB.out)⟩⟩
        case round =>
          clear H'
          try clear c1
          try clear p2
          try clear c6
          try clear c6b0
          try clear c6b1
          try clear c7
          try clear c7b0
          try clear c7b1
          try clear c8
          try clear c11
          try clear c13
          try clear c14
          try clear c17
          try clear hcz10_0
          try clear hcz10_1
          try clear hcz10_2
          try clear hcz12_0
          try clear hcz12_1
          try clear hcz12_2
          try clear hcz13_0
          try clear hcz13_1
          try clear hcz13_2
          try clear hcz15_0
          try clear hcz15_1
          try clear hcz15_2
          try clear hcz16_0
          try clear hcz16_1
          try clear hcz16_2
          try clear hcz9_0
          try clear hcz9_1
          try clear hcz9_2
          try clear hfz10_0
          try clear hfz10_1
          try clear hfz10_2
          try clear hfz12_0
          try clear hfz12_1
          try clear hfz12_2
          try clear hfz13_0
          try clear hfz13_1
          try clear hfz13_2
          try clear hfz15_0
          try clear hfz15_1
          try clear hfz15_2
          try clear hfz16_0
          try clear hfz16_1
          try clear hfz16_2
          try clear hfz9_0
          try clear hfz9_1
          try clear hfz9_2
          try clear p2
          obtain ⟨x5_2, rfl, HA, HK2, BK130001, BK130002, HB⟩ := hrel
          cases gk with
          | zero => exact absurd HA.out (by simp [spec_EqualRegex.l0])
          | succ k2 =>
            have H := HA.out
            clear HA
            simp only [spec_EqualRegex.l0] at H
            by_cases c18 : x5_2 < (l0_2.length : Int)
            · rw [if_pos c18] at H
              have c18b0 : decide (x5_2 < (l0_2.length : Int)) = true := decide_eq_true c18
              clear c18
              by_cases c19 : 0 ≤ x5_2
              · rw [if_pos c19] at H
                have c19b0 : decide (0 ≤ x5_2) = true := decide_eq_true c19
                clear c19
                by_cases c20 : x5_2 < (l1_2.length : Int)
                · rw [if_pos c20] at H
                  have c20b0 : decide (x5_2 < (l1_2.length : Int)) = true := decide_eq_true c20
                  clear c20
                  replace H := Option.bind_eq_some_iff.mp H
                  obtain ⟨t130005, A210, H⟩ := H
                  replace H : (if t130005 = true then (spec_EqualRegex.l0 k2 (wrap64 (x5_2 + 1)) a0_0 a0_1 l0_2 a1_0 a1_1 l1_2) else (some false)) = some r := H
                  have A21 := Aside0.mk A210
                  clear A210
                  by_cases c22 : t130005 = true
                  · subst c22
                    have H1 : (spec_EqualRegex.l0 k2 (wrap64 (x5_2 + 1)) a0_0 a0_1 l0_2 a1_0 a1_1 l1_2) = some r := by rw [if_pos rfl] at H; exact H
                    clear H
                    have H := H1
                    clear H1
                    have H' := Aside0.mk H
                    clear H
                    have hnb23 := NB130001_130002.out
                    have hnc23 := NB130002_130001.out
                    have hcz24_0 : wr.cell? ⟨gb130001, 0, none⟩ = some (.int .i64 a0_0) := (blk_cell BK130001.out 0).trans rfl
                    have hcz24_1 : wr.cell? ⟨gb130001, 1, none⟩ = some (.string a0_1) := (blk_cell BK130001.out 1).trans rfl
                    have hcz24_2 : wr.cell? ⟨gb130001, 2, none⟩ = some (.slice A0_2 l0_2.length c0_2) := (blk_cell BK130001.out 2).trans rfl
                    have hfz24_0 := blk_frozen BK130001.out 0
                    have hfz24_1 := blk_frozen BK130001.out 1
                    have hfz24_2 := blk_frozen BK130001.out 2
                    try go_wp2
                    have n0_ := Aside0.mk (blk_drew BK130001.out)
                    have n1_ := Aside0.mk (blk_drew BK130002.out)
                    have n2_ := Aside0.mk (below_drew1 HB.out)
                    clear BK130001
                    clear BK130002
                    clear HB
                    have BK130001 := n0_
                    have BK130002 := n1_
                    have HB := n2_
                    clear n0_ n1_ n2_
                    have p130003 : 0 ≤ (x5_2 : Int) := of_decide_eq_true (by first | (with_reducible assumption) | assumption)
                    have q130003 : x5_2 < (l0_2.length : Int) := of_decide_eq_true (by first | (with_reducible assumption) | assumption)
                    obtain ⟨ad130003, A130003_2, c130003_2, e130003, hx130003_0, hx130003_1, hx130003_2, hl130003_2, hi130003_2⟩ := at_T97 HR0_2.out x5_2 p130003 q130003
                    have hw130003_2 := hx130003_2
                    have hw130003_1 := hx130003_1
                    have hw130003_0 := hx130003_0
                    cases e130003
                    replace hx130003_0 := (HB.out.cell (World.block_lt_of_cell? w _ hx130003_0)).trans hx130003_0
                    replace hx130003_1 := (HB.out.cell (World.block_lt_of_cell? w _ hx130003_1)).trans hx130003_1
                    replace hx130003_2 := (HB.out.cell (World.block_lt_of_cell? w _ hx130003_2)).trans hx130003_2
                    have HR130003_2 := Aside0.mk hi130003_2
                    have HC130003_2 := Aside0.mk hl130003_2
                    clear hi130003_2 hl130003_2
                    replace p130003 := eq_true p130003
                    replace q130003 := eq_true q130003
                    have p130004 : 0 ≤ (x5_2 : Int) := of_decide_eq_true (by first | (with_reducible assumption) | assumption)
                    have q130004 : x5_2 < (l1_2.length : Int) := of_decide_eq_true (by first | (with_reducible assumption) | assumption)
                    obtain ⟨ad130004, A130004_2, c130004_2, e130004, hx130004_0, hx130004_1, hx130004_2, hl130004_2, hi130004_2⟩ := at_T97 HR1_2.out x5_2 p130004 q130004
                    have hw130004_2 := hx130004_2
                    have hw130004_1 := hx130004_1
                    have hw130004_0 := hx130004_0
                    cases e130004
                    replace hx130004_0 := (HB.out.cell (World.block_lt_of_cell? w _ hx130004_0)).trans hx130004_0
                    replace hx130004_1 := (HB.out.cell (World.block_lt_of_cell? w _ hx130004_1)).trans hx130004_1
                    replace hx130004_2 := (HB.out.cell (World.block_lt_of_cell? w _ hx130004_2)).trans hx130004_2
                    have HR130004_2 := Aside0.mk hi130004_2
                    have HC130004_2 := Aside0.mk hl130004_2
                    clear hi130004_2 hl130004_2
                    replace p130004 := eq_true p130004
                    replace q130004 := eq_true q130004
                    refine start_ (n := 12) (S := fun w' => w'.cell? ⟨gb130001, 0, none⟩ = some (.int .i64 a0_0) ∧ w'.cell? ⟨gb130001, 1, none⟩ = some (.string a0_1) ∧ w'.cell? ⟨gb130001, 2, none⟩ = some (.slice (some ad130003) l0_2.length c0_2) ∧ w'.cell? ⟨gb130002, 0, none⟩ = some (.int .i64 a1_0) ∧ w'.cell? ⟨gb130002, 1, none⟩ = some (.string a1_1) ∧ w'.cell? ⟨gb130002, 2, none⟩ = some (.slice (some ad130004) l1_2.length c1_2) ∧ w'.cell? (ad130003.add ((x5_2).toNat * 3)) = some (.int .i64 ((rd_T97 l0_2 x5_2).f0)) ∧ w'.cell? ⟨(ad130003.add ((x5_2).toNat * 3)).block, (ad130003.add ((x5_2).toNat * 3)).off + 1, none⟩ = some (.string ((rd_T97 l0_2 x5_2).f1)) ∧ w'.cell? ⟨(ad130003.add ((x5_2).toNat * 3)).block, (ad130003.add ((x5_2).toNat * 3)).off + 2, none⟩ = some (.slice A130003_2 ((rd_T97 l0_2 x5_2).f2).length c130003_2) ∧ w'.cell? (ad130004.add ((x5_2).toNat * 3)) = some (.int .i64 ((rd_T97 l1_2 x5_2).f0)) ∧ w'.cell? ⟨(ad130004.add ((x5_2).toNat * 3)).block, (ad130004.add ((x5_2).toNat * 3)).off + 1, none⟩ = some (.string ((rd_T97 l1_2 x5_2).f1)) ∧ w'.cell? ⟨(ad130004.add ((x5_2).toNat * 3)).block, (ad130004.add ((x5_2).toNat * 3)).off + 2, none⟩ = some (.slice A130004_2 ((rd_T97 l1_2 x5_2).f2).length c130004_2)) (ds := []) #[false, false, false, false, false, false, false, false, false, false, false, false] (by kernel_rfl) rfl rfl ⟨(blk_cell BK130001.out 0).trans rfl, (blk_cell BK130001.out 1).trans rfl, (blk_cell BK130001.out 2).trans rfl, (blk_cell BK130002.out 0).trans rfl, (blk_cell BK130002.out 1).trans rfl, (blk_cell BK130002.out 2).trans rfl, ((HB.out.cell (World.block_lt_of_cell? w _ hw130003_0)).trans hw130003_0), ((HB.out.cell (World.block_lt_of_cell? w _ hw130003_1)).trans hw130003_1), ((HB.out.cell (World.block_lt_of_cell? w _ hw130003_2)).trans hw130003_2), ((HB.out.cell (World.block_lt_of_cell? w _ hw130004_0)).trans hw130004_0), ((HB.out.cell (World.block_lt_of_cell? w _ hw130004_1)).trans hw130004_1), ((HB.out.cell (World.block_lt_of_cell? w _ hw130004_2)).trans hw130004_2)⟩ (fun hHeld => ?_); refine with_tabW spec_EqualRegex.tab6 spec_EqualRegex.bits6 (fun HT_ HW_ => ?_)
                    generalize wr.drew = w25 at BK130001 BK130002 HB HR130003_2 HR130004_2 hx130003_0 hx130003_1 hx130003_2 hx130004_0 hx130004_1 hx130004_2 hHeld ⊢
                    refine pure_ (i := 0) (N := some 34) (v := ?_) (a' := ?_) #[true, false, false, false, false, false, false, false, false, false, false, false] rfl rfl (any_of HT_.out (by kernel_rfl)) (fun _ _ _ h => h) (Or.inl ⟨by rfl, ?_⟩) ?_ ?_
                    rotate_left
                    · intro w'
                      go_simp
                      first | with_reducible rfl | (rw [if_neg (by omega)]; done)
                    rotate_left
                    · simp only [Act.put, List.setIfInBounds_toArray, List.set_cons_zero, List.set_cons_succ, i64_w, i32_w]
                      rfl
                    refine pure_ (i := 2) (N := some 36) (v := ?_) (a' := ?_) #[true, false, true, false, false, false, false, false, false, false, false, false] rfl rfl (any_of HT_.out (by kernel_rfl)) (fun _ _ _ h => h) (Or.inl ⟨by rfl, ?_⟩) ?_ ?_
                    rotate_left
                    · intro w'
                      go_simp
                      first | with_reducible rfl | (rw [if_neg (by omega)]; done)
                    rotate_left
                    · simp only [Act.put, List.setIfInBounds_toArray, List.set_cons_zero, List.set_cons_succ, i64_w, i32_w]
                      rfl
                    refine pure_ (i := 5) (N := some 39) (v := ?_) (a' := ?_) #[true, false, true, false, false, true, false, false, false, false, false, false] rfl rfl (any_of HT_.out (by kernel_rfl)) (fun _ _ _ h => h) (Or.inl ⟨by rfl, ?_⟩) ?_ ?_
                    rotate_left
                    · intro w'
                      go_simp
                      first | with_reducible rfl | (rw [if_neg (by omega)]; done)
                    rotate_left
                    · simp only [Act.put, List.setIfInBounds_toArray, List.set_cons_zero, List.set_cons_succ, i64_w, i32_w]
                      rfl
                    refine pure_ (i := 7) (N := some 41) (v := ?_) (a' := ?_) #[true, false, true, false, false, true, false, true, false, false, false, false] rfl rfl (any_of HT_.out (by kernel_rfl)) (fun _ _ _ h => h) (Or.inl ⟨by rfl, ?_⟩) ?_ ?_
                    rotate_left
                    · intro w'
                      go_simp
                      first | with_reducible rfl | (rw [if_neg (by omega)]; done)
                    rotate_left
                    · simp only [Act.put, List.setIfInBounds_toArray, List.set_cons_zero, List.set_cons_succ, i64_w, i32_w]
                      rfl
                    refine take_ (i := 1) (N := some 35) (v := ?_) (a' := ?_) #[true, true, true, false, false, true, false, true, false, false, false, false] rfl rfl (take_ofW HT_.out HW_.out (by kernel_rfl)) (fun _ _ _ h => h) (Or.inl ⟨by rfl, ?_⟩) hHeld ?_ ?_
                    rotate_left
                    · rintro w' ⟨s0, s1, s2, s3, s4, s5, s6, s7, s8, s9, s10, s11⟩
                      go_simp
                      first | with_reducible rfl | (rw [if_neg (by omega)]; done)
                    rotate_left
                    · simp only [Act.put, List.setIfInBounds_toArray, List.set_cons_zero, List.set_cons_succ, i64_w, i32_w]
                      rfl
                    refine pure_ (i := 3) (N := some 37) (v := ?_) (a' := ?_) #[true, true, true, true, false, true, false, true, false, false, false, false] rfl rfl (any_of HT_.out (by kernel_rfl)) (fun _ _ _ h => h) (Or.inl ⟨by rfl, ?_⟩) ?_ ?_
                    rotate_left
                    · intro w'
                      go_simp
                      first | with_reducible rfl | (rw [if_neg (by omega)]; done)
                    rotate_left
                    · simp only [Act.put, List.setIfInBounds_toArray, List.set_cons_zero, List.set_cons_succ, i64_w, i32_w]
                      rfl
                    refine take_ (i := 4) (N := some 38) (v := ?_) (a' := ?_) #[true, true, true, true, true, true, false, true, false, false, false, false] rfl rfl (take_ofW HT_.out HW_.out (by kernel_rfl)) (fun _ _ _ h => h) (Or.inl ⟨by rfl, ?_⟩) hHeld ?_ ?_
                    rotate_left
                    · rintro w' ⟨s0, s1, s2, s3, s4, s5, s6, s7, s8, s9, s10, s11⟩
                      go_simp
                      first | with_reducible rfl | (rw [if_neg (by omega)]; done)
                    rotate_left
                    · simp only [Act.put, List.setIfInBounds_toArray, List.set_cons_zero, List.set_cons_succ, i64_w, i32_w]
                      rfl
                    refine take_ (i := 6) (N := some 40) (v := ?_) (a' := ?_) #[true, true, true, true, true, true, true, true, false, false, false, false] rfl rfl (take_ofW HT_.out HW_.out (by kernel_rfl)) (fun _ _ _ h => h) (Or.inl ⟨by rfl, ?_⟩) hHeld ?_ ?_
                    rotate_left
                    · rintro w' ⟨s0, s1, s2, s3, s4, s5, s6, s7, s8, s9, s10, s11⟩
                      go_simp
                      first | with_reducible rfl | (rw [if_neg (by omega)]; done)
                    rotate_left
                    · simp only [Act.put, List.setIfInBounds_toArray, List.set_cons_zero, List.set_cons_succ, i64_w, i32_w]
                      rfl
                    refine pure_ (i := 8) (N := some 42) (v := ?_) (a' := ?_) #[true, true, true, true, true, true, true, true, true, false, false, false] rfl rfl (any_of HT_.out (by kernel_rfl)) (fun _ _ _ h => h) (Or.inl ⟨by rfl, ?_⟩) ?_ ?_
                    rotate_left
                    · intro w'
                      go_simp
                      first | with_reducible rfl | (rw [if_neg (by omega)]; done)
                    rotate_left
                    · simp only [Act.put, List.setIfInBounds_toArray, List.set_cons_zero, List.set_cons_succ, i64_w, i32_w]
                      rfl
                    refine take_ (i := 9) (N := some 43) (v := ?_) (a' := ?_) #[true, true, true, true, true, true, true, true, true, true, false, false] rfl rfl (take_ofW HT_.out HW_.out (by kernel_rfl)) (fun _ _ _ h => h) (Or.inl ⟨by rfl, ?_⟩) hHeld ?_ ?_
                    rotate_left
                    · rintro w' ⟨s0, s1, s2, s3, s4, s5, s6, s7, s8, s9, s10, s11⟩
                      go_simp
                      first | with_reducible rfl | (rw [if_neg (by omega)]; done)
                    rotate_left
                    · simp only [Act.put, List.setIfInBounds_toArray, List.set_cons_zero, List.set_cons_succ, i64_w, i32_w]
                      rfl
                    refine one_ (i := 10) (N := some 44) #[true, true, true, true, true, true, true, true, true, true, true, false] rfl rfl (one_of HT_.out (by kernel_rfl)) (by decide) (fun K hK => ?_)
                    refine goes_ Try.func130 (by kernel_rfl) rfl #[.agg #[.int .i64 ((rd_T97 l0_2 x5_2).f0), .string ((rd_T97 l0_2 x5_2).f1), .slice A130003_2 ((rd_T97 l0_2 x5_2).f2).length c130003_2], .agg #[.int .i64 ((rd_T97 l1_2 x5_2).f0), .string ((rd_T97 l1_2 x5_2).f1), .slice A130004_2 ((rd_T97 l1_2 x5_2).f2).length c130004_2]] (by rfl) rfl rfl (by (try simp only [List.map_toArray, List.map_cons, List.map_nil]); first | done | rfl | (simp only [List.length_drop, List.length_take]; rfl)) ?_
                    with_reducible refine (ih k2 (by have := HJ2.out; have := HK2.out; omega) ((rd_T97 l0_2 x5_2).f0) ((rd_T97 l0_2 x5_2).f1) _ _ ((rd_T97 l0_2 x5_2).f2) ((rd_T97 l1_2 x5_2).f0) ((rd_T97 l1_2 x5_2).f1) _ _ ((rd_T97 l1_2 x5_2).f2) true _ ?side1 ?side2 ?side3 ?side4 A21.out).mono ?_
                    (case side1 => repeat (first | exact (Kd.C_below HR130003_2.out HB.out) | (with_reducible refine Kd.C_alloc ?_ _) | (with_reducible refine Kd.C_drewN ?_ _) | (with_reducible refine Kd.C_drew ?_)))
                    (case side2 => exact HC130003_2.out)
                    (case side3 => repeat (first | exact (Kd.C_below HR130004_2.out HB.out) | (with_reducible refine Kd.C_alloc ?_ _) | (with_reducible refine Kd.C_drewN ?_ _) | (with_reducible refine Kd.C_drew ?_)))
                    (case side4 => exact HC130004_2.out)
                    rintro e w26 ⟨rfl, hb⟩
                    refine ⟨_, rfl, ?_⟩
                    have n0_ := Aside0.mk (blk_below (g := gb130001) (o := .cells #[.int .i64 a0_0, .string a0_1, .slice (some ad130003) l0_2.length c0_2] 97 (0, 0)) (by (with_reducible repeat (first | refine blk_drewN ?_ _ | refine blk_drew ?_ | refine blk_alloc ?_ _)); exact BK130001.out) hb)
                    have n1_ := Aside0.mk (blk_below (g := gb130002) (o := .cells #[.int .i64 a1_0, .string a1_1, .slice (some ad130004) l1_2.length c1_2] 97 (0, 0)) (by (with_reducible repeat (first | refine blk_drewN ?_ _ | refine blk_drew ?_ | refine blk_alloc ?_ _)); exact BK130002.out) hb)
                    have n2_ := Aside0.mk (below_step (by repeat (first | (with_reducible first | exact HB.out | apply below_alloc | apply pw_below_drewN | apply below_drew1 | refine below_set ?_ GE130001.out | refine below_set ?_ GE130002.out) | exact HB.out)) hb)
                    clear BK130001
                    clear BK130002
                    clear HB
                    have BK130001 := n0_
                    have BK130002 := n1_
                    have HB := n2_
                    clear n0_ n1_ n2_
                    (try clear hb)
                    (try clear hb2)
                    (try clear hk)
                    (try clear hi)
                    refine hK.out _ _ ⟨(blk_cell BK130001.out 0).trans rfl, (blk_cell BK130001.out 1).trans rfl, (blk_cell BK130001.out 2).trans rfl, (blk_cell BK130002.out 0).trans rfl, (blk_cell BK130002.out 1).trans rfl, (blk_cell BK130002.out 2).trans rfl, ((HB.out.cell (World.block_lt_of_cell? w _ hw130003_0)).trans hw130003_0), ((HB.out.cell (World.block_lt_of_cell? w _ hw130003_1)).trans hw130003_1), ((HB.out.cell (World.block_lt_of_cell? w _ hw130003_2)).trans hw130003_2), ((HB.out.cell (World.block_lt_of_cell? w _ hw130004_0)).trans hw130004_0), ((HB.out.cell (World.block_lt_of_cell? w _ hw130004_1)).trans hw130004_1), ((HB.out.cell (World.block_lt_of_cell? w _ hw130004_2)).trans hw130004_2)⟩ (fun hHeld => ?_)
                    clear hK K
                    refine norm_ (a' := ?_) ?_ ?_
                    rotate_left
                    · show Act.put _ (some 44) _ = _
                      simp only [Act.put, List.setIfInBounds_toArray, List.set_cons_zero, List.set_cons_succ, i64_w, i32_w]
                      rfl
                    refine pure_ (i := 11) (N := some 45) (v := ?_) (a' := ?_) #[true, true, true, true, true, true, true, true, true, true, true, true] rfl rfl (any_of HT_.out (by kernel_rfl)) (fun _ _ _ h => h) (Or.inl ⟨by rfl, ?_⟩) ?_ ?_
                    rotate_left
                    · intro w'
                      go_simp
                      first | with_reducible rfl | (rw [if_neg (by omega)]; done)
                    rotate_left
                    · simp only [Act.put, List.setIfInBounds_toArray, List.set_cons_zero, List.set_cons_succ, i64_w, i32_w]
                      rfl
                    refine done_ (done_of HT_.out (by kernel_rfl)) ?_
                    try go_wp2
                    go_roundg k2
                    case measure => have := HJ2.out; have := HK2.out; omega
                    case rel => exact ⟨(wrap64 (x5_2 + 1)), (by first | rfl | (simp; done) | (simp [*]; done)), H', ⟨by have := HJ2.out; have := HK2.out; omega⟩, ⟨by (with_reducible repeat (first | refine blk_drewN ?_ _ | refine blk_drew ?_ | refine blk_alloc ?_ _)); exact BK130001.out⟩, ⟨by (with_reducible repeat (first | refine blk_drewN ?_ _ | refine blk_drew ?_ | refine blk_alloc ?_ _)); exact BK130002.out⟩, ⟨by repeat (first | (with_reducible first | exact HB.out | apply below_alloc | apply pw_below_drewN | apply below_drew1 | refine below_set ?_ GE130001.out | refine below_set ?_ GE130002.out) | exact HB.out)⟩⟩
                  · replace c22 := Bool.eq_false_iff.mpr c22
                    subst c22
                    have H1 : (some false) = some r := by rw [if_neg (show ¬ (false = true) by decide)] at H; exact H
                    clear H
                    have H := H1
                    clear H1
                    obtain rfl := Option.some.inj H
                    have hnb27 := NB130001_130002.out
                    have hnc27 := NB130002_130001.out
                    have hcz28_0 : wr.cell? ⟨gb130001, 0, none⟩ = some (.int .i64 a0_0) := (blk_cell BK130001.out 0).trans rfl
                    have hcz28_1 : wr.cell? ⟨gb130001, 1, none⟩ = some (.string a0_1) := (blk_cell BK130001.out 1).trans rfl
                    have hcz28_2 : wr.cell? ⟨gb130001, 2, none⟩ = some (.slice A0_2 l0_2.length c0_2) := (blk_cell BK130001.out 2).trans rfl
                    have hfz28_0 := blk_frozen BK130001.out 0
                    have hfz28_1 := blk_frozen BK130001.out 1
                    have hfz28_2 := blk_frozen BK130001.out 2
                    try go_wp2
                    have n0_ := Aside0.mk (blk_drew BK130001.out)
                    have n1_ := Aside0.mk (blk_drew BK130002.out)
                    have n2_ := Aside0.mk (below_drew1 HB.out)
                    clear BK130001
                    clear BK130002
                    clear HB
                    have BK130001 := n0_
                    have BK130002 := n1_
                    have HB := n2_
                    clear n0_ n1_ n2_
                    have p130003 : 0 ≤ (x5_2 : Int) := of_decide_eq_true (by first | (with_reducible assumption) | assumption)
                    have q130003 : x5_2 < (l0_2.length : Int) := of_decide_eq_true (by first | (with_reducible assumption) | assumption)
                    obtain ⟨ad130003, A130003_2, c130003_2, e130003, hx130003_0, hx130003_1, hx130003_2, hl130003_2, hi130003_2⟩ := at_T97 HR0_2.out x5_2 p130003 q130003
                    have hw130003_2 := hx130003_2
                    have hw130003_1 := hx130003_1
                    have hw130003_0 := hx130003_0
                    cases e130003
                    replace hx130003_0 := (HB.out.cell (World.block_lt_of_cell? w _ hx130003_0)).trans hx130003_0
                    replace hx130003_1 := (HB.out.cell (World.block_lt_of_cell? w _ hx130003_1)).trans hx130003_1
                    replace hx130003_2 := (HB.out.cell (World.block_lt_of_cell? w _ hx130003_2)).trans hx130003_2
                    have HR130003_2 := Aside0.mk hi130003_2
                    have HC130003_2 := Aside0.mk hl130003_2
                    clear hi130003_2 hl130003_2
                    replace p130003 := eq_true p130003
                    replace q130003 := eq_true q130003
                    have p130004 : 0 ≤ (x5_2 : Int) := of_decide_eq_true (by first | (with_reducible assumption) | assumption)
                    have q130004 : x5_2 < (l1_2.length : Int) := of_decide_eq_true (by first | (with_reducible assumption) | assumption)
                    obtain ⟨ad130004, A130004_2, c130004_2, e130004, hx130004_0, hx130004_1, hx130004_2, hl130004_2, hi130004_2⟩ := at_T97 HR1_2.out x5_2 p130004 q130004
                    have hw130004_2 := hx130004_2
                    have hw130004_1 := hx130004_1
                    have hw130004_0 := hx130004_0
                    cases e130004
                    replace hx130004_0 := (HB.out.cell (World.block_lt_of_cell? w _ hx130004_0)).trans hx130004_0
                    replace hx130004_1 := (HB.out.cell (World.block_lt_of_cell? w _ hx130004_1)).trans hx130004_1
                    replace hx130004_2 := (HB.out.cell (World.block_lt_of_cell? w _ hx130004_2)).trans hx130004_2
                    have HR130004_2 := Aside0.mk hi130004_2
                    have HC130004_2 := Aside0.mk hl130004_2
                    clear hi130004_2 hl130004_2
                    replace p130004 := eq_true p130004
                    replace q130004 := eq_true q130004
                    refine start_ (n := 12) (S := fun w' => w'.cell? ⟨gb130001, 0, none⟩ = some (.int .i64 a0_0) ∧ w'.cell? ⟨gb130001, 1, none⟩ = some (.string a0_1) ∧ w'.cell? ⟨gb130001, 2, none⟩ = some (.slice (some ad130003) l0_2.length c0_2) ∧ w'.cell? ⟨gb130002, 0, none⟩ = some (.int .i64 a1_0) ∧ w'.cell? ⟨gb130002, 1, none⟩ = some (.string a1_1) ∧ w'.cell? ⟨gb130002, 2, none⟩ = some (.slice (some ad130004) l1_2.length c1_2) ∧ w'.cell? (ad130003.add ((x5_2).toNat * 3)) = some (.int .i64 ((rd_T97 l0_2 x5_2).f0)) ∧ w'.cell? ⟨(ad130003.add ((x5_2).toNat * 3)).block, (ad130003.add ((x5_2).toNat * 3)).off + 1, none⟩ = some (.string ((rd_T97 l0_2 x5_2).f1)) ∧ w'.cell? ⟨(ad130003.add ((x5_2).toNat * 3)).block, (ad130003.add ((x5_2).toNat * 3)).off + 2, none⟩ = some (.slice A130003_2 ((rd_T97 l0_2 x5_2).f2).length c130003_2) ∧ w'.cell? (ad130004.add ((x5_2).toNat * 3)) = some (.int .i64 ((rd_T97 l1_2 x5_2).f0)) ∧ w'.cell? ⟨(ad130004.add ((x5_2).toNat * 3)).block, (ad130004.add ((x5_2).toNat * 3)).off + 1, none⟩ = some (.string ((rd_T97 l1_2 x5_2).f1)) ∧ w'.cell? ⟨(ad130004.add ((x5_2).toNat * 3)).block, (ad130004.add ((x5_2).toNat * 3)).off + 2, none⟩ = some (.slice A130004_2 ((rd_T97 l1_2 x5_2).f2).length c130004_2)) (ds := []) #[false, false, false, false, false, false, false, false, false, false, false, false] (by kernel_rfl) rfl rfl ⟨(blk_cell BK130001.out 0).trans rfl, (blk_cell BK130001.out 1).trans rfl, (blk_cell BK130001.out 2).trans rfl, (blk_cell BK130002.out 0).trans rfl, (blk_cell BK130002.out 1).trans rfl, (blk_cell BK130002.out 2).trans rfl, ((HB.out.cell (World.block_lt_of_cell? w _ hw130003_0)).trans hw130003_0), ((HB.out.cell (World.block_lt_of_cell? w _ hw130003_1)).trans hw130003_1), ((HB.out.cell (World.block_lt_of_cell? w _ hw130003_2)).trans hw130003_2), ((HB.out.cell (World.block_lt_of_cell? w _ hw130004_0)).trans hw130004_0), ((HB.out.cell (World.block_lt_of_cell? w _ hw130004_1)).trans hw130004_1), ((HB.out.cell (World.block_lt_of_cell? w _ hw130004_2)).trans hw130004_2)⟩ (fun hHeld => ?_); refine with_tabW spec_EqualRegex.tab6 spec_EqualRegex.bits6 (fun HT_ HW_ => ?_)
                    generalize wr.drew = w29 at BK130001 BK130002 HB HR130003_2 HR130004_2 hx130003_0 hx130003_1 hx130003_2 hx130004_0 hx130004_1 hx130004_2 hHeld ⊢
                    refine pure_ (i := 0) (N := some 34) (v := ?_) (a' := ?_) #[true, false, false, false, false, false, false, false, false, false, false, false] rfl rfl (any_of HT_.out (by kernel_rfl)) (fun _ _ _ h => h) (Or.inl ⟨by rfl, ?_⟩) ?_ ?_
                    rotate_left
                    · intro w'
                      go_simp
                      first | with_reducible rfl | (rw [if_neg (by omega)]; done)
                    rotate_left
                    · simp only [Act.put, List.setIfInBounds_toArray, List.set_cons_zero, List.set_cons_succ, i64_w, i32_w]
                      rfl
                    refine pure_ (i := 2) (N := some 36) (v := ?_) (a' := ?_) #[true, false, true, false, false, false, false, false, false, false, false, false] rfl rfl (any_of HT_.out (by kernel_rfl)) (fun _ _ _ h => h) (Or.inl ⟨by rfl, ?_⟩) ?_ ?_
                    rotate_left
                    · intro w'
                      go_simp
                      first | with_reducible rfl | (rw [if_neg (by omega)]; done)
                    rotate_left
                    · simp only [Act.put, List.setIfInBounds_toArray, List.set_cons_zero, List.set_cons_succ, i64_w, i32_w]
                      rfl
                    refine pure_ (i := 5) (N := some 39) (v := ?_) (a' := ?_) #[true, false, true, false, false, true, false, false, false, false, false, false] rfl rfl (any_of HT_.out (by kernel_rfl)) (fun _ _ _ h => h) (Or.inl ⟨by rfl, ?_⟩) ?_ ?_
                    rotate_left
                    · intro w'
                      go_simp
                      first | with_reducible rfl | (rw [if_neg (by omega)]; done)
                    rotate_left
                    · simp only [Act.put, List.setIfInBounds_toArray, List.set_cons_zero, List.set_cons_succ, i64_w, i32_w]
                      rfl
                    refine pure_ (i := 7) (N := some 41) (v := ?_) (a' := ?_) #[true, false, true, false, false, true, false, true, false, false, false, false] rfl rfl (any_of HT_.out (by kernel_rfl)) (fun _ _ _ h => h) (Or.inl ⟨by rfl, ?_⟩) ?_ ?_
                    rotate_left
                    · intro w'
                      go_simp
                      first | with_reducible rfl | (rw [if_neg (by omega)]; done)
                    rotate_left
                    · simp only [Act.put, List.setIfInBounds_toArray, List.set_cons_zero, List.set_cons_succ, i64_w, i32_w]
                      rfl
                    refine take_ (i := 1) (N := some 35) (v := ?_) (a' := ?_) #[true, true, true, false, false, true, false, true, false, false, false, false] rfl rfl (take_ofW HT_.out HW_.out (by kernel_rfl)) (fun _ _ _ h => h) (Or.inl ⟨by rfl, ?_⟩) hHeld ?_ ?_
                    rotate_left
                    · rintro w' ⟨s0, s1, s2, s3, s4, s5, s6, s7, s8, s9, s10, s11⟩
                      go_simp
                      first | with_reducible rfl | (rw [if_neg (by omega)]; done)
                    rotate_left
                    · simp only [Act.put, List.setIfInBounds_toArray, List.set_cons_zero, List.set_cons_succ, i64_w, i32_w]
                      rfl
                    refine pure_ (i := 3) (N := some 37) (v := ?_) (a' := ?_) #[true, true, true, true, false, true, false, true, false, false, false, false] rfl rfl (any_of HT_.out (by kernel_rfl)) (fun _ _ _ h => h) (Or.inl ⟨by rfl, ?_⟩) ?_ ?_
                    rotate_left
                    · intro w'
                      go_simp
                      first | with_reducible rfl | (rw [if_neg (by omega)]; done)
                    rotate_left
                    · simp only [Act.put, List.setIfInBounds_toArray, List.set_cons_zero, List.set_cons_succ, i64_w, i32_w]
                      rfl
                    refine take_ (i := 4) (N := some 38) (v := ?_) (a' := ?_) #[true, true, true, true, true, true, false, true, false, false, false, false] rfl rfl (take_ofW HT_.out HW_.out (by kernel_rfl)) (fun _ _ _ h => h) (Or.inl ⟨by rfl, ?_⟩) hHeld ?_ ?_
                    rotate_left
                    · rintro w' ⟨s0, s1, s2, s3, s4, s5, s6, s7, s8, s9, s10, s11⟩
                      go_simp
                      first | with_reducible rfl | (rw [if_neg (by omega)]; done)
                    rotate_left
                    · simp only [Act.put, List.setIfInBounds_toArray, List.set_cons_zero, List.set_cons_succ, i64_w, i32_w]
                      rfl
                    refine take_ (i := 6) (N := some 40) (v := ?_) (a' := ?_) #[true, true, true, true, true, true, true, true, false, false, false, false] rfl rfl (take_ofW HT_.out HW_.out (by kernel_rfl)) (fun _ _ _ h => h) (Or.inl ⟨by rfl, ?_⟩) hHeld ?_ ?_
                    rotate_left
                    · rintro w' ⟨s0, s1, s2, s3, s4, s5, s6, s7, s8, s9, s10, s11⟩
                      go_simp
                      first | with_reducible rfl | (rw [if_neg (by omega)]; done)
                    rotate_left
                    · simp only [Act.put, List.setIfInBounds_toArray, List.set_cons_zero, List.set_cons_succ, i64_w, i32_w]
                      rfl
                    refine pure_ (i := 8) (N := some 42) (v := ?_) (a' := ?_) #[true, true, true, true, true, true, true, true, true, false, false, false] rfl rfl (any_of HT_.out (by kernel_rfl)) (fun _ _ _ h => h) (Or.inl ⟨by rfl, ?_⟩) ?_ ?_
                    rotate_left
                    · intro w'
                      go_simp
                      first | with_reducible rfl | (rw [if_neg (by omega)]; done)
                    rotate_left
                    · simp only [Act.put, List.setIfInBounds_toArray, List.set_cons_zero, List.set_cons_succ, i64_w, i32_w]
                      rfl
                    refine take_ (i := 9) (N := some 43) (v := ?_) (a' := ?_) #[true, true, true, true, true, true, true, true, true, true, false, false] rfl rfl (take_ofW HT_.out HW_.out (by kernel_rfl)) (fun _ _ _ h => h) (Or.inl ⟨by rfl, ?_⟩) hHeld ?_ ?_
                    rotate_left
                    · rintro w' ⟨s0, s1, s2, s3, s4, s5, s6, s7, s8, s9, s10, s11⟩
                      go_simp
                      first | with_reducible rfl | (rw [if_neg (by omega)]; done)
                    rotate_left
                    · simp only [Act.put, List.setIfInBounds_toArray, List.set_cons_zero, List.set_cons_succ, i64_w, i32_w]
                      rfl
                    refine one_ (i := 10) (N := some 44) #[true, true, true, true, true, true, true, true, true, true, true, false] rfl rfl (one_of HT_.out (by kernel_rfl)) (by decide) (fun K hK => ?_)
                    refine goes_ Try.func130 (by kernel_rfl) rfl #[.agg #[.int .i64 ((rd_T97 l0_2 x5_2).f0), .string ((rd_T97 l0_2 x5_2).f1), .slice A130003_2 ((rd_T97 l0_2 x5_2).f2).length c130003_2], .agg #[.int .i64 ((rd_T97 l1_2 x5_2).f0), .string ((rd_T97 l1_2 x5_2).f1), .slice A130004_2 ((rd_T97 l1_2 x5_2).f2).length c130004_2]] (by rfl) rfl rfl (by (try simp only [List.map_toArray, List.map_cons, List.map_nil]); first | done | rfl | (simp only [List.length_drop, List.length_take]; rfl)) ?_
                    with_reducible refine (ih k2 (by have := HJ2.out; have := HK2.out; omega) ((rd_T97 l0_2 x5_2).f0) ((rd_T97 l0_2 x5_2).f1) _ _ ((rd_T97 l0_2 x5_2).f2) ((rd_T97 l1_2 x5_2).f0) ((rd_T97 l1_2 x5_2).f1) _ _ ((rd_T97 l1_2 x5_2).f2) false _ ?side1 ?side2 ?side3 ?side4 A21.out).mono ?_
                    (case side1 => repeat (first | exact (Kd.C_below HR130003_2.out HB.out) | (with_reducible refine Kd.C_alloc ?_ _) | (with_reducible refine Kd.C_drewN ?_ _) | (with_reducible refine Kd.C_drew ?_)))
                    (case side2 => exact HC130003_2.out)
                    (case side3 => repeat (first | exact (Kd.C_below HR130004_2.out HB.out) | (with_reducible refine Kd.C_alloc ?_ _) | (with_reducible refine Kd.C_drewN ?_ _) | (with_reducible refine Kd.C_drew ?_)))
                    (case side4 => exact HC130004_2.out)
                    rintro e w30 ⟨rfl, hb⟩
                    refine ⟨_, rfl, ?_⟩
                    have n0_ := Aside0.mk (blk_below (g := gb130001) (o := .cells #[.int .i64 a0_0, .string a0_1, .slice (some ad130003) l0_2.length c0_2] 97 (0, 0)) (by (with_reducible repeat (first | refine blk_drewN ?_ _ | refine blk_drew ?_ | refine blk_alloc ?_ _)); exact BK130001.out) hb)
                    have n1_ := Aside0.mk (blk_below (g := gb130002) (o := .cells #[.int .i64 a1_0, .string a1_1, .slice (some ad130004) l1_2.length c1_2] 97 (0, 0)) (by (with_reducible repeat (first | refine blk_drewN ?_ _ | refine blk_drew ?_ | refine blk_alloc ?_ _)); exact BK130002.out) hb)
                    have n2_ := Aside0.mk (below_step (by repeat (first | (with_reducible first | exact HB.out | apply below_alloc | apply pw_below_drewN | apply below_drew1 | refine below_set ?_ GE130001.out | refine below_set ?_ GE130002.out) | exact HB.out)) hb)
                    clear BK130001
                    clear BK130002
                    clear HB
                    have BK130001 := n0_
                    have BK130002 := n1_
                    have HB := n2_
                    clear n0_ n1_ n2_
                    (try clear hb)
                    (try clear hb2)
                    (try clear hk)
                    (try clear hi)
                    refine hK.out _ _ ⟨(blk_cell BK130001.out 0).trans rfl, (blk_cell BK130001.out 1).trans rfl, (blk_cell BK130001.out 2).trans rfl, (blk_cell BK130002.out 0).trans rfl, (blk_cell BK130002.out 1).trans rfl, (blk_cell BK130002.out 2).trans rfl, ((HB.out.cell (World.block_lt_of_cell? w _ hw130003_0)).trans hw130003_0), ((HB.out.cell (World.block_lt_of_cell? w _ hw130003_1)).trans hw130003_1), ((HB.out.cell (World.block_lt_of_cell? w _ hw130003_2)).trans hw130003_2), ((HB.out.cell (World.block_lt_of_cell? w _ hw130004_0)).trans hw130004_0), ((HB.out.cell (World.block_lt_of_cell? w _ hw130004_1)).trans hw130004_1), ((HB.out.cell (World.block_lt_of_cell? w _ hw130004_2)).trans hw130004_2)⟩ (fun hHeld => ?_)
                    clear hK K
                    refine norm_ (a' := ?_) ?_ ?_
                    rotate_left
                    · show Act.put _ (some 44) _ = _
                      simp only [Act.put, List.setIfInBounds_toArray, List.set_cons_zero, List.set_cons_succ, i64_w, i32_w]
                      rfl
                    refine pure_ (i := 11) (N := some 45) (v := ?_) (a' := ?_) #[true, true, true, true, true, true, true, true, true, true, true, true] rfl rfl (any_of HT_.out (by kernel_rfl)) (fun _ _ _ h => h) (Or.inl ⟨by rfl, ?_⟩) ?_ ?_
                    rotate_left
                    · intro w'
                      go_simp
                      first | with_reducible rfl | (rw [if_neg (by omega)]; done)
                    rotate_left
                    · simp only [Act.put, List.setIfInBounds_toArray, List.set_cons_zero, List.set_cons_succ, i64_w, i32_w]
                      rfl
                    refine done_ (done_of HT_.out (by kernel_rfl)) ?_
                    try go_wp2
                    go_ret
                    exact ⟨by first | rfl | (simp [errW_none, errW_some] <;> rfl) | (simp [*, errW_none, errW_some] <;> rfl), by repeat (first | (with_reducible first | exact HB.out | apply below_alloc | apply pw_below_drewN | apply below_drew1 | refine below_set ?_ GE130001.out | refine below_set ?_ GE130002.out) | exact HB.out)⟩
                · rw [if_neg c20] at H
                  exact absurd H (by simp)
              · rw [if_neg c19] at H
                exact absurd H (by simp)
            · rw [if_neg c18] at H
              have c18b0 : decide (x5_2 < (l0_2.length : Int)) = false := decide_eq_false c18
              clear c18
              obtain rfl := Option.some.inj H
              have hnb31 := NB130001_130002.out
              have hnc31 := NB130002_130001.out
              have hcz32_0 : wr.cell? ⟨gb130001, 0, none⟩ = some (.int .i64 a0_0) := (blk_cell BK130001.out 0).trans rfl
              have hcz32_1 : wr.cell? ⟨gb130001, 1, none⟩ = some (.string a0_1) := (blk_cell BK130001.out 1).trans rfl
              have hcz32_2 : wr.cell? ⟨gb130001, 2, none⟩ = some (.slice A0_2 l0_2.length c0_2) := (blk_cell BK130001.out 2).trans rfl
              have hfz32_0 := blk_frozen BK130001.out 0
              have hfz32_1 := blk_frozen BK130001.out 1
              have hfz32_2 := blk_frozen BK130001.out 2
              go_wp2
              go_ret
              exact ⟨by first | rfl | (simp [errW_none, errW_some] <;> rfl) | (simp [*, errW_none, errW_some] <;> rfl), by repeat (first | (with_reducible first | exact HB.out | apply below_alloc | apply pw_below_drewN | apply below_drew1 | refine below_set ?_ GE130001.out | refine below_set ?_ GE130002.out) | exact HB.out)⟩


end Go.Proofs.Ytkefiajemifklaa.A


namespace Go.Proofs.Ytkefiajemifklaa.A
open Go.RowKit Go.Proofs.Ytkefiajemifklaa.Ext Go.Proofs.YtkefiajemifklaaW.PrintWords Go.Proofs.YtkefiajemifklaaW.PrintLast Go.Proofs.YtkefiajemifklaaW.PrintMore
attribute [local go_sem] max2_int min2_int max_two min_two max_three min_three max_four min_four   -- for this text's walks alone
set_option linter.unusedVariables false
set_option linter.unusedSimpArgs false

/-! ### spec_EqualConstraint: function 59 -/
def spec_EqualConstraint.f (k : Nat) (a0_0 : Int) (a0_1 : ByteArray) (a0_2 : ByteArray) (a0_3 : Int) (a0_4 : ByteArray) (l0_5 : List (S97)) (l0_6 : List Int) (a0_7 : Int) (a1_0 : Int) (a1_1 : ByteArray) (a1_2 : ByteArray) (a1_3 : Int) (a1_4 : ByteArray) (l1_5 : List (S97)) (l1_6 : List Int) (a1_7 : Int) : Option (Bool) := if a0_0 = a1_0 then (if a0_1.toList = a1_1.toList then (if a0_2.toList = a1_2.toList then ((spec_EqualRegex.f k a0_3 a0_4 l0_5 a1_3 a1_4 l1_5).bind fun t59003 => (if t59003 = true then ((spec_l5Ints.f k l0_6 l1_6).bind fun t59004 => (if t59004 = true then (some (a0_7 == a1_7)) else (some false))) else (some false))) else (some false)) else (some false)) else (some false)
theorem spec_EqualConstraint.mono : ∀ a0 a1 a2 a3 a4 a5 a6 a7 a8 a9 a10 a11 a12 a13 a14 a15 k, LeO (spec_EqualConstraint.f k a0 a1 a2 a3 a4 a5 a6 a7 a8 a9 a10 a11 a12 a13 a14 a15) (spec_EqualConstraint.f (k + 1) a0 a1 a2 a3 a4 a5 a6 a7 a8 a9 a10 a11 a12 a13 a14 a15) := by
  intro a0 a1 a2 a3 a4 a5 a6 a7 a8 a9 a10 a11 a12 a13 a14 a15 k
  unfold spec_EqualConstraint.f
  repeat' first
      | (with_reducible exact spec_EqualRegex.mono _ _ _ _ _ _ _)
      | (with_reducible exact spec_l5Ints.mono _ _ _)
      | (with_reducible exact LeO.refl _)
      | (with_reducible exact LeO.none _)
      | (with_reducible refine LeO.ite ?_ ?_)
      | (with_reducible refine LeO.bind ?_ (fun _ => ?_))
      | exact spec_EqualRegex.mono _ _ _ _ _ _ _
      | exact spec_l5Ints.mono _ _ _
      | exact LeO.none _
      | refine LeO.ite ?_ ?_
      | refine LeO.bind ?_ (fun _ => ?_)
set_option maxHeartbeats 8000000 in
set_option maxRecDepth 100000 in
theorem spec_EqualConstraint.calls (k : Nat) (a0_0 : Int) (a0_1 : ByteArray) (a0_2 : ByteArray) (a0_3 : Int) (a0_4 : ByteArray) (A0_5 : Option Addr) (c0_5 : Nat) (l0_5 : List (S97)) (A0_6 : Option Addr) (c0_6 : Nat) (l0_6 : List Int) (a0_7 : Int) (a1_0 : Int) (a1_1 : ByteArray) (a1_2 : ByteArray) (a1_3 : Int) (a1_4 : ByteArray) (A1_5 : Option Addr) (c1_5 : Nat) (l1_5 : List (S97)) (A1_6 : Option Addr) (c1_6 : Nat) (l1_6 : List Int) (a1_7 : Int) (r : Bool) (w : World) (hr0_5 : Kd.C k97 w A0_5 l0_5.length l0_5) (hc0_5 : l0_5.length ≤ c0_5) (hr0_6 : Kd.C (Kd.int .i64) w A0_6 l0_6.length l0_6) (hc0_6 : l0_6.length ≤ c0_6) (hr1_5 : Kd.C k97 w A1_5 l1_5.length l1_5) (hc1_5 : l1_5.length ≤ c1_5) (hr1_6 : Kd.C (Kd.int .i64) w A1_6 l1_6.length l1_6) (hc1_6 : l1_6.length ≤ c1_6) (h : spec_EqualConstraint.f k a0_0 a0_1 a0_2 a0_3 a0_4 l0_5 l0_6 a0_7 a1_0 a1_1 a1_2 a1_3 a1_4 l1_5 l1_6 a1_7 = some r) :
    Calls Try.prog 59 #[.agg #[.int .i64 a0_0, .string a0_1, .string a0_2, .int .i64 a0_3, .string a0_4, .slice A0_5 l0_5.length c0_5, .slice A0_6 l0_6.length c0_6, .int .i64 a0_7], .agg #[.int .i64 a1_0, .string a1_1, .string a1_2, .int .i64 a1_3, .string a1_4, .slice A1_5 l1_5.length c1_5, .slice A1_6 l1_6.length c1_6, .int .i64 a1_7]] w fun e w' => e = .returned (.bool r) ∧ Below w.heap.size w w' := by
  have hu99 := Try.underlying99
  have hu97 := Try.underlying97
  have HR0_5 := Aside0.mk hr0_5
  have HC0_5 := Aside0.mk hc0_5
  clear hr0_5 hc0_5
  have HR0_6 := Aside0.mk hr0_6
  have HC0_6 := Aside0.mk hc0_6
  clear hr0_6 hc0_6
  have HR1_5 := Aside0.mk hr1_5
  have HC1_5 := Aside0.mk hc1_5
  clear hr1_5 hc1_5
  have HR1_6 := Aside0.mk hr1_6
  have HC1_6 := Aside0.mk hc1_6
  clear hr1_6 hc1_6
  have HB := Aside0.mk (Below.refl w.heap.size w)
  have H : (if a0_0 = a1_0 then (if a0_1.toList = a1_1.toList then (if a0_2.toList = a1_2.toList then ((spec_EqualRegex.f k a0_3 a0_4 l0_5 a1_3 a1_4 l1_5).bind fun t59003 => (if t59003 = true then ((spec_l5Ints.f k l0_6 l1_6).bind fun t59004 => (if t59004 = true then (some (a0_7 == a1_7)) else (some false))) else (some false))) else (some false)) else (some false)) else (some false)) = some r := h
  clear h
  by_cases c3 : a0_0 = a1_0
  · rw [if_pos c3] at H
    have c3b0 : (a0_0 == a1_0) = true := beq_iff_eq.mpr c3
    have c3b1 : (a0_0 != a1_0) = false := bne_eq_false_iff_eq.mpr c3
    clear c3
    by_cases c4 : a0_1.toList = a1_1.toList
    · rw [if_pos c4] at H
      have c4b0 : (a0_1.toList == a1_1.toList) = true := beq_iff_eq.mpr c4
      have c4b1 : (a0_1.toList != a1_1.toList) = false := bne_eq_false_iff_eq.mpr c4
      clear c4
      by_cases c5 : a0_2.toList = a1_2.toList
      · rw [if_pos c5] at H
        have c5b0 : (a0_2.toList == a1_2.toList) = true := beq_iff_eq.mpr c5
        have c5b1 : (a0_2.toList != a1_2.toList) = false := bne_eq_false_iff_eq.mpr c5
        clear c5
        replace H := Option.bind_eq_some_iff.mp H
        obtain ⟨t59003, A60, H⟩ := H
        replace H : (if t59003 = true then ((spec_l5Ints.f k l0_6 l1_6).bind fun t59004 => (if t59004 = true then (some (a0_7 == a1_7)) else (some false))) else (some false)) = some r := H
        have A6 := Aside0.mk A60
        clear A60
        by_cases c7 : t59003 = true
        · subst c7
          have H1 : ((spec_l5Ints.f k l0_6 l1_6).bind fun t59004 => (if t59004 = true then (some (a0_7 == a1_7)) else (some false))) = some r := by rw [if_pos rfl] at H; exact H
          clear H
          have H := H1
          clear H1
          replace H := Option.bind_eq_some_iff.mp H
          obtain ⟨t59004, A80, H⟩ := H
          replace H : (if t59004 = true then (some (a0_7 == a1_7)) else (some false)) = some r := H
          have A8 := Aside0.mk A80
          clear A80
          by_cases c9 : t59004 = true
          · subst c9
            have H1 : (some (a0_7 == a1_7)) = some r := by rw [if_pos rfl] at H; exact H
            clear H
            have H := H1
            clear H1
            obtain rfl := Option.some.inj H
            go_enter Try.func59, Try.ntmps59
            go_wp2_with (first | ((with_reducible refine gate_dst (N := 2) rfl ?_); refine box_event ?hg (N := 2) ?hd (cs := #[.int .i64 a0_0, .string a0_1, .string a0_2, .int .i64 a0_3, .string a0_4, .slice A0_5 l0_5.length c0_5, .slice A0_6 l0_6.length c0_6, .int .i64 a0_7]) (t := 99) ?hr ?_; (case hd => rfl); (case hg => rfl); (case hr => first | (go_simp; done) | (go_simp; rfl)); intro gb59001 hg w10 hbox hb; have n0_ := Aside0.mk (below_step (by repeat (first | (with_reducible first | exact HB.out | apply below_alloc | apply pw_below_drewN | apply below_drew1) | exact HB.out)) hb); have n1_ := Aside0.mk (hbox); have n2_ := Aside0.mk ((by rw [hg]; exact (below_size (by repeat (first | (with_reducible first | exact HB.out | apply below_alloc | apply pw_below_drewN | apply below_drew1) | exact HB.out))) : w.heap.size ≤ gb59001)); have n3_ := Aside0.mk ((by rw [hg]; exact (below_size (by repeat (first | (with_reducible first | exact HB.out | apply below_alloc | apply pw_below_drewN | apply below_drew1) | exact HB.out))) : w.heap.size ≤ gb59001)); clear HB; have HB := n0_; have BK59001 := n1_; have GW59001 := n2_; have GE59001 := n3_; clear n0_ n1_ n2_ n3_; clear hb hbox hg) | ((with_reducible refine gate_dst (N := 3) rfl ?_); refine box_event ?hg (N := 3) ?hd (cs := #[.int .i64 a1_0, .string a1_1, .string a1_2, .int .i64 a1_3, .string a1_4, .slice A1_5 l1_5.length c1_5, .slice A1_6 l1_6.length c1_6, .int .i64 a1_7]) (t := 99) ?hr ?_; (case hd => rfl); (case hg => rfl); (case hr => first | (go_simp; done) | (go_simp; rfl)); intro gb59002 hg w11 hbox hb; have n0_ := Aside0.mk (blk_below (g := gb59001) (o := .cells #[.int .i64 a0_0, .string a0_1, .string a0_2, .int .i64 a0_3, .string a0_4, .slice A0_5 l0_5.length c0_5, .slice A0_6 l0_6.length c0_6, .int .i64 a0_7] 99 (0, 0)) (by (with_reducible repeat (first | refine blk_drewN ?_ _ | refine blk_drew ?_ | refine blk_alloc ?_ _)); exact BK59001.out) hb); have n1_ := Aside0.mk (below_step (by repeat (first | (with_reducible first | exact HB.out | apply below_alloc | apply pw_below_drewN | apply below_drew1 | refine below_set ?_ GE59001.out) | exact HB.out)) hb); have n2_ := Aside0.mk (hbox); have n3_ := Aside0.mk ((by rw [hg]; exact (below_size (by repeat (first | (with_reducible first | exact HB.out | apply below_alloc | apply pw_below_drewN | apply below_drew1 | refine below_set ?_ GE59001.out) | exact HB.out))) : w.heap.size ≤ gb59002)); have n4_ := Aside0.mk ((by rw [hg]; exact (below_size (by repeat (first | (with_reducible first | exact HB.out | apply below_alloc | apply pw_below_drewN | apply below_drew1 | refine below_set ?_ GE59001.out) | exact HB.out))) : w.heap.size ≤ gb59002)); have n5_ := Aside0.mk ((by rw [hg]; exact Nat.ne_of_lt (blk_lt (g := gb59001) (o := .cells #[.int .i64 a0_0, .string a0_1, .string a0_2, .int .i64 a0_3, .string a0_4, .slice A0_5 l0_5.length c0_5, .slice A0_6 l0_6.length c0_6, .int .i64 a0_7] 99 (0, 0)) (by (with_reducible repeat (first | refine blk_drewN ?_ _ | refine blk_drew ?_ | refine blk_alloc ?_ _)); exact BK59001.out)) : gb59001 ≠ gb59002)); have n6_ := Aside0.mk ((by rw [hg]; exact Nat.ne_of_gt (blk_lt (g := gb59001) (o := .cells #[.int .i64 a0_0, .string a0_1, .string a0_2, .int .i64 a0_3, .string a0_4, .slice A0_5 l0_5.length c0_5, .slice A0_6 l0_6.length c0_6, .int .i64 a0_7] 99 (0, 0)) (by (with_reducible repeat (first | refine blk_drewN ?_ _ | refine blk_drew ?_ | refine blk_alloc ?_ _)); exact BK59001.out)) : gb59002 ≠ gb59001)); clear BK59001; clear HB; have BK59001 := n0_; have HB := n1_; have BK59002 := n2_; have GW59002 := n3_; have GE59002 := n4_; have NB59001_59002 := n5_; have NB59002_59001 := n6_; clear n0_ n1_ n2_ n3_ n4_ n5_ n6_; clear hb hbox hg; have hnb12 := NB59001_59002.out; have hnc12 := NB59002_59001.out; have hcz13_0 : w11.cell? ⟨gb59001, 0, none⟩ = some (.int .i64 a0_0) := (blk_cell BK59001.out 0).trans rfl; have hcz13_1 : w11.cell? ⟨gb59001, 1, none⟩ = some (.string a0_1) := (blk_cell BK59001.out 1).trans rfl; have hcz13_2 : w11.cell? ⟨gb59001, 2, none⟩ = some (.string a0_2) := (blk_cell BK59001.out 2).trans rfl; have hcz13_3 : w11.cell? ⟨gb59001, 3, none⟩ = some (.int .i64 a0_3) := (blk_cell BK59001.out 3).trans rfl; have hcz13_4 : w11.cell? ⟨gb59001, 4, none⟩ = some (.string a0_4) := (blk_cell BK59001.out 4).trans rfl; have hcz13_5 : w11.cell? ⟨gb59001, 5, none⟩ = some (.slice A0_5 l0_5.length c0_5) := (blk_cell BK59001.out 5).trans rfl; have hcz13_6 : w11.cell? ⟨gb59001, 6, none⟩ = some (.slice A0_6 l0_6.length c0_6) := (blk_cell BK59001.out 6).trans rfl; have hcz13_7 : w11.cell? ⟨gb59001, 7, none⟩ = some (.int .i64 a0_7) := (blk_cell BK59001.out 7).trans rfl; have hfz13_0 := blk_frozen BK59001.out 0; have hfz13_1 := blk_frozen BK59001.out 1; have hfz13_2 := blk_frozen BK59001.out 2; have hfz13_3 := blk_frozen BK59001.out 3; have hfz13_4 := blk_frozen BK59001.out 4; have hfz13_5 := blk_frozen BK59001.out 5; have hfz13_6 := blk_frozen BK59001.out 6; have hfz13_7 := blk_frozen BK59001.out 7; have hcz14_0 : w11.cell? ⟨gb59002, 0, none⟩ = some (.int .i64 a1_0) := (blk_cell BK59002.out 0).trans rfl; have hcz14_1 : w11.cell? ⟨gb59002, 1, none⟩ = some (.string a1_1) := (blk_cell BK59002.out 1).trans rfl; have hcz14_2 : w11.cell? ⟨gb59002, 2, none⟩ = some (.string a1_2) := (blk_cell BK59002.out 2).trans rfl; have hcz14_3 : w11.cell? ⟨gb59002, 3, none⟩ = some (.int .i64 a1_3) := (blk_cell BK59002.out 3).trans rfl; have hcz14_4 : w11.cell? ⟨gb59002, 4, none⟩ = some (.string a1_4) := (blk_cell BK59002.out 4).trans rfl; have hcz14_5 : w11.cell? ⟨gb59002, 5, none⟩ = some (.slice A1_5 l1_5.length c1_5) := (blk_cell BK59002.out 5).trans rfl; have hcz14_6 : w11.cell? ⟨gb59002, 6, none⟩ = some (.slice A1_6 l1_6.length c1_6) := (blk_cell BK59002.out 6).trans rfl; have hcz14_7 : w11.cell? ⟨gb59002, 7, none⟩ = some (.int .i64 a1_7) := (blk_cell BK59002.out 7).trans rfl; have hfz14_0 := blk_frozen BK59002.out 0; have hfz14_1 := blk_frozen BK59002.out 1; have hfz14_2 := blk_frozen BK59002.out 2; have hfz14_3 := blk_frozen BK59002.out 3; have hfz14_4 := blk_frozen BK59002.out 4; have hfz14_5 := blk_frozen BK59002.out 5; have hfz14_6 := blk_frozen BK59002.out 6; have hfz14_7 := blk_frozen BK59002.out 7) | (go_at_call 130; (with_reducible refine (spec_EqualRegex.calls k a0_3 a0_4 _ _ l0_5 a1_3 a1_4 _ _ l1_5 true _ ?side1 ?side2 ?side3 ?side4 A6.out).mono ?_); (case side1 => repeat (first | exact (Kd.C_below HR0_5.out HB.out) | (with_reducible refine Kd.C_alloc ?_ _) | (with_reducible refine Kd.C_drewN ?_ _) | (with_reducible refine Kd.C_drew ?_))); (case side2 => exact HC0_5.out); (case side3 => repeat (first | exact (Kd.C_below HR1_5.out HB.out) | (with_reducible refine Kd.C_alloc ?_ _) | (with_reducible refine Kd.C_drewN ?_ _) | (with_reducible refine Kd.C_drew ?_))); (case side4 => exact HC1_5.out); rintro e w15 ⟨rfl, hb⟩; have n0_ := Aside0.mk (blk_below (g := gb59001) (o := .cells #[.int .i64 a0_0, .string a0_1, .string a0_2, .int .i64 a0_3, .string a0_4, .slice A0_5 l0_5.length c0_5, .slice A0_6 l0_6.length c0_6, .int .i64 a0_7] 99 (0, 0)) (by (with_reducible repeat (first | refine blk_drewN ?_ _ | refine blk_drew ?_ | refine blk_alloc ?_ _)); exact BK59001.out) hb); have n1_ := Aside0.mk (blk_below (g := gb59002) (o := .cells #[.int .i64 a1_0, .string a1_1, .string a1_2, .int .i64 a1_3, .string a1_4, .slice A1_5 l1_5.length c1_5, .slice A1_6 l1_6.length c1_6, .int .i64 a1_7] 99 (0, 0)) (by (with_reducible repeat (first | refine blk_drewN ?_ _ | refine blk_drew ?_ | refine blk_alloc ?_ _)); exact BK59002.out) hb); have n2_ := Aside0.mk (below_step (by repeat (first | (with_reducible first | exact HB.out | apply below_alloc | apply pw_below_drewN | apply below_drew1 | refine below_set ?_ GE59001.out | refine below_set ?_ GE59002.out) | exact HB.out)) hb); clear BK59001; clear BK59002; clear HB; have BK59001 := n0_; have BK59002 := n1_; have HB := n2_; clear n0_ n1_ n2_; (try clear hb); (try clear hb2); (try clear hk); (try clear hi); have hcz16_0 : w15.cell? ⟨gb59001, 0, none⟩ = some (.int .i64 a0_0) := (blk_cell BK59001.out 0).trans rfl; have hcz16_1 : w15.cell? ⟨gb59001, 1, none⟩ = some (.string a0_1) := (blk_cell BK59001.out 1).trans rfl; have hcz16_2 : w15.cell? ⟨gb59001, 2, none⟩ = some (.string a0_2) := (blk_cell BK59001.out 2).trans rfl; have hcz16_3 : w15.cell? ⟨gb59001, 3, none⟩ = some (.int .i64 a0_3) := (blk_cell BK59001.out 3).trans rfl; have hcz16_4 : w15.cell? ⟨gb59001, 4, none⟩ = some (.string a0_4) := (blk_cell BK59001.out 4).trans rfl; have hcz16_5 : w15.cell? ⟨gb59001, 5, none⟩ = some (.slice A0_5 l0_5.length c0_5) := (blk_cell BK59001.out 5).trans rfl; have hcz16_6 : w15.cell? ⟨gb59001, 6, none⟩ = some (.slice A0_6 l0_6.length c0_6) := (blk_cell BK59001.out 6).trans rfl; have hcz16_7 : w15.cell? ⟨gb59001, 7, none⟩ = some (.int .i64 a0_7) := (blk_cell BK59001.out 7).trans rfl; have hfz16_0 := blk_frozen BK59001.out 0; have hfz16_1 := blk_frozen BK59001.out 1; have hfz16_2 := blk_frozen BK59001.out 2; have hfz16_3 := blk_frozen BK59001.out 3; have hfz16_4 := blk_frozen BK59001.out 4; have hfz16_5 := blk_frozen BK59001.out 5; have hfz16_6 := blk_frozen BK59001.out 6; have hfz16_7 := blk_frozen BK59001.out 7; have hcz17_0 : w15.cell? ⟨gb59002, 0, none⟩ = some (.int .i64 a1_0) := (blk_cell BK59002.out 0).trans rfl; have hcz17_1 : w15.cell? ⟨gb59002, 1, none⟩ = some (.string a1_1) := (blk_cell BK59002.out 1).trans rfl; have hcz17_2 : w15.cell? ⟨gb59002, 2, none⟩ = some (.string a1_2) := (blk_cell BK59002.out 2).trans rfl; have hcz17_3 : w15.cell? ⟨gb59002, 3, none⟩ = some (.int .i64 a1_3) := (blk_cell BK59002.out 3).trans rfl; have hcz17_4 : w15.cell? ⟨gb59002, 4, none⟩ = some (.string a1_4) := (blk_cell BK59002.out 4).trans rfl; have hcz17_5 : w15.cell? ⟨gb59002, 5, none⟩ = some (.slice A1_5 l1_5.length c1_5) := (blk_cell BK59002.out 5).trans rfl; have hcz17_6 : w15.cell? ⟨gb59002, 6, none⟩ = some (.slice A1_6 l1_6.length c1_6) := (blk_cell BK59002.out 6).trans rfl; have hcz17_7 : w15.cell? ⟨gb59002, 7, none⟩ = some (.int .i64 a1_7) := (blk_cell BK59002.out 7).trans rfl; have hfz17_0 := blk_frozen BK59002.out 0; have hfz17_1 := blk_frozen BK59002.out 1; have hfz17_2 := blk_frozen BK59002.out 2; have hfz17_3 := blk_frozen BK59002.out 3; have hfz17_4 := blk_frozen BK59002.out 4; have hfz17_5 := blk_frozen BK59002.out 5; have hfz17_6 := blk_frozen BK59002.out 6; have hfz17_7 := blk_frozen BK59002.out 7) | (go_at_call 98; (with_reducible refine (spec_l5Ints.calls k _ _ l0_6 _ _ l1_6 true _ ?side1 ?side2 ?side3 ?side4 A8.out).mono ?_); (case side1 => repeat (first | exact (Kd.C_below HR0_6.out HB.out) | (with_reducible refine Kd.C_alloc ?_ _) | (with_reducible refine Kd.C_drewN ?_ _) | (with_reducible refine Kd.C_drew ?_))); (case side2 => exact HC0_6.out); (case side3 => repeat (first | exact (Kd.C_below HR1_6.out HB.out) | (with_reducible refine Kd.C_alloc ?_ _) | (with_reducible refine Kd.C_drewN ?_ _) | (with_reducible refine Kd.C_drew ?_))); (case side4 => exact HC1_6.out); rintro e w' ⟨rfl, ⟨nd, rfl⟩⟩))
            go_ret
            exact ⟨by first | rfl | (simp [errW_none, errW_some] <;> rfl) | (simp [*, errW_none, errW_some] <;> rfl), by repeat (first | (with_reducible first | exact HB.out | apply below_alloc | apply pw_below_drewN | apply below_drew1 | refine below_set ?_ GE59001.out | refine below_set ?_ GE59002.out) | exact HB.out)⟩
          · replace c9 := Bool.eq_false_iff.mpr c9
            subst c9
            have H1 : (some false) = some r := by rw [if_neg (show ¬ (false = true) by decide)] at H; exact H
            clear H
            have H := H1
            clear H1
            obtain rfl := Option.some.inj H
            go_enter Try.func59, Try.ntmps59
            go_wp2_with (first | ((with_reducible refine gate_dst (N := 2) rfl ?_); refine box_event ?hg (N := 2) ?hd (cs := #[.int .i64 a0_0, .string a0_1, .string a0_2, .int .i64 a0_3, .string a0_4, .slice A0_5 l0_5.length c0_5, .slice A0_6 l0_6.length c0_6, .int .i64 a0_7]) (t := 99) ?hr ?_; (case hd => rfl); (case hg => rfl); (case hr => first | (go_simp; done) | (go_simp; rfl)); intro gb59001 hg w18 hbox hb; have n0_ := Aside0.mk (below_step (by repeat (first | (with_reducible first | exact HB.out | apply below_alloc | apply pw_below_drewN | apply below_drew1) | exact HB.out)) hb); have n1_ := Aside0.mk (hbox); have n2_ := Aside0.mk ((by rw [hg]; exact (below_size (by repeat (first | (with_reducible first | exact HB.out | apply below_alloc | apply pw_below_drewN | apply below_drew1) | exact HB.out))) : w.heap.size ≤ gb59001)); have n3_ := Aside0.mk ((by rw [hg]; exact (below_size (by repeat (first | (with_reducible first | exact HB.out | apply below_alloc | apply pw_below_drewN | apply below_drew1) | exact HB.out))) : w.heap.size ≤ gb59001)); clear HB; have HB := n0_; have BK59001 := n1_; have GW59001 := n2_; have GE59001 := n3_; clear n0_ n1_ n2_ n3_; clear hb hbox hg) | ((with_reducible refine gate_dst (N := 3) rfl ?_); refine box_event ?hg (N := 3) ?hd (cs := #[.int .i64 a1_0, .string a1_1, .string a1_2, .int .i64 a1_3, .string a1_4, .slice A1_5 l1_5.length c1_5, .slice A1_6 l1_6.length c1_6, .int .i64 a1_7]) (t := 99) ?hr ?_; (case hd => rfl); (case hg => rfl); (case hr => first | (go_simp; done) | (go_simp; rfl)); intro gb59002 hg w19 hbox hb; have n0_ := Aside0.mk (blk_below (g := gb59001) (o := .cells #[.int .i64 a0_0, .string a0_1, .string a0_2, .int .i64 a0_3, .string a0_4, .slice A0_5 l0_5.length c0_5, .slice A0_6 l0_6.length c0_6, .int .i64 a0_7] 99 (0, 0)) (by (with_reducible repeat (first | refine blk_drewN ?_ _ | refine blk_drew ?_ | refine blk_alloc ?_ _)); exact BK59001.out) hb); have n1_ := Aside0.mk (below_step (by repeat (first | (with_reducible first | exact HB.out | apply below_alloc | apply pw_below_drewN | apply below_drew1 | refine below_set ?_ GE59001.out) | exact HB.out)) hb); have n2_ := Aside0.mk (hbox); have n3_ := Aside0.mk ((by rw [hg]; exact (below_size (by repeat (first | (with_reducible first | exact HB.out | apply below_alloc | apply pw_below_drewN | apply below_drew1 | refine below_set ?_ GE59001.out) | exact HB.out))) : w.heap.size ≤ gb59002)); have n4_ := Aside0.mk ((by rw [hg]; exact (below_size (by repeat (first | (with_reducible first | exact HB.out | apply below_alloc | apply pw_below_drewN | apply below_drew1 | refine below_set ?_ GE59001.out) | exact HB.out))) : w.heap.size ≤ gb59002)); have n5_ := Aside0.mk ((by rw [hg]; exact Nat.ne_of_lt (blk_lt (g := gb59001) (o := .cells #[.int .i64 a0_0, .string a0_1, .string a0_2, .int .i64 a0_3, .string a0_4, .slice A0_5 l0_5.length c0_5, .slice A0_6 l0_6.length c0_6, .int .i64 a0_7] 99 (0, 0)) (by (with_reducible repeat (first | refine blk_drewN ?_ _ | refine blk_drew ?_ | refine blk_alloc ?_ _)); exact BK59001.out)) : gb59001 ≠ gb59002)); have n6_ := Aside0.mk ((by rw [hg]; exact Nat.ne_of_gt (blk_lt (g := gb59001) (o := .cells #[.int .i64 a0_0, .string a0_1, .string a0_2, .int .i64 a0_3, .string a0_4, .slice A0_5 l0_5.length c0_5, .slice A0_6 l0_6.length c0_6, .int .i64 a0_7] 99 (0, 0)) (by (with_reducible repeat (first | refine blk_drewN ?_ _ | refine blk_drew ?_ | refine blk_alloc ?_ _)); exact BK59001.out)) : gb59002 ≠ gb59001)); clear BK59001; clear HB; have BK59001 := n0_; have HB := n1_; have BK59002 := n2_; have GW59002 := n3_; have GE59002 := n4_; have NB59001_59002 := n5_; have NB59002_59001 := n6_; clear n0_ n1_ n2_ n3_ n4_ n5_ n6_; clear hb hbox hg; have hnb20 := NB59001_59002.out; have hnc20 := NB59002_59001.out; have hcz21_0 : w19.cell? ⟨gb59001, 0, none⟩ = some (.int .i64 a0_0) := (blk_cell BK59001.out 0).trans rfl; have hcz21_1 : w19.cell? ⟨gb59001, 1, none⟩ = some (.string a0_1) := (blk_cell BK59001.out 1).trans rfl; have hcz21_2 : w19.cell? ⟨gb59001, 2, none⟩ = some (.string a0_2) := (blk_cell BK59001.out 2).trans rfl; have hcz21_3 : w19.cell? ⟨gb59001, 3, none⟩ = some (.int .i64 a0_3) := (blk_cell BK59001.out 3).trans rfl; have hcz21_4 : w19.cell? ⟨gb59001, 4, none⟩ = some (.string a0_4) := (blk_cell BK59001.out 4).trans rfl; have hcz21_5 : w19.cell? ⟨gb59001, 5, none⟩ = some (.slice A0_5 l0_5.length c0_5) := (blk_cell BK59001.out 5).trans rfl; have hcz21_6 : w19.cell? ⟨gb59001, 6, none⟩ = some (.slice A0_6 l0_6.length c0_6) := (blk_cell BK59001.out 6).trans rfl; have hcz21_7 : w19.cell? ⟨gb59001, 7, none⟩ = some (.int .i64 a0_7) := (blk_cell BK59001.out 7).trans rfl; have hfz21_0 := blk_frozen BK59001.out 0; have hfz21_1 := blk_frozen BK59001.out 1; have hfz21_2 := blk_frozen BK59001.out 2; have hfz21_3 := blk_frozen BK59001.out 3; have hfz21_4 := blk_frozen BK59001.out 4; have hfz21_5 := blk_frozen BK59001.out 5; have hfz21_6 := blk_frozen BK59001.out 6; have hfz21_7 := blk_frozen BK59001.out 7; have hcz22_0 : w19.cell? ⟨gb59002, 0, none⟩ = some (.int .i64 a1_0) := (blk_cell BK59002.out 0).trans rfl; have hcz22_1 : w19.cell? ⟨gb59002, 1, none⟩ = some (.string a1_1) := (blk_cell BK59002.out 1).trans rfl; have hcz22_2 : w19.cell? ⟨gb59002, 2, none⟩ = some (.string a1_2) := (blk_cell BK59002.out 2).trans rfl; have hcz22_3 : w19.cell? ⟨gb59002, 3, none⟩ = some (.int .i64 a1_3) := (blk_cell BK59002.out 3).trans rfl; have hcz22_4 : w19.cell? ⟨gb59002, 4, none⟩ = some (.string a1_4) := (blk_cell BK59002.out 4).trans rfl; have hcz22_5 : w19.cell? ⟨gb59002, 5, none⟩ = some (.slice A1_5 l1_5.length c1_5) := (blk_cell BK59002.out 5).trans rfl; have hcz22_6 : w19.cell? ⟨gb59002, 6, none⟩ = some (.slice A1_6 l1_6.length c1_6) := (blk_cell BK59002.out 6).trans rfl; have hcz22_7 : w19.cell? ⟨gb59002, 7, none⟩ = some (.int .i64 a1_7) := (blk_cell BK59002.out 7).trans rfl; have hfz22_0 := blk_frozen BK59002.out 0; have hfz22_1 := blk_frozen BK59002.out 1; have hfz22_2 := blk_frozen BK59002.out 2; have hfz22_3 := blk_frozen BK59002.out 3; have hfz22_4 := blk_frozen BK59002.out 4; have hfz22_5 := blk_frozen BK59002.out 5; have hfz22_6 := blk_frozen BK59002.out 6; have hfz22_7 := blk_frozen BK59002.out 7) | (go_at_call 130; (with_reducible refine (spec_EqualRegex.calls k a0_3 a0_4 _ _ l0_5 a1_3 a1_4 _ _ l1_5 true _ ?side1 ?side2 ?side3 ?side4 A6.out).mono ?_); (case side1 => repeat (first | exact (Kd.C_below HR0_5.out HB.out) | (with_reducible refine Kd.C_alloc ?_ _) | (with_reducible refine Kd.C_drewN ?_ _) | (with_reducible refine Kd.C_drew ?_))); (case side2 => exact HC0_5.out); (case side3 => repeat (first | exact (Kd.C_below HR1_5.out HB.out) | (with_reducible refine Kd.C_alloc ?_ _) | (with_reducible refine Kd.C_drewN ?_ _) | (with_reducible refine Kd.C_drew ?_))); (case side4 => exact HC1_5.out); rintro e w23 ⟨rfl, hb⟩; have n0_ := Aside0.mk (blk_below (g := gb59001) (o := .cells #[.int .i64 a0_0, .string a0_1, .string a0_2, .int .i64 a0_3, .string a0_4, .slice A0_5 l0_5.length c0_5, .slice A0_6 l0_6.length c0_6, .int .i64 a0_7] 99 (0, 0)) (by (with_reducible repeat (first | refine blk_drewN ?_ _ | refine blk_drew ?_ | refine blk_alloc ?_ _)); exact BK59001.out) hb); have n1_ := Aside0.mk (blk_below (g := gb59002) (o := .cells #[.int .i64 a1_0, .string a1_1, .string a1_2, .int .i64 a1_3, .string a1_4, .slice A1_5 l1_5.length c1_5, .slice A1_6 l1_6.length c1_6, .int .i64 a1_7] 99 (0, 0)) (by (with_reducible repeat (first | refine blk_drewN ?_ _ | refine blk_drew ?_ | refine blk_alloc ?_ _)); exact BK59002.out) hb); have n2_ := Aside0.mk (below_step (by repeat (first | (with_reducible first | exact HB.out | apply below_alloc | apply pw_below_drewN | apply below_drew1 | refine below_set ?_ GE59001.out | refine below_set ?_ GE59002.out) | exact HB.out)) hb); clear BK59001; clear BK59002; clear HB; have BK59001 := n0_; have BK59002 := n1_; have HB := n2_; clear n0_ n1_ n2_; (try clear hb); (try clear hb2); (try clear hk); (try clear hi); have hcz24_0 : w23.cell? ⟨gb59001, 0, none⟩ = some (.int .i64 a0_0) := (blk_cell BK59001.out 0).trans rfl; have hcz24_1 : w23.cell? ⟨gb59001, 1, none⟩ = some (.string a0_1) := (blk_cell BK59001.out 1).trans rfl; have hcz24_2 : w23.cell? ⟨gb59001, 2, none⟩ = some (.string a0_2) := (blk_cell BK59001.out 2).trans rfl; have hcz24_3 : w23.cell? ⟨gb59001, 3, none⟩ = some (.int .i64 a0_3) := (blk_cell BK59001.out 3).trans rfl; have hcz24_4 : w23.cell? ⟨gb59001, 4, none⟩ = some (.string a0_4) := (blk_cell BK59001.out 4).trans rfl; have hcz24_5 : w23.cell? ⟨gb59001, 5, none⟩ = some (.slice A0_5 l0_5.length c0_5) := (blk_cell BK59001.out 5).trans rfl; have hcz24_6 : w23.cell? ⟨gb59001, 6, none⟩ = some (.slice A0_6 l0_6.length c0_6) := (blk_cell BK59001.out 6).trans rfl; have hcz24_7 : w23.cell? ⟨gb59001, 7, none⟩ = some (.int .i64 a0_7) := (blk_cell BK59001.out 7).trans rfl; have hfz24_0 := blk_frozen BK59001.out 0; have hfz24_1 := blk_frozen BK59001.out 1; have hfz24_2 := blk_frozen BK59001.out 2; have hfz24_3 := blk_frozen BK59001.out 3; have hfz24_4 := blk_frozen BK59001.out 4; have hfz24_5 := blk_frozen BK59001.out 5; have hfz24_6 := blk_frozen BK59001.out 6; have hfz24_7 := blk_frozen BK59001.out 7; have hcz25_0 : w23.cell? ⟨gb59002, 0, none⟩ = some (.int .i64 a1_0) := (blk_cell BK59002.out 0).trans rfl; have hcz25_1 : w23.cell? ⟨gb59002, 1, none⟩ = some (.string a1_1) := (blk_cell BK59002.out 1).trans rfl; have hcz25_2 : w23.cell? ⟨gb59002, 2, none⟩ = some (.string a1_2) := (blk_cell BK59002.out 2).trans rfl; have hcz25_3 : w23.cell? ⟨gb59002, 3, none⟩ = some (.int .i64 a1_3) := (blk_cell BK59002.out 3).trans rfl; have hcz25_4 : w23.cell? ⟨gb59002, 4, none⟩ = some (.string a1_4) := (blk_cell BK59002.out 4).trans rfl; have hcz25_5 : w23.cell? ⟨gb59002, 5, none⟩ = some (.slice A1_5 l1_5.length c1_5) := (blk_cell BK59002.out 5).trans rfl; have hcz25_6 : w23.cell? ⟨gb59002, 6, none⟩ = some (.slice A1_6 l1_6.length c1_6) := (blk_cell BK59002.out 6).trans rfl; have hcz25_7 : w23.cell? ⟨gb59002, 7, none⟩ = some (.int .i64 a1_7) := (blk_cell BK59002.out 7).trans rfl; have hfz25_0 := blk_frozen BK59002.out 0; have hfz25_1 := blk_frozen BK59002.out 1; have hfz25_2 := blk_frozen BK59002.out 2; have hfz25_3 := blk_frozen BK59002.out 3; have hfz25_4 := blk_frozen BK59002.out 4; have hfz25_5 := blk_frozen BK59002.out 5; have hfz25_6 := blk_frozen BK59002.out 6; have hfz25_7 := blk_frozen BK59002.out 7) | (go_at_call 98; (with_reducible refine (spec_l5Ints.calls k _ _ l0_6 _ _ l1_6 false _ ?side1 ?side2 ?side3 ?side4 A8.out).mono ?_); (case side1 => repeat (first | exact (Kd.C_below HR0_6.out HB.out) | (with_reducible refine Kd.C_alloc ?_ _) | (with_reducible refine Kd.C_drewN ?_ _) | (with_reducible refine Kd.C_drew ?_))); (case side2 => exact HC0_6.out); (case side3 => repeat (first | exact (Kd.C_below HR1_6.out HB.out) | (with_reducible refine Kd.C_alloc ?_ _) | (with_reducible refine Kd.C_drewN ?_ _) | (with_reducible refine Kd.C_drew ?_))); (case side4 => exact HC1_6.out); rintro e w' ⟨rfl, ⟨nd, rfl⟩⟩))
            go_ret
            exact ⟨by first | rfl | (simp [errW_none, errW_some] <;> rfl) | (simp [*, errW_none, errW_some] <;> rfl), by repeat (first | (with_reducible first | exact HB.out | apply below_alloc | apply pw_below_drewN | apply below_drew1 | refine below_set ?_ GE59001.out | refine below_set ?_ GE59002.out) | exact HB.out)⟩
        · replace c7 := Bool.eq_false_iff.mpr c7
          subst c7
          have H1 : (some false) = some r := by rw [if_neg (show ¬ (false = true) by decide)] at H; exact H
          clear H
          have H := H1
          clear H1
          obtain rfl := Option.some.inj H
          go_enter Try.func59, Try.ntmps59
          go_wp2_with (first | ((with_reducible refine gate_dst (N := 2) rfl ?_); refine box_event ?hg (N := 2) ?hd (cs := #[.int .i64 a0_0, .string a0_1, .string a0_2, .int .i64 a0_3, .string a0_4, .slice A0_5 l0_5.length c0_5, .slice A0_6 l0_6.length c0_6, .int .i64 a0_7]) (t := 99) ?hr ?_; (case hd => rfl); (case hg => rfl); (case hr => first | (go_simp; done) | (go_simp; rfl)); intro gb59001 hg w26 hbox hb; have n0_ := Aside0.mk (below_step (by repeat (first | (with_reducible first | exact HB.out | apply below_alloc | apply pw_below_drewN | apply below_drew1) | exact HB.out)) hb); have n1_ := Aside0.mk (hbox); have n2_ := Aside0.mk ((by rw [hg]; exact (below_size (by repeat (first | (with_reducible first | exact HB.out | apply below_alloc | apply pw_below_drewN | apply below_drew1) | exact HB.out))) : w.heap.size ≤ gb59001)); have n3_ := Aside0.mk ((by rw [hg]; exact (below_size (by repeat (first | (with_reducible first | exact HB.out | apply below_alloc | apply pw_below_drewN | apply below_drew1) | exact HB.out))) : w.heap.size ≤ gb59001)); clear HB; have HB := n0_; have BK59001 := n1_; have GW59001 := n2_; have GE59001 := n3_; clear n0_ n1_ n2_ n3_; clear hb hbox hg) | ((with_reducible refine gate_dst (N := 3) rfl ?_); refine box_event ?hg (N := 3) ?hd (cs := #[.int .i64 a1_0, .string a1_1, .string a1_2, .int .i64 a1_3, .string a1_4, .slice A1_5 l1_5.length c1_5, .slice A1_6 l1_6.length c1_6, .int .i64 a1_7]) (t := 99) ?hr ?_; (case hd => rfl); (case hg => rfl); (case hr => first | (go_simp; done) | (go_simp; rfl)); intro gb59002 hg w27 hbox hb; have n0_ := Aside0.mk (blk_below (g := gb59001) (o := .cells #[.int .i64 a0_0, .string a0_1, .string a0_2, .int .i64 a0_3, .string a0_4, .slice A0_5 l0_5.length c0_5, .slice A0_6 l0_6.length c0_6, .int .i64 a0_7] 99 (0, 0)) (by (with_reducible repeat (first | refine blk_drewN ?_ _ | refine blk_drew ?_ | refine blk_alloc ?_ _)); exact BK59001.out) hb); have n1_ := Aside0.mk (below_step (by repeat (first | (with_reducible first | exact HB.out | apply below_alloc | apply pw_below_drewN | apply below_drew1 | refine below_set ?_ GE59001.out) | exact HB.out)) hb); have n2_ := Aside0.mk (hbox); have n3_ := Aside0.mk ((by rw [hg]; exact (below_size (by repeat (first | (with_reducible first | exact HB.out | apply below_alloc | apply pw_below_drewN | apply below_drew1 | refine below_set ?_ GE59001.out) | exact HB.out))) : w.heap.size ≤ gb59002)); have n4_ := Aside0.mk ((by rw [hg]; exact (below_size (by repeat (first | (with_reducible first | exact HB.out | apply below_alloc | apply pw_below_drewN | apply below_drew1 | refine below_set ?_ GE59001.out) | exact HB.out))) : w.heap.size ≤ gb59002)); have n5_ := Aside0.mk ((by rw [hg]; exact Nat.ne_of_lt (blk_lt (g := gb59001) (o := .cells #[.int .i64 a0_0, .string a0_1, .string a0_2, .int .i64 a0_3, .string a0_4, .slice A0_5 l0_5.length c0_5, .slice A0_6 l0_6.length c0_6, .int .i64 a0_7] 99 (0, 0)) (by (with_reducible repeat (first | refine blk_drewN ?_ _ | refine blk_drew ?_ | refine blk_alloc ?_ _)); exact BK59001.out)) : gb59001 ≠ gb59002)); have n6_ := Aside0.mk ((by rw [hg]; exact Nat.ne_of_gt (blk_lt (g := gb59001) (o := .cells #[.int .i64 a0_0, .string a0_1, .string a0_2, .int .i64 a0_3, .string a0_4, .slice A0_5 l0_5.length c0_5, .slice A0_6 l0_6.length c0_6, .int .i64 a0_7] 99 (0, 0)) (by (with_reducible repeat (first | refine blk_drewN ?_ _ | refine blk_drew ?_ | refine blk_alloc ?_ _)); exact BK59001.out)) : gb59002 ≠ gb59001)); clear BK59001; clear HB; have BK59001 := n0_; have HB := n1_; have BK59002 := n2_; have GW59002 := n3_; have GE59002 := n4_; have NB59001_59002 := n5_; have NB59002_59001 := n6_; clear n0_ n1_ n2_ n3_ n4_ n5_ n6_; clear hb hbox hg; have hnb28 := NB59001_59002.out; have hnc28 := NB59002_59001.out; have hcz29_0 : w27.cell? ⟨gb59001, 0, none⟩ = some (.int .i64 a0_0) := (blk_cell BK59001.out 0).trans rfl; have hcz29_1 : w27.cell? ⟨gb59001, 1, none⟩ = some (.string a0_1) := (blk_cell BK59001.out 1).trans rfl; have hcz29_2 : w27.cell? ⟨gb59001, 2, none⟩ = some (.string a0_2) := (blk_cell BK59001.out 2).trans rfl; have hcz29_3 : w27.cell? ⟨gb59001, 3, none⟩ = some (.int .i64 a0_3) := (blk_cell BK59001.out 3).trans rfl; have hcz29_4 : w27.cell? ⟨gb59001, 4, none⟩ = some (.string a0_4) := (blk_cell BK59001.out 4).trans rfl; have hcz29_5 : w27.cell? ⟨gb59001, 5, none⟩ = some (.slice A0_5 l0_5.length c0_5) := (blk_cell BK59001.out 5).trans rfl; have hcz29_6 : w27.cell? ⟨gb59001, 6, none⟩ = some (.slice A0_6 l0_6.length c0_6) := (blk_cell BK59001.out 6).trans rfl; have hcz29_7 : w27.cell? ⟨gb59001, 7, none⟩ = some (.int .i64 a0_7) := (blk_cell BK59001.out 7).trans rfl; have hfz29_0 := blk_frozen BK59001.out 0; have hfz29_1 := blk_frozen BK59001.out 1; have hfz29_2 := blk_frozen BK59001.out 2; have hfz29_3 := blk_frozen BK59001.out 3; have hfz29_4 := blk_frozen BK59001.out 4; have hfz29_5 := blk_frozen BK59001.out 5; have hfz29_6 := blk_frozen BK59001.out 6; have hfz29_7 := blk_frozen BK59001.out 7; have hcz30_0 : w27.cell? ⟨gb59002, 0, none⟩ = some (.int .i64 a1_0) := (blk_cell BK59002.out 0).trans rfl; have hcz30_1 : w27.cell? ⟨gb59002, 1, none⟩ = some (.string a1_1) := (blk_cell BK59002.out 1).trans rfl; have hcz30_2 : w27.cell? ⟨gb59002, 2, none⟩ = some (.string a1_2) := (blk_cell BK59002.out 2).trans rfl; have hcz30_3 : w27.cell? ⟨gb59002, 3, none⟩ = some (.int .i64 a1_3) := (blk_cell BK59002.out 3).trans rfl; have hcz30_4 : w27.cell? ⟨gb59002, 4, none⟩ = some (.string a1_4) := (blk_cell BK59002.out 4).trans rfl; have hcz30_5 : w27.cell? ⟨gb59002, 5, none⟩ = some (.slice A1_5 l1_5.length c1_5) := (blk_cell BK59002.out 5).trans rfl; have hcz30_6 : w27.cell? ⟨gb59002, 6, none⟩ = some (.slice A1_6 l1_6.length c1_6) := (blk_cell BK59002.out 6).trans rfl; have hcz30_7 : w27.cell? ⟨gb59002, 7, none⟩ = some (.int .i64 a1_7) := (blk_cell BK59002.out 7).trans rfl; have hfz30_0 := blk_frozen BK59002.out 0; have hfz30_1 := blk_frozen BK59002.out 1; have hfz30_2 := blk_frozen BK59002.out 2; have hfz30_3 := blk_frozen BK59002.out 3; have hfz30_4 := blk_frozen BK59002.out 4; have hfz30_5 := blk_frozen BK59002.out 5; have hfz30_6 := blk_frozen BK59002.out 6; have hfz30_7 := blk_frozen BK59002.out 7) | (go_at_call 130; (with_reducible refine (spec_EqualRegex.calls k a0_3 a0_4 _ _ l0_5 a1_3 a1_4 _ _ l1_5 false _ ?side1 ?side2 ?side3 ?side4 A6.out).mono ?_); (case side1 => repeat (first | exact (Kd.C_below HR0_5.out HB.out) | (with_reducible refine Kd.C_alloc ?_ _) | (with_reducible refine Kd.C_drewN ?_ _) | (with_reducible refine Kd.C_drew ?_))); (case side2 => exact HC0_5.out); (case side3 => repeat (first | exact (Kd.C_below HR1_5.out HB.out) | (with_reducible refine Kd.C_alloc ?_ _) | (with_reducible refine Kd.C_drewN ?_ _) | (with_reducible refine Kd.C_drew ?_))); (case side4 => exact HC1_5.out); rintro e w31 ⟨rfl, hb⟩; have n0_ := Aside0.mk (blk_below (g := gb59001) (o := .cells #[.int .i64 a0_0, .string a0_1, .string a0_2, .int .i64 a0_3, .string a0_4, .slice A0_5 l0_5.length c0_5, .slice A0_6 l0_6.length c0_6, .int .i64 a0_7] 99 (0, 0)) (by (with_reducible repeat (first | refine blk_drewN ?_ _ | refine blk_drew ?_ | refine blk_alloc ?_ _)); exact BK59001.out) hb); have n1_ := Aside0.mk (blk_below (g := gb59002) (o := .cells #[.int .i64 a1_0, .string a1_1, .string a1_2, .int .i64 a1_3, .string a1_4, .slice A1_5 l1_5.length c1_5, .slice A1_6 l1_6.length c1_6, .int .i64 a1_7] 99 (0, 0)) (by (with_reducible repeat (first | refine blk_drewN ?_ _ | refine blk_drew ?_ | refine blk_alloc ?_ _)); exact BK59002.out) hb); have n2_ := Aside0.mk (below_step (by repeat (first | (with_reducible first | exact HB.out | apply below_alloc | apply pw_below_drewN | apply below_drew1 | refine below_set ?_ GE59001.out | refine below_set ?_ GE59002.out) | exact HB.out)) hb); clear BK59001; clear BK59002; clear HB; have BK59001 := n0_; have BK59002 := n1_; have HB := n2_; clear n0_ n1_ n2_; (try clear hb); (try clear hb2); (try clear hk); (try clear hi)))
          go_ret
          exact ⟨by first | rfl | (simp [errW_none, errW_some] <;> rfl) | (simp [*, errW_none, errW_some] <;> rfl), by repeat (first | (with_reducible first | exact HB.out | apply below_alloc | apply pw_below_drewN | apply below_drew1 | refine below_set ?_ GE59001.out | refine below_set ?_ GE59002.out) | exact HB.out)⟩
      · rw [if_neg c5] at H
        have c5b0 : (a0_2.toList == a1_2.toList) = false := beq_eq_false_iff_ne.mpr c5
        have c5b1 : (a0_2.toList != a1_2.toList) = true := bne_iff_ne.mpr c5
        obtain rfl := Option.some.inj H
        go_enter Try.func59, Try.ntmps59
        go_wp2_with (first | ((with_reducible refine gate_dst (N := 2) rfl ?_); refine box_event ?hg (N := 2) ?hd (cs := #[.int .i64 a0_0, .string a0_1, .string a0_2, .int .i64 a0_3, .string a0_4, .slice A0_5 l0_5.length c0_5, .slice A0_6 l0_6.length c0_6, .int .i64 a0_7]) (t := 99) ?hr ?_; (case hd => rfl); (case hg => rfl); (case hr => first | (go_simp; done) | (go_simp; rfl)); intro gb59001 hg w32 hbox hb; have n0_ := Aside0.mk (below_step (by repeat (first | (with_reducible first | exact HB.out | apply below_alloc | apply pw_below_drewN | apply below_drew1) | exact HB.out)) hb); have n1_ := Aside0.mk (hbox); have n2_ := Aside0.mk ((by rw [hg]; exact (below_size (by repeat (first | (with_reducible first | exact HB.out | apply below_alloc | apply pw_below_drewN | apply below_drew1) | exact HB.out))) : w.heap.size ≤ gb59001)); have n3_ := Aside0.mk ((by rw [hg]; exact (below_size (by repeat (first | (with_reducible first | exact HB.out | apply below_alloc | apply pw_below_drewN | apply below_drew1) | exact HB.out))) : w.heap.size ≤ gb59001)); clear HB; have HB := n0_; have BK59001 := n1_; have GW59001 := n2_; have GE59001 := n3_; clear n0_ n1_ n2_ n3_; clear hb hbox hg) | ((with_reducible refine gate_dst (N := 3) rfl ?_); refine box_event ?hg (N := 3) ?hd (cs := #[.int .i64 a1_0, .string a1_1, .string a1_2, .int .i64 a1_3, .string a1_4, .slice A1_5 l1_5.length c1_5, .slice A1_6 l1_6.length c1_6, .int .i64 a1_7]) (t := 99) ?hr ?_; (case hd => rfl); (case hg => rfl); (case hr => first | (go_simp; done) | (go_simp; rfl)); intro gb59002 hg w33 hbox hb; have n0_ := Aside0.mk (blk_below (g := gb59001) (o := .cells #[.int .i64 a0_0, .string a0_1, .string a0_2, .int .i64 a0_3, .string a0_4, .slice A0_5 l0_5.length c0_5, .slice A0_6 l0_6.length c0_6, .int .i64 a0_7] 99 (0, 0)) (by (with_reducible repeat (first | refine blk_drewN ?_ _ | refine blk_drew ?_ | refine blk_alloc ?_ _)); exact BK59001.out) hb); have n1_ := Aside0.mk (below_step (by repeat (first | (with_reducible first | exact HB.out | apply below_alloc | apply pw_below_drewN | apply below_drew1 | refine below_set ?_ GE59001.out) | exact HB.out)) hb); have n2_ := Aside0.mk (hbox); have n3_ := Aside0.mk ((by rw [hg]; exact (below_size (by repeat (first | (with_reducible first | exact HB.out | apply below_alloc | apply pw_below_drewN | apply below_drew1 | refine below_set ?_ GE59001.out) | exact HB.out))) : w.heap.size ≤ gb59002)); have n4_ := Aside0.mk ((by rw [hg]; exact (below_size (by repeat (first | (with_reducible first | exact HB.out | apply below_alloc | apply pw_below_drewN | apply below_drew1 | refine below_set ?_ GE59001.out) | exact HB.out))) : w.heap.size ≤ gb59002)); have n5_ := Aside0.mk ((by rw [hg]; exact Nat.ne_of_lt (blk_lt (g := gb59001) (o := .cells #[.int .i64 a0_0, .string a0_1, .string a0_2, .int .i64 a0_3, .string a0_4, .slice A0_5 l0_5.length c0_5, .slice A0_6 l0_6.length c0_6, .int .i64 a0_7] 99 (0, 0)) (by (with_reducible repeat (first | refine blk_drewN ?_ _ | refine blk_drew ?_ | refine blk_alloc ?_ _)); exact BK59001.out)) : gb59001 ≠ gb59002)); have n6_ := Aside0.mk ((by rw [hg]; exact Nat.ne_of_gt (blk_lt (g := gb59001) (o := .cells #[.int .i64 a0_0, .string a0_1, .string a0_2, .int .i64 a0_3, .string a0_4, .slice A0_5 l0_5.length c0_5, .slice A0_6 l0_6.length c0_6, .int .i64 a0_7] 99 (0, 0)) (by (with_reducible repeat (first | refine blk_drewN ?_ _ | refine blk_drew ?_ | refine blk_alloc ?_ _)); exact BK59001.out)) : gb59002 ≠ gb59001)); clear BK59001; clear HB; have BK59001 := n0_; have HB := n1_; have BK59002 := n2_; have GW59002 := n3_; have GE59002 := n4_; have NB59001_59002 := n5_; have NB59002_59001 := n6_; clear n0_ n1_ n2_ n3_ n4_ n5_ n6_; clear hb hbox hg; have hnb34 := NB59001_59002.out; have hnc34 := NB59002_59001.out; have hcz35_0 : w33.cell? ⟨gb59001, 0, none⟩ = some (.int .i64 a0_0) := (blk_cell BK59001.out 0).trans rfl; have hcz35_1 : w33.cell? ⟨gb59001, 1, none⟩ = some (.string a0_1) := (blk_cell BK59001.out 1).trans rfl; have hcz35_2 : w33.cell? ⟨gb59001, 2, none⟩ = some (.string a0_2) := (blk_cell BK59001.out 2).trans rfl; have hcz35_3 : w33.cell? ⟨gb59001, 3, none⟩ = some (.int .i64 a0_3) := (blk_cell BK59001.out 3).trans rfl; have hcz35_4 : w33.cell? ⟨gb59001, 4, none⟩ = some (.string a0_4) := (blk_cell BK59001.out 4).trans rfl; have hcz35_5 : w33.cell? ⟨gb59001, 5, none⟩ = some (.slice A0_5 l0_5.length c0_5) := (blk_cell BK59001.out 5).trans rfl; have hcz35_6 : w33.cell? ⟨gb59001, 6, none⟩ = some (.slice A0_6 l0_6.length c0_6) := (blk_cell BK59001.out 6).trans rfl; have hcz35_7 : w33.cell? ⟨gb59001, 7, none⟩ = some (.int .i64 a0_7) := (blk_cell BK59001.out 7).trans rfl; have hfz35_0 := blk_frozen BK59001.out 0; have hfz35_1 := blk_frozen BK59001.out 1; have hfz35_2 := blk_frozen BK59001.out 2; have hfz35_3 := blk_frozen BK59001.out 3; have hfz35_4 := blk_frozen BK59001.out 4; have hfz35_5 := blk_frozen BK59001.out 5; have hfz35_6 := blk_frozen BK59001.out 6; have hfz35_7 := blk_frozen BK59001.out 7; have hcz36_0 : w33.cell? ⟨gb59002, 0, none⟩ = some (.int .i64 a1_0) := (blk_cell BK59002.out 0).trans rfl; have hcz36_1 : w33.cell? ⟨gb59002, 1, none⟩ = some (.string a1_1) := (blk_cell BK59002.out 1).trans rfl; have hcz36_2 : w33.cell? ⟨gb59002, 2, none⟩ = some (.string a1_2) := (blk_cell BK59002.out 2).trans rfl; have hcz36_3 : w33.cell? ⟨gb59002, 3, none⟩ = some (.int .i64 a1_3) := (blk_cell BK59002.out 3).trans rfl; have hcz36_4 : w33.cell? ⟨gb59002, 4, none⟩ = some (.string a1_4) := (blk_cell BK59002.out 4).trans rfl; have hcz36_5 : w33.cell? ⟨gb59002, 5, none⟩ = some (.slice A1_5 l1_5.length c1_5) := (blk_cell BK59002.out 5).trans rfl; have hcz36_6 : w33.cell? ⟨gb59002, 6, none⟩ = some (.slice A1_6 l1_6.length c1_6) := (blk_cell BK59002.out 6).trans rfl; have hcz36_7 : w33.cell? ⟨gb59002, 7, none⟩ = some (.int .i64 a1_7) := (blk_cell BK59002.out 7).trans rfl; have hfz36_0 := blk_frozen BK59002.out 0; have hfz36_1 := blk_frozen BK59002.out 1; have hfz36_2 := blk_frozen BK59002.out 2; have hfz36_3 := blk_frozen BK59002.out 3; have hfz36_4 := blk_frozen BK59002.out 4; have hfz36_5 := blk_frozen BK59002.out 5; have hfz36_6 := blk_frozen BK59002.out 6; have hfz36_7 := blk_frozen BK59002.out 7))
        go_ret
        exact ⟨by first | rfl | (simp [errW_none, errW_some] <;> rfl) | (simp [*, errW_none, errW_some] <;> rfl), by repeat (first | (with_reducible first | exact HB.out | apply below_alloc | apply pw_below_drewN | apply below_drew1 | refine below_set ?_ GE59001.out | refine below_set ?_ GE59002.out) | exact HB.out)⟩
    · rw [if_neg c4] at H
      have c4b0 : (a0_1.toList == a1_1.toList) = false := beq_eq_false_iff_ne.mpr c4
      have c4b1 : (a0_1.toList != a1_1.toList) = true := bne_iff_ne.mpr c4
      obtain rfl := Option.some.inj H
      go_enter Try.func59, Try.ntmps59
      go_wp2_with (first | ((with_reducible refine gate_dst (N := 2) rfl ?_); refine box_event ?hg (N := 2) ?hd (cs := #[.int .i64 a0_0, .string a0_1, .string a0_2, .int .i64 a0_3, .string a0_4, .slice A0_5 l0_5.length c0_5, .slice A0_6 l0_6.length c0_6, .int .i64 a0_7]) (t := 99) ?hr ?_; (case hd => rfl); (case hg => rfl); (case hr => first | (go_simp; done) | (go_simp; rfl)); intro gb59001 hg w37 hbox hb; have n0_ := Aside0.mk (below_step (by repeat (first | (with_reducible first | exact HB.out | apply below_alloc | apply pw_below_drewN | apply below_drew1) | exact HB.out)) hb); have n1_ := Aside0.mk (hbox); have n2_ := Aside0.mk ((by rw [hg]; exact (below_size (by repeat (first | (with_reducible first | exact HB.out | apply below_alloc | apply pw_below_drewN | apply below_drew1) | exact HB.out))) : w.heap.size ≤ gb59001)); have n3_ := Aside0.mk ((by rw [hg]; exact (below_size (by repeat (first | (with_reducible first | exact HB.out | apply below_alloc | apply pw_below_drewN | apply below_drew1) | exact HB.out))) : w.heap.size ≤ gb59001)); clear HB; have HB := n0_; have BK59001 := n1_; have GW59001 := n2_; have GE59001 := n3_; clear n0_ n1_ n2_ n3_; clear hb hbox hg) | ((with_reducible refine gate_dst (N := 3) rfl ?_); refine box_event ?hg (N := 3) ?hd (cs := #[.int .i64 a1_0, .string a1_1, .string a1_2, .int .i64 a1_3, .string a1_4, .slice A1_5 l1_5.length c1_5, .slice A1_6 l1_6.length c1_6, .int .i64 a1_7]) (t := 99) ?hr ?_; (case hd => rfl); (case hg => rfl); (case hr => first | (go_simp; done) | (go_simp; rfl)); intro gb59002 hg w38 hbox hb; have n0_ := Aside0.mk (blk_below (g := gb59001) (o := .cells #[.int .i64 a0_0, .string a0_1, .string a0_2, .int .i64 a0_3, .string a0_4, .slice A0_5 l0_5.length c0_5, .slice A0_6 l0_6.length c0_6, .int .i64 a0_7] 99 (0, 0)) (by (with_reducible repeat (first | refine blk_drewN ?_ _ | refine blk_drew ?_ | refine blk_alloc ?_ _)); exact BK59001.out) hb); have n1_ := Aside0.mk (below_step (by repeat (first | (with_reducible first | exact HB.out | apply below_alloc | apply pw_below_drewN | apply below_drew1 | refine below_set ?_ GE59001.out) | exact HB.out)) hb); have n2_ := Aside0.mk (hbox); have n3_ := Aside0.mk ((by rw [hg]; exact (below_size (by repeat (first | (with_reducible first | exact HB.out | apply below_alloc | apply pw_below_drewN | apply below_drew1 | refine below_set ?_ GE59001.out) | exact HB.out))) : w.heap.size ≤ gb59002)); have n4_ := Aside0.mk ((by rw [hg]; exact (below_size (by repeat (first | (with_reducible first | exact HB.out | apply below_alloc | apply pw_below_drewN | apply below_drew1 | refine below_set ?_ GE59001.out) | exact HB.out))) : w.heap.size ≤ gb59002)); have n5_ := Aside0.mk ((by rw [hg]; exact Nat.ne_of_lt (blk_lt (g := gb59001) (o := .cells #[.int .i64 a0_0, .string a0_1, .string a0_2, .int .i64 a0_3, .string a0_4, .slice A0_5 l0_5.length c0_5, .slice A0_6 l0_6.length c0_6, .int .i64 a0_7] 99 (0, 0)) (by (with_reducible repeat (first | refine blk_drewN ?_ _ | refine blk_drew ?_ | refine blk_alloc ?_ _)); exact BK59001.out)) : gb59001 ≠ gb59002)); have n6_ := Aside0.mk ((by rw [hg]; exact Nat.ne_of_gt (blk_lt (g := gb59001) (o := .cells #[.int .i64 a0_0, .string a0_1, .string a0_2, .int .i64 a0_3, .string a0_4, .slice A0_5 l0_5.length c0_5, .slice A0_6 l0_6.length c0_6, .int .i64 a0_7] 99 (0, 0)) (by (with_reducible repeat (first | refine blk_drewN ?_ _ | refine blk_drew ?_ | refine blk_alloc ?_ _)); exact BK59001.out)) : gb59002 ≠ gb59001)); clear BK59001; clear HB; have BK59001 := n0_; have HB := n1_; have BK59002 := n2_; have GW59002 := n3_; have GE59002 := n4_; have NB59001_59002 := n5_; have NB59002_59001 := n6_; clear n0_ n1_ n2_ n3_ n4_ n5_ n6_; clear hb hbox hg; have hnb39 := NB59001_59002.out; have hnc39 := NB59002_59001.out; have hcz40_0 : w38.cell? ⟨gb59001, 0, none⟩ = some (.int .i64 a0_0) := (blk_cell BK59001.out 0).trans rfl; have hcz40_1 : w38.cell? ⟨gb59001, 1, none⟩ = some (.string a0_1) := (blk_cell BK59001.out 1).trans rfl; have hcz40_2 : w38.cell? ⟨gb59001, 2, none⟩ = some (.string a0_2) := (blk_cell BK59001.out 2).trans rfl; have hcz40_3 : w38.cell? ⟨gb59001, 3, none⟩ = some (.int .i64 a0_3) := (blk_cell BK59001.out 3).trans rfl; have hcz40_4 : w38.cell? ⟨gb59001, 4, none⟩ = some (.string a0_4) := (blk_cell BK59001.out 4).trans rfl; have hcz40_5 : w38.cell? ⟨gb59001, 5, none⟩ = some (.slice A0_5 l0_5.length c0_5) := (blk_cell BK59001.out 5).trans rfl; have hcz40_6 : w38.cell? ⟨gb59001, 6, none⟩ = some (.slice A0_6 l0_6.length c0_6) := (blk_cell BK59001.out 6).trans rfl; have hcz40_7 : w38.cell? ⟨gb59001, 7, none⟩ = some (.int .i64 a0_7) := (blk_cell BK59001.out 7).trans rfl; have hfz40_0 := blk_frozen BK59001.out 0; have hfz40_1 := blk_frozen BK59001.out 1; have hfz40_2 := blk_frozen BK59001.out 2; have hfz40_3 := blk_frozen BK59001.out 3; have hfz40_4 := blk_frozen BK59001.out 4; have hfz40_5 := blk_frozen BK59001.out 5; have hfz40_6 := blk_frozen BK59001.out 6; have hfz40_7 := blk_frozen BK59001.out 7; have hcz41_0 : w38.cell? ⟨gb59002, 0, none⟩ = some (.int .i64 a1_0) := (blk_cell BK59002.out 0).trans rfl; have hcz41_1 : w38.cell? ⟨gb59002, 1, none⟩ = some (.string a1_1) := (blk_cell BK59002.out 1).trans rfl; have hcz41_2 : w38.cell? ⟨gb59002, 2, none⟩ = some (.string a1_2) := (blk_cell BK59002.out 2).trans rfl; have hcz41_3 : w38.cell? ⟨gb59002, 3, none⟩ = some (.int .i64 a1_3) := (blk_cell BK59002.out 3).trans rfl; have hcz41_4 : w38.cell? ⟨gb59002, 4, none⟩ = some (.string a1_4) := (blk_cell BK59002.out 4).trans rfl; have hcz41_5 : w38.cell? ⟨gb59002, 5, none⟩ = some (.slice A1_5 l1_5.length c1_5) := (blk_cell BK59002.out 5).trans rfl; have hcz41_6 : w38.cell? ⟨gb59002, 6, none⟩ = some (.slice A1_6 l1_6.length c1_6) := (blk_cell BK59002.out 6).trans rfl; have hcz41_7 : w38.cell? ⟨gb59002, 7, none⟩ = some (.int .i64 a1_7) := (blk_cell BK59002.out 7).trans rfl; have hfz41_0 := blk_frozen BK59002.out 0; have hfz41_1 := blk_frozen BK59002.out 1; have hfz41_2 := blk_frozen BK59002.out 2; have hfz41_3 := blk_frozen BK59002.out 3; have hfz41_4 := blk_frozen BK59002.out 4; have hfz41_5 := blk_frozen BK59002.out 5; have hfz41_6 := blk_frozen BK59002.out 6; have hfz41_7 := blk_frozen BK59002.out 7))
      go_ret
      exact ⟨by first | rfl | (simp [errW_none, errW_some] <;> rfl) | (simp [*, errW_none, errW_some] <;> rfl), by repeat (first | (with_reducible first | exact HB.out | apply below_alloc | apply pw_below_drewN | apply below_drew1 | refine below_set ?_ GE59001.out | refine below_set ?_ GE59002.out) | exact HB.out)⟩
  · rw [if_neg c3] at H
    have c3b0 : (a0_0 == a1_0) = false := beq_eq_false_iff_ne.mpr c3
    have c3b1 : (a0_0 != a1_0) = true := bne_iff_ne.mpr c3
    obtain rfl := Option.some.inj H
    go_enter Try.func59, Try.ntmps59
    go_wp2_with (first | ((with_reducible refine gate_dst (N := 2) rfl ?_); refine box_event ?hg (N := 2) ?hd (cs := #[.int .i64 a0_0, .string a0_1, .string a0_2, .int .i64 a0_3, .string a0_4, .slice A0_5 l0_5.length c0_5, .slice A0_6 l0_6.length c0_6, .int .i64 a0_7]) (t := 99) ?hr ?_; (case hd => rfl); (case hg => rfl); (case hr => first | (go_simp; done) | (go_simp; rfl)); intro gb59001 hg w42 hbox hb; have n0_ := Aside0.mk (below_step (by repeat (first | (with_reducible first | exact HB.out | apply below_alloc | apply pw_below_drewN | apply below_drew1) | exact HB.out)) hb); have n1_ := Aside0.mk (hbox); have n2_ := Aside0.mk ((by rw [hg]; exact (below_size (by repeat (first | (with_reducible first | exact HB.out | apply below_alloc | apply pw_below_drewN | apply below_drew1) | exact HB.out))) : w.heap.size ≤ gb59001)); have n3_ := Aside0.mk ((by rw [hg]; exact (below_size (by repeat (first | (with_reducible first | exact HB.out | apply below_alloc | apply pw_below_drewN | apply below_drew1) | exact HB.out))) : w.heap.size ≤ gb59001)); clear HB; have HB := n0_; have BK59001 := n1_; have GW59001 := n2_; have GE59001 := n3_; clear n0_ n1_ n2_ n3_; clear hb hbox hg) | ((with_reducible refine gate_dst (N := 3) rfl ?_); refine box_event ?hg (N := 3) ?hd (cs := #[.int .i64 a1_0, .string a1_1, .string a1_2, .int .i64 a1_3, .string a1_4, .slice A1_5 l1_5.length c1_5, .slice A1_6 l1_6.length c1_6, .int .i64 a1_7]) (t := 99) ?hr ?_; (case hd => rfl); (case hg => rfl); (case hr => first | (go_simp; done) | (go_simp; rfl)); intro gb59002 hg w43 hbox hb; have n0_ := Aside0.mk (blk_below (g := gb59001) (o := .cells #[.int .i64 a0_0, .string a0_1, .string a0_2, .int .i64 a0_3, .string a0_4, .slice A0_5 l0_5.length c0_5, .slice A0_6 l0_6.length c0_6, .int .i64 a0_7] 99 (0, 0)) (by (with_reducible repeat (first | refine blk_drewN ?_ _ | refine blk_drew ?_ | refine blk_alloc ?_ _)); exact BK59001.out) hb); have n1_ := Aside0.mk (below_step (by repeat (first | (with_reducible first | exact HB.out | apply below_alloc | apply pw_below_drewN | apply below_drew1 | refine below_set ?_ GE59001.out) | exact HB.out)) hb); have n2_ := Aside0.mk (hbox); have n3_ := Aside0.mk ((by rw [hg]; exact (below_size (by repeat (first | (with_reducible first | exact HB.out | apply below_alloc | apply pw_below_drewN | apply below_drew1 | refine below_set ?_ GE59001.out) | exact HB.out))) : w.heap.size ≤ gb59002)); have n4_ := Aside0.mk ((by rw [hg]; exact (below_size (by repeat (first | (with_reducible first | exact HB.out | apply below_alloc | apply pw_below_drewN | apply below_drew1 | refine below_set ?_ GE59001.out) | exact HB.out))) : w.heap.size ≤ gb59002)); have n5_ := Aside0.mk ((by rw [hg]; exact Nat.ne_of_lt (blk_lt (g := gb59001) (o := .cells #[.int .i64 a0_0, .string a0_1, .string a0_2, .int .i64 a0_3, .string a0_4, .slice A0_5 l0_5.length c0_5, .slice A0_6 l0_6.length c0_6, .int .i64 a0_7] 99 (0, 0)) (by (with_reducible repeat (first | refine blk_drewN ?_ _ | refine blk_drew ?_ | refine blk_alloc ?_ _)); exact BK59001.out)) : gb59001 ≠ gb59002)); have n6_ := Aside0.mk ((by rw [hg]; exact Nat.ne_of_gt (blk_lt (g := gb59001) (o := .cells #[.int .i64 a0_0, .string a0_1, .string a0_2, .int .i64 a0_3, .string a0_4, .slice A0_5 l0_5.length c0_5, .slice A0_6 l0_6.length c0_6, .int .i64 a0_7] 99 (0, 0)) (by (with_reducible repeat (first | refine blk_drewN ?_ _ | refine blk_drew ?_ | refine blk_alloc ?_ _)); exact BK59001.out)) : gb59002 ≠ gb59001)); clear BK59001; clear HB; have BK59001 := n0_; have HB := n1_; have BK59002 := n2_; have GW59002 := n3_; have GE59002 := n4_; have NB59001_59002 := n5_; have NB59002_59001 := n6_; clear n0_ n1_ n2_ n3_ n4_ n5_ n6_; clear hb hbox hg; have hnb44 := NB59001_59002.out; have hnc44 := NB59002_59001.out; have hcz45_0 : w43.cell? ⟨gb59001, 0, none⟩ = some (.int .i64 a0_0) := (blk_cell BK59001.out 0).trans rfl; have hcz45_1 : w43.cell? ⟨gb59001, 1, none⟩ = some (.string a0_1) := (blk_cell BK59001.out 1).trans rfl; have hcz45_2 : w43.cell? ⟨gb59001, 2, none⟩ = some (.string a0_2) := (blk_cell BK59001.out 2).trans rfl; have hcz45_3 : w43.cell? ⟨gb59001, 3, none⟩ = some (.int .i64 a0_3) := (blk_cell BK59001.out 3).trans rfl; have hcz45_4 : w43.cell? ⟨gb59001, 4, none⟩ = some (.string a0_4) := (blk_cell BK59001.out 4).trans rfl; have hcz45_5 : w43.cell? ⟨gb59001, 5, none⟩ = some (.slice A0_5 l0_5.length c0_5) := (blk_cell BK59001.out 5).trans rfl; have hcz45_6 : w43.cell? ⟨gb59001, 6, none⟩ = some (.slice A0_6 l0_6.length c0_6) := (blk_cell BK59001.out 6).trans rfl; have hcz45_7 : w43.cell? ⟨gb59001, 7, none⟩ = some (.int .i64 a0_7) := (blk_cell BK59001.out 7).trans rfl; have hfz45_0 := blk_frozen BK59001.out 0; have hfz45_1 := blk_frozen BK59001.out 1; have hfz45_2 := blk_frozen BK59001.out 2; have hfz45_3 := blk_frozen BK59001.out 3; have hfz45_4 := blk_frozen BK59001.out 4; have hfz45_5 := blk_frozen BK59001.out 5; have hfz45_6 := blk_frozen BK59001.out 6; have hfz45_7 := blk_frozen BK59001.out 7; have hcz46_0 : w43.cell? ⟨gb59002, 0, none⟩ = some (.int .i64 a1_0) := (blk_cell BK59002.out 0).trans rfl; have hcz46_1 : w43.cell? ⟨gb59002, 1, none⟩ = some (.string a1_1) := (blk_cell BK59002.out 1).trans rfl; have hcz46_2 : w43.cell? ⟨gb59002, 2, none⟩ = some (.string a1_2) := (blk_cell BK59002.out 2).trans rfl; have hcz46_3 : w43.cell? ⟨gb59002, 3, none⟩ = some (.int .i64 a1_3) := (blk_cell BK59002.out 3).trans rfl; have hcz46_4 : w43.cell? ⟨gb59002, 4, none⟩ = some (.string a1_4) := (blk_cell BK59002.out 4).trans rfl; have hcz46_5 : w43.cell? ⟨gb59002, 5, none⟩ = some (.slice A1_5 l1_5.length c1_5) := (blk_cell BK59002.out 5).trans rfl; have hcz46_6 : w43.cell? ⟨gb59002, 6, none⟩ = some (.slice A1_6 l1_6.length c1_6) := (blk_cell BK59002.out 6).trans rfl; have hcz46_7 : w43.cell? ⟨gb59002, 7, none⟩ = some (.int .i64 a1_7) := (blk_cell BK59002.out 7).trans rfl; have hfz46_0 := blk_frozen BK59002.out 0; have hfz46_1 := blk_frozen BK59002.out 1; have hfz46_2 := blk_frozen BK59002.out 2; have hfz46_3 := blk_frozen BK59002.out 3; have hfz46_4 := blk_frozen BK59002.out 4; have hfz46_5 := blk_frozen BK59002.out 5; have hfz46_6 := blk_frozen BK59002.out 6; have hfz46_7 := blk_frozen BK59002.out 7))
    go_ret
    exact ⟨by first | rfl | (simp [errW_none, errW_some] <;> rfl) | (simp [*, errW_none, errW_some] <;> rfl), by repeat (first | (with_reducible first | exact HB.out | apply below_alloc | apply pw_below_drewN | apply below_drew1 | refine below_set ?_ GE59001.out | refine below_set ?_ GE59002.out) | exact HB.out)⟩


end Go.Proofs.Ytkefiajemifklaa.A


namespace Go.Proofs.Ytkefiajemifklaa.A
open Go.RowKit Go.Proofs.Ytkefiajemifklaa.Ext Go.Proofs.YtkefiajemifklaaW.PrintWords Go.Proofs.YtkefiajemifklaaW.PrintLast Go.Proofs.YtkefiajemifklaaW.PrintMore
attribute [local go_sem] max2_int min2_int max_two min_two max_three min_three max_four min_four   -- for this text's walks alone
set_option linter.unusedVariables false
set_option linter.unusedSimpArgs false

/-! ### laws_szIntS: function 97 -/
def laws_szIntS.f (l0 : List Int) (a1 : Int) : Option (Int) := if (wrap64 (a1 - (l0.length : Int))) < 0 then (some (-1)) else (some (wrap64 (a1 - (l0.length : Int))))
set_option maxHeartbeats 8000000 in
set_option maxRecDepth 100000 in
theorem laws_szIntS.calls (A0 : Option Addr) (c0 : Nat) (l0 : List Int) (a1 : Int) (r : Int) (w : World) (hr0 : Kd.C (Kd.int .i64) w A0 l0.length l0) (hc0 : l0.length ≤ c0) (h : laws_szIntS.f l0 a1 = some r) :
    Calls Try.prog 97 #[.slice A0 l0.length c0, .int .i64 a1] w fun e w' => e = .returned (.int .i64 r) ∧ Drawn0 w w' := by
  have HR0 := Aside0.mk hr0
  have HC0 := Aside0.mk hc0
  clear hr0 hc0
  have H : (if (wrap64 (a1 - (l0.length : Int))) < 0 then (some (-1)) else (some (wrap64 (a1 - (l0.length : Int))))) = some r := h
  clear h
  by_cases c3 : (wrap64 (a1 - (l0.length : Int))) < 0
  · rw [if_pos c3] at H
    have c3b0 : decide ((wrap64 (a1 - (l0.length : Int))) < 0) = true := decide_eq_true c3
    have c3w : decide ((IntKind.i64.wrap (a1 - (l0.length : Int))) < 0) = true := by simp only [i64_w]; exact c3b0
    clear c3
    obtain rfl := Option.some.inj H
    go_enter Try.func97, Try.ntmps97
    go_wp2
    go_ret
    exact ⟨by first | rfl | (simp; done) | (simp [*]; done), by repeat (first | exact Drawn0.refl _ | apply Drawn0.step)⟩
  · rw [if_neg c3] at H
    have c3b0 : decide ((wrap64 (a1 - (l0.length : Int))) < 0) = false := decide_eq_false c3
    have c3w : decide ((IntKind.i64.wrap (a1 - (l0.length : Int))) < 0) = false := by simp only [i64_w]; exact c3b0
    clear c3
    obtain rfl := Option.some.inj H
    go_enter Try.func97, Try.ntmps97
    go_wp2
    go_ret
    exact ⟨by first | rfl | (simp; done) | (simp [*]; done), by repeat (first | exact Drawn0.refl _ | apply Drawn0.step)⟩

/-! ### laws_toIntS: function 99 -/
def laws_toIntS.l0 : Nat → List Int → List Int → Int → Option (List Int)
  | 0, _, _, _ => none
  | k + 1, x0, x3, x4 => if x4 < (x0.length : Int) then (if 0 ≤ x4 then (if x4 < (x3.length : Int) then (laws_toIntS.l0 k x0 (x3.set (x4 : Int).toNat (rd x0 x4)) (wrap64 (x4 + 1))) else (none)) else (none)) else (some x3)
def laws_toIntS.f (k : Nat) (l0 : List Int) : Option (List Int) := if 0 ≤ (l0.length : Int) then (if ((l0.length : Int) : Int).toNat ≤ 35184372088832 then (laws_toIntS.l0 k l0 (List.replicate ((l0.length : Int) : Int).toNat 0) 0) else (none)) else (none)
theorem laws_toIntS.mono_l : ∀ k, (∀ y0 y1 y2, LeO (laws_toIntS.l0 k y0 y1 y2) (laws_toIntS.l0 (k + 1) y0 y1 y2))
  | 0 => fun _ _ _ r h => by simp [laws_toIntS.l0] at h
  | k + 1 => by
    have ih0 := laws_toIntS.mono_l k
    · intro y0 y1 y2
      unfold laws_toIntS.l0
      repeat' first
      | (with_reducible exact ih0 _ _ _)
      | (with_reducible exact LeO.refl _)
      | (with_reducible exact LeO.none _)
      | (with_reducible refine LeO.ite ?_ ?_)
      | (with_reducible refine LeO.bind ?_ (fun _ => ?_))
      | exact ih0 _ _ _
      | exact LeO.none _
      | refine LeO.ite ?_ ?_
      | refine LeO.bind ?_ (fun _ => ?_)
theorem laws_toIntS.mono : ∀ a0 k, LeO (laws_toIntS.f k a0) (laws_toIntS.f (k + 1) a0) := by
  intro a0 k
  have ih0 := laws_toIntS.mono_l k
  unfold laws_toIntS.f
  repeat' first
      | (with_reducible exact ih0 _ _ _)
      | (with_reducible exact LeO.refl _)
      | (with_reducible exact LeO.none _)
      | (with_reducible refine LeO.ite ?_ ?_)
      | (with_reducible refine LeO.bind ?_ (fun _ => ?_))
      | exact ih0 _ _ _
      | exact LeO.none _
      | refine LeO.ite ?_ ?_
      | refine LeO.bind ?_ (fun _ => ?_)
set_option maxHeartbeats 8000000 in
set_option maxRecDepth 100000 in
theorem laws_toIntS.calls (k : Nat) (A0 : Option Addr) (c0 : Nat) (l0 : List Int) (r : List Int) (w : World) (hr0 : Kd.C (Kd.int .i64) w A0 l0.length l0) (hc0 : l0.length ≤ c0) (h : laws_toIntS.f k l0 = some r) :
    Calls Try.prog 99 #[.slice A0 l0.length c0] w fun e w' => ∃ v0_ : Value, e = .returned (v0_) ∧ Kd.R (Kd.int .i64) 3 w' w.heap.size (fun _ => True) v0_ r ∧ Below w.heap.size w w' := by
  have HR0 := Aside0.mk hr0
  have HC0 := Aside0.mk hc0
  clear hr0 hc0
  have HB := Aside0.mk (Below.refl w.heap.size w)
  have H : (if 0 ≤ (l0.length : Int) then (if ((l0.length : Int) : Int).toNat ≤ 35184372088832 then (laws_toIntS.l0 k l0 (List.replicate ((l0.length : Int) : Int).toNat 0) 0) else (none)) else (none)) = some r := h
  clear h
  by_cases c2 : 0 ≤ (l0.length : Int)
  · rw [if_pos c2] at H
    have c2b0 := eq_true c2
    have c2b1 : decide (0 ≤ (l0.length : Int)) = true := decide_eq_true c2
    clear c2
    by_cases c3 : ((l0.length : Int) : Int).toNat ≤ 35184372088832
    · rw [if_pos c3] at H
      have c3b0 := eq_true c3
      have c3b1 : decide (((l0.length : Int) : Int).toNat ≤ 35184372088832) = true := decide_eq_true c3
      clear c3
      obtain ⟨y99001, hy99001⟩ : ∃ y_ : List Int, y_ = (List.replicate ((l0.length : Int) : Int).toNat 0) := ⟨_, rfl⟩
      replace H : (laws_toIntS.l0 k l0 y99001 0) = some r := by first | (rw [hy99001]; with_reducible exact H) | (have H2_ := (Option.bind_some _ _).symm.trans H; rw [hy99001]; with_reducible exact H2_) | (have H2_ := (Option.bind_some _ _).symm.trans H; with_reducible exact H2_) | with_reducible exact H | (rw [hy99001]; exact H) | exact H
      have Ny99001 := Aside0.mk hy99001
      clear hy99001
      have H' := Aside0.mk H
      clear H
      go_enter Try.func99, Try.ntmps99
      go_wp2_with (first | ((with_reducible refine gate_dst (N := 7) rfl ?_); refine Kd.R_make (Kd.int .i64) _ 3 rfl (N := 7) rfl 29 _ _ rfl (l0.length : Int) rfl rfl Try.underlying29 (.int .i64 0) 8 info3 rfl (by decide) (by omega) 0 (ok := fun _ => True) (okp := fun _ => True) rfl (fun _ hk => hk) trivial (of_decide_eq_true (by first | (with_reducible assumption) | assumption)) (Nat.le_trans (Nat.mul_le_mul_right _ (of_decide_eq_true (by first | (with_reducible assumption) | assumption) : (l0.length : Int).toNat ≤ 35184372088832)) (by omega)) (Below.refl _ _) (Nat.le_refl _) ?_; intro v99002 w4 ho5 hb hg_ hnew_; clear hg_ hnew_; (first | rw [← Ny99001.out] at ho5 | (simp only [Int.reduceToNat] at ho5; rw [← Ny99001.out] at ho5)); have n0_ := Aside0.mk (Kd.R_lower ho5 (below_size (by repeat (first | (with_reducible first | exact HB.out | apply below_alloc | apply pw_below_drewN | apply below_drew1) | exact HB.out)))); have n1_ := Aside0.mk (below_step (by repeat (first | (with_reducible first | exact HB.out | apply below_alloc | apply pw_below_drewN | apply below_drew1) | exact HB.out)) hb); clear HB; have HO99003 := n0_; have HB := n1_; clear n0_ n1_; clear hb ho5))
      first | go_loopg [4] k (fun kq v4 w' => ∃ (x3_1 : List Int) (x4_1 : Int), v4 = .int .i64 x4_1 ∧ Aside0 (laws_toIntS.l0 kq l0 x3_1 x4_1 = some r) ∧ Aside0 (kq ≤ k) ∧ Aside0 (Kd.R (Kd.int .i64) 3 w' w.heap.size (fun _ => True) v99002 x3_1) ∧ Aside0 (Below w.heap.size w w')) | (simp only [Act.put, List.setIfInBounds_toArray, List.set_cons_succ, List.set_cons_zero]; go_loopg [4] k (fun kq v4 w' => ∃ (x3_1 : List Int) (x4_1 : Int), v4 = .int .i64 x4_1 ∧ Aside0 (laws_toIntS.l0 kq l0 x3_1 x4_1 = some r) ∧ Aside0 (kq ≤ k) ∧ Aside0 (Kd.R (Kd.int .i64) 3 w' w.heap.size (fun _ => True) v99002 x3_1) ∧ Aside0 (Below w.heap.size w w')))
      case atStart => exact ⟨(y99001), (0), (by first | rfl | (simp; done) | (simp [*]; done)), H', ⟨Nat.le_refl _⟩, ⟨by (with_reducible repeat (first | apply Kd.R_alloc | apply Kd.R_drewN | apply Kd.R_drew)); exact HO99003.out⟩, ⟨by repeat (first | (with_reducible first | exact HB.out | apply below_alloc | apply pw_below_drewN | apply below_drew1) | exact HB.out)⟩⟩
      case round =>
        clear H'
        try clear c2
        try clear c2b0
        try clear c2b1
        try clear p2
        try clear c3
        try clear c3b0
        try clear c3b1
        obtain ⟨x3_1, x4_1, rfl, HA, HK1, HO_3, HB⟩ := hrel
        cases gk with
        | zero => exact absurd HA.out (by simp [laws_toIntS.l0])
        | succ k1 =>
          have H := HA.out
          clear HA
          simp only [laws_toIntS.l0] at H
          by_cases c6 : x4_1 < (l0.length : Int)
          · rw [if_pos c6] at H
            have c6b0 : decide (x4_1 < (l0.length : Int)) = true := decide_eq_true c6
            clear c6
            by_cases c7 : 0 ≤ x4_1
            · rw [if_pos c7] at H
              have c7b0 : decide (0 ≤ x4_1) = true := decide_eq_true c7
              clear c7
              by_cases c8 : x4_1 < (x3_1.length : Int)
              · rw [if_pos c8] at H
                have c8b0 : decide (x4_1 < (x3_1.length : Int)) = true := decide_eq_true c8
                clear c8
                obtain ⟨y99005, hy99005⟩ : ∃ y_ : List Int, y_ = (x3_1.set (x4_1 : Int).toNat (rd l0 x4_1)) := ⟨_, rfl⟩
                replace H : (laws_toIntS.l0 k1 l0 y99005 (wrap64 (x4_1 + 1))) = some r := by first | (rw [hy99005]; with_reducible exact H) | (have H2_ := (Option.bind_some _ _).symm.trans H; rw [hy99005]; with_reducible exact H2_) | (have H2_ := (Option.bind_some _ _).symm.trans H; with_reducible exact H2_) | with_reducible exact H | (rw [hy99005]; exact H) | exact H
                have Ny99005 := Aside0.mk hy99005
                clear hy99005
                have H' := Aside0.mk H
                clear H
                have p99004 : 0 ≤ (x4_1 : Int) := of_decide_eq_true (by first | (with_reducible assumption) | assumption)
                have q99004 : x4_1 < (l0.length : Int) := of_decide_eq_true (by first | (with_reducible assumption) | assumption)
                obtain ⟨ad99004, e99004, hx99004_0⟩ := Kd.at_int HR0.out x4_1 p99004 q99004
                cases e99004
                replace hx99004_0 := (HB.out.cell (World.block_lt_of_cell? w _ hx99004_0)).trans hx99004_0
                replace p99004 := eq_true p99004
                replace q99004 := eq_true q99004
                have p9 : 0 ≤ (x4_1 : Int) := of_decide_eq_true (by first | (with_reducible assumption) | assumption)
                have q9 : (x4_1 : Int) < ((x3_1.length : Int) : Int) := of_decide_eq_true (by first | (with_reducible assumption) | assumption)
                obtain ⟨go9, co9, eo9, gb9, gl9, cl9, HG9⟩ := Kd.R_form HO_3.out (by omega)
                (first | cases eo9 | (injection eo9 with ea_ en_ ec_; (first | subst ea_ | (injection ea_ with ea_; subst ea_)); subst ec_; clear en_))
                have GB9 := Aside0.mk gb9
                have GG9 := Aside0.mk HG9
                clear gb9 gl9 HG9
                obtain ⟨hx9_0, hf9_0⟩ := Kd.R_celln 0 HO_3.out (x4_1 : Int) p9 q9
                replace p9 := eq_true p9
                replace q9 := eq_true q9
                have HP10 := Kd.R_putg HO_3.out (x4_1 : Int) (rd l0 x4_1)
                go_wp2_with (first | ((with_reducible refine gate_store (t := 3) (p := 20) rfl ?_); refine store_event (t := 3) (p := 20) (v := ?vo_w11) (w1 := (wr.setCell ⟨go9, (x4_1 : Int).toNat, none⟩ (.int .i64 (rd l0 x4_1)))) ?hg ?ho ?hn ?hr ?_; (case ho => rfl); (case hg => rfl); (case hn => rfl); (case hr => first | (go_simp; done) | (go_simp; rfl)); intro w11 hw; have hg : wr.grownBy w11 (some go9) := (by rw [hw]; exact HP10.2); have hp_ : Kd.R (Kd.int .i64) 3 w11 w.heap.size (fun _ => True) (.slice (some ⟨go9, 0, none⟩) x3_1.length co9) y99005 := (by rw [hw, Ny99005.out]; exact HP10.1); clear HP10; have n0_ := Aside0.mk (hp_); have n1_ := Aside0.mk ((by rw [hw]; exact below_set (HB.out) GB9.out : Below w.heap.size w w11)); clear HO_3; clear HB; have HO_3 := n0_; have HB := n1_; clear n0_ n1_; clear hg hw hp_))
                go_roundg k1
                case measure => have := HK1.out; omega
                case rel => exact ⟨(y99005), (wrap64 (x4_1 + 1)), (by first | rfl | (simp; done) | (simp [*]; done)), H', ⟨by have := HK1.out; omega⟩, ⟨by (with_reducible repeat (first | apply Kd.R_alloc | apply Kd.R_drewN | apply Kd.R_drew)); exact HO_3.out⟩, ⟨by repeat (first | (with_reducible first | exact HB.out | apply below_alloc | apply pw_below_drewN | apply below_drew1) | exact HB.out)⟩⟩
              · rw [if_neg c8] at H
                exact absurd H (by simp)
            · rw [if_neg c7] at H
              exact absurd H (by simp)
          · rw [if_neg c6] at H
            have c6b0 : decide (x4_1 < (l0.length : Int)) = false := decide_eq_false c6
            clear c6
            obtain rfl := Option.some.inj H
            go_wp2
            go_ret
            exact ⟨_, by first | rfl | (simp [errW_none, errW_some] <;> rfl) | (simp [*, errW_none, errW_some] <;> rfl), by (with_reducible repeat (first | apply Kd.R_alloc | apply Kd.R_drewN | apply Kd.R_drew)); exact HO_3.out, by repeat (first | (with_reducible first | exact HB.out | apply below_alloc | apply pw_below_drewN | apply below_drew1) | exact HB.out)⟩
    · rw [if_neg c3] at H
      exact absurd H (by simp)
  · rw [if_neg c2] at H
    exact absurd H (by simp)

/-! ### laws_eqIntS: function 100 -/
def laws_eqIntS.l0 : Nat → List Int → List Int → Int → Option (Bool)
  | 0, _, _, _ => none
  | k + 1, x0, x1, x5 => if x5 < (x0.length : Int) then (if 0 ≤ x5 then (if x5 < (x1.length : Int) then (if (rd x0 x5) = (rd x1 x5) then (laws_eqIntS.l0 k x0 x1 (wrap64 (x5 + 1))) else (some false)) else (none)) else (none)) else (some true)
def laws_eqIntS.f (k : Nat) (l0 : List Int) (l1 : List Int) : Option (Bool) := if (l0.length : Int) = (l1.length : Int) then (laws_eqIntS.l0 k l0 l1 0) else (some false)
theorem laws_eqIntS.mono_l : ∀ k, (∀ y0 y1 y2, LeO (laws_eqIntS.l0 k y0 y1 y2) (laws_eqIntS.l0 (k + 1) y0 y1 y2))
  | 0 => fun _ _ _ r h => by simp [laws_eqIntS.l0] at h
  | k + 1 => by
    have ih0 := laws_eqIntS.mono_l k
    · intro y0 y1 y2
      unfold laws_eqIntS.l0
      repeat' first
      | (with_reducible exact ih0 _ _ _)
      | (with_reducible exact LeO.refl _)
      | (with_reducible exact LeO.none _)
      | (with_reducible refine LeO.ite ?_ ?_)
      | (with_reducible refine LeO.bind ?_ (fun _ => ?_))
      | exact ih0 _ _ _
      | exact LeO.none _
      | refine LeO.ite ?_ ?_
      | refine LeO.bind ?_ (fun _ => ?_)
theorem laws_eqIntS.mono : ∀ a0 a1 k, LeO (laws_eqIntS.f k a0 a1) (laws_eqIntS.f (k + 1) a0 a1) := by
  intro a0 a1 k
  have ih0 := laws_eqIntS.mono_l k
  unfold laws_eqIntS.f
  repeat' first
      | (with_reducible exact ih0 _ _ _)
      | (with_reducible exact LeO.refl _)
      | (with_reducible exact LeO.none _)
      | (with_reducible refine LeO.ite ?_ ?_)
      | (with_reducible refine LeO.bind ?_ (fun _ => ?_))
      | exact ih0 _ _ _
      | exact LeO.none _
      | refine LeO.ite ?_ ?_
      | refine LeO.bind ?_ (fun _ => ?_)
set_option maxHeartbeats 8000000 in
set_option maxRecDepth 100000 in
theorem laws_eqIntS.calls (k : Nat) (A0 : Option Addr) (c0 : Nat) (l0 : List Int) (A1 : Option Addr) (c1 : Nat) (l1 : List Int) (r : Bool) (w : World) (hr0 : Kd.C (Kd.int .i64) w A0 l0.length l0) (hc0 : l0.length ≤ c0) (hr1 : Kd.C (Kd.int .i64) w A1 l1.length l1) (hc1 : l1.length ≤ c1) (h : laws_eqIntS.f k l0 l1 = some r) :
    Calls Try.prog 100 #[.slice A0 l0.length c0, .slice A1 l1.length c1] w fun e w' => e = .returned (.bool r) ∧ Drawn0 w w' := by
  have HR0 := Aside0.mk hr0
  have HC0 := Aside0.mk hc0
  clear hr0 hc0
  have HR1 := Aside0.mk hr1
  have HC1 := Aside0.mk hc1
  clear hr1 hc1
  have H : (if (l0.length : Int) = (l1.length : Int) then (laws_eqIntS.l0 k l0 l1 0) else (some false)) = some r := h
  clear h
  by_cases c3 : (l0.length : Int) = (l1.length : Int)
  · rw [if_pos c3] at H
    have c3b0 : ((l0.length : Int) == (l1.length : Int)) = true := beq_iff_eq.mpr c3
    have c3b1 : ((l0.length : Int) != (l1.length : Int)) = false := bne_eq_false_iff_eq.mpr c3
    have c3b2 : (l0.length == l1.length) = true := by first | simpa using c3 | (simp at c3 ⊢; omega)
    clear c3
    have H' := Aside0.mk H
    clear H
    go_enter Try.func100, Try.ntmps100
    go_wp2
    repeat (go_quiet (fail); try go_wp2)
    first | go_loopg [5] k (fun kq v5 w' => ∃ (x5_1 : Int), v5 = .int .i64 x5_1 ∧ Aside0 (laws_eqIntS.l0 kq l0 l1 x5_1 = some r) ∧ Aside0 (kq ≤ k) ∧ Drawn0 w w') | (simp only [Act.put, List.setIfInBounds_toArray, List.set_cons_succ, List.set_cons_zero]; go_loopg [5] k (fun kq v5 w' => ∃ (x5_1 : Int), v5 = .int .i64 x5_1 ∧ Aside0 (laws_eqIntS.l0 kq l0 l1 x5_1 = some r) ∧ Aside0 (kq ≤ k) ∧ Drawn0 w w'))
    case atStart => exact ⟨(0), (by first | rfl | (simp; done) | (simp [*]; done)), H', ⟨Nat.le_refl _⟩, by repeat (first | exact Drawn0.refl _ | apply Drawn0.step)⟩
    case round =>
      clear H'
      try clear c1
      try clear p2
      try clear c3
      try clear c3b0
      try clear c3b1
      try clear c3b2
      obtain ⟨x5_1, rfl, HA, HK1, ⟨m1, rfl⟩⟩ := hrel
      cases gk with
      | zero => exact absurd HA.out (by simp [laws_eqIntS.l0])
      | succ k1 =>
        have H := HA.out
        clear HA
        simp only [laws_eqIntS.l0] at H
        by_cases c4 : x5_1 < (l0.length : Int)
        · rw [if_pos c4] at H
          have c4b0 : decide (x5_1 < (l0.length : Int)) = true := decide_eq_true c4
          clear c4
          by_cases c5 : 0 ≤ x5_1
          · rw [if_pos c5] at H
            have c5b0 : decide (0 ≤ x5_1) = true := decide_eq_true c5
            clear c5
            by_cases c6 : x5_1 < (l1.length : Int)
            · rw [if_pos c6] at H
              have c6b0 : decide (x5_1 < (l1.length : Int)) = true := decide_eq_true c6
              clear c6
              by_cases c7 : (rd l0 x5_1) = (rd l1 x5_1)
              · rw [if_pos c7] at H
                have c7b0 : ((rd l0 x5_1) == (rd l1 x5_1)) = true := beq_iff_eq.mpr c7
                have c7b1 : ((rd l0 x5_1) != (rd l1 x5_1)) = false := bne_eq_false_iff_eq.mpr c7
                clear c7
                have H' := Aside0.mk H
                clear H
                have p100001 : 0 ≤ (x5_1 : Int) := of_decide_eq_true (by first | (with_reducible assumption) | assumption)
                have q100001 : x5_1 < (l0.length : Int) := of_decide_eq_true (by first | (with_reducible assumption) | assumption)
                obtain ⟨ad100001, e100001, hx100001_0⟩ := Kd.at_int HR0.out x5_1 p100001 q100001
                cases e100001
                replace p100001 := eq_true p100001
                replace q100001 := eq_true q100001
                have p100002 : 0 ≤ (x5_1 : Int) := of_decide_eq_true (by first | (with_reducible assumption) | assumption)
                have q100002 : x5_1 < (l1.length : Int) := of_decide_eq_true (by first | (with_reducible assumption) | assumption)
                obtain ⟨ad100002, e100002, hx100002_0⟩ := Kd.at_int HR1.out x5_1 p100002 q100002
                cases e100002
                replace p100002 := eq_true p100002
                replace q100002 := eq_true q100002
                go_wp2
                repeat (go_quiet (fail); try go_wp2)
                go_roundg k1
                case measure => have := HK1.out; omega
                case rel => exact ⟨(wrap64 (x5_1 + 1)), (by first | rfl | (simp; done) | (simp [*]; done)), H', ⟨by have := HK1.out; omega⟩, by repeat (first | exact Drawn0.refl _ | apply Drawn0.step)⟩
              · rw [if_neg c7] at H
                have c7b0 : ((rd l0 x5_1) == (rd l1 x5_1)) = false := beq_eq_false_iff_ne.mpr c7
                have c7b1 : ((rd l0 x5_1) != (rd l1 x5_1)) = true := bne_iff_ne.mpr c7
                obtain rfl := Option.some.inj H
                have p100001 : 0 ≤ (x5_1 : Int) := of_decide_eq_true (by first | (with_reducible assumption) | assumption)
                have q100001 : x5_1 < (l0.length : Int) := of_decide_eq_true (by first | (with_reducible assumption) | assumption)
                obtain ⟨ad100001, e100001, hx100001_0⟩ := Kd.at_int HR0.out x5_1 p100001 q100001
                cases e100001
                replace p100001 := eq_true p100001
                replace q100001 := eq_true q100001
                have p100002 : 0 ≤ (x5_1 : Int) := of_decide_eq_true (by first | (with_reducible assumption) | assumption)
                have q100002 : x5_1 < (l1.length : Int) := of_decide_eq_true (by first | (with_reducible assumption) | assumption)
                obtain ⟨ad100002, e100002, hx100002_0⟩ := Kd.at_int HR1.out x5_1 p100002 q100002
                cases e100002
                replace p100002 := eq_true p100002
                replace q100002 := eq_true q100002
                go_wp2
                repeat (go_quiet (fail); try go_wp2)
                go_ret
                exact ⟨by first | rfl | (simp; done) | (simp [*]; done), by repeat (first | exact Drawn0.refl _ | apply Drawn0.step)⟩
            · rw [if_neg c6] at H
              exact absurd H (by simp)
          · rw [if_neg c5] at H
            exact absurd H (by simp)
        · rw [if_neg c4] at H
          have c4b0 : decide (x5_1 < (l0.length : Int)) = false := decide_eq_false c4
          clear c4
          obtain rfl := Option.some.inj H
          go_wp2
          repeat (go_quiet (fail); try go_wp2)
          go_ret
          exact ⟨by first | rfl | (simp; done) | (simp [*]; done), by repeat (first | exact Drawn0.refl _ | apply Drawn0.step)⟩
  · rw [if_neg c3] at H
    have c3b0 : ((l0.length : Int) == (l1.length : Int)) = false := beq_eq_false_iff_ne.mpr c3
    have c3b1 : ((l0.length : Int) != (l1.length : Int)) = true := bne_iff_ne.mpr c3
    have c3b2 : (l0.length == l1.length) = false := by first | simpa using c3 | (simp at c3 ⊢; omega)
    obtain rfl := Option.some.inj H
    go_enter Try.func100, Try.ntmps100
    go_wp2
    repeat (go_quiet (fail); try go_wp2)
    go_ret
    exact ⟨by first | rfl | (simp; done) | (simp [*]; done), by repeat (first | exact Drawn0.refl _ | apply Drawn0.step)⟩


end Go.Proofs.Ytkefiajemifklaa.A


namespace Go.Proofs.Ytkefiajemifklaa.A
open Go.RowKit Go.Proofs.Ytkefiajemifklaa.Ext Go.Proofs.YtkefiajemifklaaW.PrintWords Go.Proofs.YtkefiajemifklaaW.PrintLast Go.Proofs.YtkefiajemifklaaW.PrintMore
attribute [local go_sem] max2_int min2_int max_two min_two max_three min_three max_four min_four   -- for this text's walks alone
set_option linter.unusedVariables false
set_option linter.unusedSimpArgs false

/-! ### laws_szRegexS: function 158 -/
def laws_szRegexSG.l0 (gF : Nat → Int → ByteArray → List (S90) → Int → Option (Int)) : Nat → List (S90) → Int → Int → Option (Int)
  | 0, _, _, _ => none
  | k + 1, x0, x1, x5 => if x5 < (x0.length : Int) then (if 0 ≤ x5 then ((gF k ((rd_T90 x0 x5).f0) ((rd_T90 x0 x5).f1) ((rd_T90 x0 x5).f2) x1).bind fun t158002 => (if t158002 < 0 then (some (-1)) else (laws_szRegexSG.l0 gF k x0 t158002 (wrap64 (x5 + 1))))) else (none)) else (some x1)
def laws_szRegexSG.f (gF : Nat → Int → ByteArray → List (S90) → Int → Option (Int)) (k : Nat) (l0 : List (S90)) (a1 : Int) : Option (Int) := if (wrap64 (a1 - (l0.length : Int))) < 0 then (some (-1)) else (laws_szRegexSG.l0 gF k l0 (wrap64 (a1 - (l0.length : Int))) 0)
theorem laws_szRegexSG.mono_l (gF : Nat → Int → ByteArray → List (S90) → Int → Option (Int)) (gM : ∀ a0 a1 a2 a3 k, LeO (gF k a0 a1 a2 a3) (gF (k + 1) a0 a1 a2 a3)) : ∀ k, (∀ y0 y1 y2, LeO (laws_szRegexSG.l0 gF k y0 y1 y2) (laws_szRegexSG.l0 gF (k + 1) y0 y1 y2))
  | 0 => fun _ _ _ r h => by simp [laws_szRegexSG.l0] at h
  | k + 1 => by
    have ih0 := laws_szRegexSG.mono_l gF gM k
    · intro y0 y1 y2
      unfold laws_szRegexSG.l0
      repeat' first
      | (with_reducible exact ih0 _ _ _)
      | (with_reducible exact gM _ _ _ _ _)
      | (with_reducible exact LeO.refl _)
      | (with_reducible exact LeO.none _)
      | (with_reducible refine LeO.ite ?_ ?_)
      | (with_reducible refine LeO.bind ?_ (fun _ => ?_))
      | exact ih0 _ _ _
      | exact gM _ _ _ _ _
      | exact LeO.none _
      | refine LeO.ite ?_ ?_
      | refine LeO.bind ?_ (fun _ => ?_)
theorem laws_szRegexSG.mono (gF : Nat → Int → ByteArray → List (S90) → Int → Option (Int)) (gM : ∀ a0 a1 a2 a3 k, LeO (gF k a0 a1 a2 a3) (gF (k + 1) a0 a1 a2 a3)) : ∀ a0 a1 k, LeO (laws_szRegexSG.f gF k a0 a1) (laws_szRegexSG.f gF (k + 1) a0 a1) := by
  intro a0 a1 k
  have ih0 := laws_szRegexSG.mono_l gF gM k
  unfold laws_szRegexSG.f
  repeat' first
      | (with_reducible exact ih0 _ _ _)
      | (with_reducible exact gM _ _ _ _ _)
      | (with_reducible exact LeO.refl _)
      | (with_reducible exact LeO.none _)
      | (with_reducible refine LeO.ite ?_ ?_)
      | (with_reducible refine LeO.bind ?_ (fun _ => ?_))
      | exact ih0 _ _ _
      | exact gM _ _ _ _ _
      | exact LeO.none _
      | refine LeO.ite ?_ ?_
      | refine LeO.bind ?_ (fun _ => ?_)
set_option maxHeartbeats 8000000 in
set_option maxRecDepth 100000 in
theorem laws_szRegexSG.calls (gF : Nat → Int → ByteArray → List (S90) → Int → Option (Int)) (gC : ∀ (k : Nat) (a0_0 : Int) (a0_1 : ByteArray) (A0_2 : Option Addr) (c0_2 : Nat) (l0_2 : List (S90)) (a1 : Int) (r : Int) (w : World) (hr0_2 : Kd.C k90 w A0_2 l0_2.length l0_2) (hc0_2 : l0_2.length ≤ c0_2) (h : gF k a0_0 a0_1 l0_2 a1 = some r), Calls Try.prog 129 #[.agg #[.int .i64 a0_0, .string a0_1, .slice A0_2 l0_2.length c0_2], .int .i64 a1] w fun e w' => e = .returned (.int .i64 r) ∧ Below w.heap.size w w') (k : Nat) (A0 : Option Addr) (c0 : Nat) (l0 : List (S90)) (a1 : Int) (r : Int) (w : World) (hr0 : Kd.C k90 w A0 l0.length l0) (hc0 : l0.length ≤ c0) (h : laws_szRegexSG.f gF k l0 a1 = some r) :
    Calls Try.prog 158 #[.slice A0 l0.length c0, .int .i64 a1] w fun e w' => e = .returned (.int .i64 r) ∧ Below w.heap.size w w' := by
  have hu90 := Try.underlying90
  have HR0 := Aside0.mk hr0
  have HC0 := Aside0.mk hc0
  clear hr0 hc0
  have HB := Aside0.mk (Below.refl w.heap.size w)
  have H : (if (wrap64 (a1 - (l0.length : Int))) < 0 then (some (-1)) else (laws_szRegexSG.l0 gF k l0 (wrap64 (a1 - (l0.length : Int))) 0)) = some r := h
  clear h
  by_cases c3 : (wrap64 (a1 - (l0.length : Int))) < 0
  · rw [if_pos c3] at H
    have c3b0 : decide ((wrap64 (a1 - (l0.length : Int))) < 0) = true := decide_eq_true c3
    have c3w : decide ((IntKind.i64.wrap (a1 - (l0.length : Int))) < 0) = true := by simp only [i64_w]; exact c3b0
    clear c3
    obtain rfl := Option.some.inj H
    go_enter Try.func158, Try.ntmps158
    go_wp2
    go_ret
    exact ⟨by first | rfl | (simp [errW_none, errW_some] <;> rfl) | (simp [*, errW_none, errW_some] <;> rfl), by repeat (first | (with_reducible first | exact HB.out | apply below_alloc | apply pw_below_drewN | apply below_drew1) | exact HB.out)⟩
  · rw [if_neg c3] at H
    have c3b0 : decide ((wrap64 (a1 - (l0.length : Int))) < 0) = false := decide_eq_false c3
    have c3w : decide ((IntKind.i64.wrap (a1 - (l0.length : Int))) < 0) = false := by simp only [i64_w]; exact c3b0
    clear c3
    have H' := Aside0.mk H
    clear H
    go_enter Try.func158, Try.ntmps158
    go_wp2
    first | go_loopg [1, 5] k (fun kq v1 v5 w' => ∃ (x1_1 : Int) (x5_1 : Int), v1 = .int .i64 x1_1 ∧ v5 = .int .i64 x5_1 ∧ Aside0 (laws_szRegexSG.l0 gF kq l0 x1_1 x5_1 = some r) ∧ Aside0 (kq ≤ k) ∧ Aside0 (Below w.heap.size w w')) | (simp only [Act.put, List.setIfInBounds_toArray, List.set_cons_succ, List.set_cons_zero]; go_loopg [1, 5] k (fun kq v1 v5 w' => ∃ (x1_1 : Int) (x5_1 : Int), v1 = .int .i64 x1_1 ∧ v5 = .int .i64 x5_1 ∧ Aside0 (laws_szRegexSG.l0 gF kq l0 x1_1 x5_1 = some r) ∧ Aside0 (kq ≤ k) ∧ Aside0 (Below w.heap.size w w')))
    case atStart => exact ⟨(wrap64 (a1 - (l0.length : Int))), (0), (by first | rfl | (simp; done) | (simp [*]; done)), (by first | rfl | (simp; done) | (simp [*]; done)), H', ⟨Nat.le_refl _⟩, ⟨by repeat (first | (with_reducible first | exact HB.out | apply below_alloc | apply pw_below_drewN | apply below_drew1) | exact HB.out)⟩⟩
    case round =>
      clear H'
      try clear c1
      try clear p2
      try clear c3
      try clear c3b0
      obtain ⟨x1_1, x5_1, rfl, rfl, HA, HK1, HB⟩ := hrel
      cases gk with
      | zero => exact absurd HA.out (by simp [laws_szRegexSG.l0])
      | succ k1 =>
        have H := HA.out
        clear HA
        simp only [laws_szRegexSG.l0] at H
        by_cases c4 : x5_1 < (l0.length : Int)
        · rw [if_pos c4] at H
          have c4b0 : decide (x5_1 < (l0.length : Int)) = true := decide_eq_true c4
          clear c4
          by_cases c5 : 0 ≤ x5_1
          · rw [if_pos c5] at H
            have c5b0 : decide (0 ≤ x5_1) = true := decide_eq_true c5
            clear c5
            replace H := Option.bind_eq_some_iff.mp H
            obtain ⟨t158002, A60, H⟩ := H
            replace H : (if t158002 < 0 then (some (-1)) else (laws_szRegexSG.l0 gF k1 l0 t158002 (wrap64 (x5_1 + 1)))) = some r := H
            have A6 := Aside0.mk A60
            clear A60
            by_cases c7 : t158002 < 0
            · rw [if_pos c7] at H
              have c7b0 : decide (t158002 < 0) = true := decide_eq_true c7
              clear c7
              obtain rfl := Option.some.inj H
              have p158001 : 0 ≤ (x5_1 : Int) := of_decide_eq_true (by first | (with_reducible assumption) | assumption)
              have q158001 : x5_1 < (l0.length : Int) := of_decide_eq_true (by first | (with_reducible assumption) | assumption)
              obtain ⟨ad158001, A158001_2, c158001_2, e158001, hx158001_0, hx158001_1, hx158001_2, hl158001_2, hi158001_2⟩ := at_T90 HR0.out x5_1 p158001 q158001
              cases e158001
              replace hx158001_0 := (HB.out.cell (World.block_lt_of_cell? w _ hx158001_0)).trans hx158001_0
              replace hx158001_1 := (HB.out.cell (World.block_lt_of_cell? w _ hx158001_1)).trans hx158001_1
              replace hx158001_2 := (HB.out.cell (World.block_lt_of_cell? w _ hx158001_2)).trans hx158001_2
              have HR158001_2 := Aside0.mk hi158001_2
              have HC158001_2 := Aside0.mk hl158001_2
              clear hi158001_2 hl158001_2
              replace p158001 := eq_true p158001
              replace q158001 := eq_true q158001
              go_wp2_with (first | ((with_reducible refine gate_callee (f := 129) rfl ?_); refine goesL_ (some 23) rfl rfl Try.func129 (by kernel_rfl) rfl #[.agg #[.int .i64 ((rd_T90 l0 x5_1).f0), .string ((rd_T90 l0 x5_1).f1), .slice A158001_2 ((rd_T90 l0 x5_1).f2).length c158001_2], .int .i64 x1_1] rfl (by (try simp only [List.map_toArray, List.map_cons, List.map_nil]); first | done | rfl | (simp only [List.length_drop, List.length_take]; rfl)) ?_; (with_reducible refine (gC k1 ((rd_T90 l0 x5_1).f0) ((rd_T90 l0 x5_1).f1) _ _ ((rd_T90 l0 x5_1).f2) x1_1 t158002 _ ?side1 ?side2 A6.out).mono ?_); (case side1 => repeat (first | exact (Kd.C_below HR158001_2.out HB.out) | (with_reducible refine Kd.C_alloc ?_ _) | (with_reducible refine Kd.C_drewN ?_ _) | (with_reducible refine Kd.C_drew ?_))); (case side2 => exact HC158001_2.out); rintro e w8 ⟨rfl, hb⟩; refine ⟨_, rfl, ?_⟩; have n0_ := Aside0.mk (below_step (by repeat (first | (with_reducible first | exact HB.out | apply below_alloc | apply pw_below_drewN | apply below_drew1) | exact HB.out)) hb); clear HB; have HB := n0_; clear n0_; (try clear hb); (try clear hb2); (try clear hk); (try clear hi)))
              go_ret
              exact ⟨by first | rfl | (simp [errW_none, errW_some] <;> rfl) | (simp [*, errW_none, errW_some] <;> rfl), by repeat (first | (with_reducible first | exact HB.out | apply below_alloc | apply pw_below_drewN | apply below_drew1) | exact HB.out)⟩
            · rw [if_neg c7] at H
              have c7b0 : decide (t158002 < 0) = false := decide_eq_false c7
              clear c7
              have H' := Aside0.mk H
              clear H
              have p158001 : 0 ≤ (x5_1 : Int) := of_decide_eq_true (by first | (with_reducible assumption) | assumption)
              have q158001 : x5_1 < (l0.length : Int) := of_decide_eq_true (by first | (with_reducible assumption) | assumption)
              obtain ⟨ad158001, A158001_2, c158001_2, e158001, hx158001_0, hx158001_1, hx158001_2, hl158001_2, hi158001_2⟩ := at_T90 HR0.out x5_1 p158001 q158001
              cases e158001
              replace hx158001_0 := (HB.out.cell (World.block_lt_of_cell? w _ hx158001_0)).trans hx158001_0
              replace hx158001_1 := (HB.out.cell (World.block_lt_of_cell? w _ hx158001_1)).trans hx158001_1
              replace hx158001_2 := (HB.out.cell (World.block_lt_of_cell? w _ hx158001_2)).trans hx158001_2
              have HR158001_2 := Aside0.mk hi158001_2
              have HC158001_2 := Aside0.mk hl158001_2
              clear hi158001_2 hl158001_2
              replace p158001 := eq_true p158001
              replace q158001 := eq_true q158001
              go_wp2_with (first | ((with_reducible refine gate_callee (f := 129) rfl ?_); refine goesL_ (some 23) rfl rfl Try.func129 (by kernel_rfl) rfl #[.agg #[.int .i64 ((rd_T90 l0 x5_1).f0), .string ((rd_T90 l0 x5_1).f1), .slice A158001_2 ((rd_T90 l0 x5_1).f2).length c158001_2], .int .i64 x1_1] rfl (by (try simp only [List.map_toArray, List.map_cons, List.map_nil]); first | done | rfl | (simp only [List.length_drop, List.length_take]; rfl)) ?_; (with_reducible refine (gC k1 ((rd_T90 l0 x5_1).f0) ((rd_T90 l0 x5_1).f1) _ _ ((rd_T90 l0 x5_1).f2) x1_1 t158002 _ ?side1 ?side2 A6.out).mono ?_); (case side1 => repeat (first | exact (Kd.C_below HR158001_2.out HB.out) | (with_reducible refine Kd.C_alloc ?_ _) | (with_reducible refine Kd.C_drewN ?_ _) | (with_reducible refine Kd.C_drew ?_))); (case side2 => exact HC158001_2.out); rintro e w9 ⟨rfl, hb⟩; refine ⟨_, rfl, ?_⟩; have n0_ := Aside0.mk (below_step (by repeat (first | (with_reducible first | exact HB.out | apply below_alloc | apply pw_below_drewN | apply below_drew1) | exact HB.out)) hb); clear HB; have HB := n0_; clear n0_; (try clear hb); (try clear hb2); (try clear hk); (try clear hi)))
              go_roundg k1
              case measure => have := HK1.out; omega
              case rel => exact ⟨(t158002), (wrap64 (x5_1 + 1)), (by first | rfl | (simp; done) | (simp [*]; done)), (by first | rfl | (simp; done) | (simp [*]; done)), H', ⟨by have := HK1.out; omega⟩, ⟨by repeat (first | (with_reducible first | exact HB.out | apply below_alloc | apply pw_below_drewN | apply below_drew1) | exact HB.out)⟩⟩
          · rw [if_neg c5] at H
            exact absurd H (by simp)
        · rw [if_neg c4] at H
          have c4b0 : decide (x5_1 < (l0.length : Int)) = false := decide_eq_false c4
          clear c4
          obtain rfl := Option.some.inj H
          go_wp2
          go_ret
          exact ⟨by first | rfl | (simp [errW_none, errW_some] <;> rfl) | (simp [*, errW_none, errW_some] <;> rfl), by repeat (first | (with_reducible first | exact HB.out | apply below_alloc | apply pw_below_drewN | apply below_drew1) | exact HB.out)⟩
theorem laws_szRegexSG.mono_lg (gF gF2 : Nat → Int → ByteArray → List (S90) → Int → Option (Int)) (hg : ∀ b0 b1 b2 b3 k, LeO (gF k b0 b1 b2 b3) (gF2 k b0 b1 b2 b3)) : ∀ k, (∀ y0 y1 y2, LeO (laws_szRegexSG.l0 gF k y0 y1 y2) (laws_szRegexSG.l0 gF2 k y0 y1 y2))
  | 0 => fun _ _ _ r h => by simp [laws_szRegexSG.l0] at h
  | k + 1 => by
    have ih0 := laws_szRegexSG.mono_lg gF gF2 hg k
    · intro y0 y1 y2
      unfold laws_szRegexSG.l0
      repeat' first
      | (with_reducible exact ih0 _ _ _)
      | (with_reducible exact hg _ _ _ _ _)
      | (with_reducible exact LeO.refl _)
      | (with_reducible exact LeO.none _)
      | (with_reducible refine LeO.ite ?_ ?_)
      | (with_reducible refine LeO.bind ?_ (fun _ => ?_))
      | exact ih0 _ _ _
      | exact hg _ _ _ _ _
      | exact LeO.none _
      | refine LeO.ite ?_ ?_
      | refine LeO.bind ?_ (fun _ => ?_)
theorem laws_szRegexSG.monog (gF gF2 : Nat → Int → ByteArray → List (S90) → Int → Option (Int)) (hg : ∀ b0 b1 b2 b3 k, LeO (gF k b0 b1 b2 b3) (gF2 k b0 b1 b2 b3)) : ∀ a0 a1 k, LeO (laws_szRegexSG.f gF k a0 a1) (laws_szRegexSG.f gF2 k a0 a1) := by
  intro a0 a1 k
  have ih0 := laws_szRegexSG.mono_lg gF gF2 hg k
  unfold laws_szRegexSG.f
  repeat' first
      | (with_reducible exact ih0 _ _ _)
      | (with_reducible exact hg _ _ _ _ _)
      | (with_reducible exact LeO.refl _)
      | (with_reducible exact LeO.none _)
      | (with_reducible refine LeO.ite ?_ ?_)
      | (with_reducible refine LeO.bind ?_ (fun _ => ?_))
      | exact ih0 _ _ _
      | exact hg _ _ _ _ _
      | exact LeO.none _
      | refine LeO.ite ?_ ?_
      | refine LeO.bind ?_ (fun _ => ?_)
/-! ### laws_szRegex: function 129 -/
def laws_szRegexG.f (gF : Nat → Int → ByteArray → List (S90) → Int → Option (Int)) (k : Nat) (a0_0 : Int) (a0_1 : ByteArray) (l0_2 : List (S90)) (a1 : Int) : Option (Int) := if (wrap64 (a1 - (a0_1.size : Int))) < 0 then (some (-1)) else ((laws_szRegexSG.f gF k l0_2 (wrap64 (a1 - (a0_1.size : Int)))).bind fun t129002 => (if t129002 < 0 then (some (-1)) else (some t129002)))
theorem laws_szRegexG.mono (gF : Nat → Int → ByteArray → List (S90) → Int → Option (Int)) (gM : ∀ a0 a1 a2 a3 k, LeO (gF k a0 a1 a2 a3) (gF (k + 1) a0 a1 a2 a3)) : ∀ a0 a1 a2 a3 k, LeO (laws_szRegexG.f gF k a0 a1 a2 a3) (laws_szRegexG.f gF (k + 1) a0 a1 a2 a3) := by
  intro a0 a1 a2 a3 k
  unfold laws_szRegexG.f
  repeat' first
      | (with_reducible exact laws_szRegexSG.mono gF gM _ _ _)
      | (with_reducible exact LeO.refl _)
      | (with_reducible exact LeO.none _)
      | (with_reducible refine LeO.ite ?_ ?_)
      | (with_reducible refine LeO.bind ?_ (fun _ => ?_))
      | exact laws_szRegexSG.mono gF gM _ _ _
      | exact LeO.none _
      | refine LeO.ite ?_ ?_
      | refine LeO.bind ?_ (fun _ => ?_)
set_option maxHeartbeats 8000000 in
set_option maxRecDepth 100000 in
theorem laws_szRegexG.calls (gF : Nat → Int → ByteArray → List (S90) → Int → Option (Int)) (gC : ∀ (k : Nat) (a0_0 : Int) (a0_1 : ByteArray) (A0_2 : Option Addr) (c0_2 : Nat) (l0_2 : List (S90)) (a1 : Int) (r : Int) (w : World) (hr0_2 : Kd.C k90 w A0_2 l0_2.length l0_2) (hc0_2 : l0_2.length ≤ c0_2) (h : gF k a0_0 a0_1 l0_2 a1 = some r), Calls Try.prog 129 #[.agg #[.int .i64 a0_0, .string a0_1, .slice A0_2 l0_2.length c0_2], .int .i64 a1] w fun e w' => e = .returned (.int .i64 r) ∧ Below w.heap.size w w') (k : Nat) (a0_0 : Int) (a0_1 : ByteArray) (A0_2 : Option Addr) (c0_2 : Nat) (l0_2 : List (S90)) (a1 : Int) (r : Int) (w : World) (hr0_2 : Kd.C k90 w A0_2 l0_2.length l0_2) (hc0_2 : l0_2.length ≤ c0_2) (h : laws_szRegexG.f gF k a0_0 a0_1 l0_2 a1 = some r) :
    Calls Try.prog 129 #[.agg #[.int .i64 a0_0, .string a0_1, .slice A0_2 l0_2.length c0_2], .int .i64 a1] w fun e w' => e = .returned (.int .i64 r) ∧ Below w.heap.size w w' := by
  have hu90 := Try.underlying90
  have HR0_2 := Aside0.mk hr0_2
  have HC0_2 := Aside0.mk hc0_2
  clear hr0_2 hc0_2
  have HB := Aside0.mk (Below.refl w.heap.size w)
  have H : (if (wrap64 (a1 - (a0_1.size : Int))) < 0 then (some (-1)) else ((laws_szRegexSG.f gF k l0_2 (wrap64 (a1 - (a0_1.size : Int)))).bind fun t129002 => (if t129002 < 0 then (some (-1)) else (some t129002)))) = some r := h
  clear h
  by_cases c3 : (wrap64 (a1 - (a0_1.size : Int))) < 0
  · rw [if_pos c3] at H
    have c3b0 : decide ((wrap64 (a1 - (a0_1.size : Int))) < 0) = true := decide_eq_true c3
    have c3w : decide ((IntKind.i64.wrap (a1 - (a0_1.size : Int))) < 0) = true := by simp only [i64_w]; exact c3b0
    clear c3
    obtain rfl := Option.some.inj H
    go_enter Try.func129, Try.ntmps129
    go_wp2_with (first | ((with_reducible refine gate_dst (N := 2) rfl ?_); refine box_event ?hg (N := 2) ?hd (cs := #[.int .i64 a0_0, .string a0_1, .slice A0_2 l0_2.length c0_2]) (t := 90) ?hr ?_; (case hd => rfl); (case hg => rfl); (case hr => first | (go_simp; done) | (go_simp; rfl)); intro gb129001 hg w4 hbox hb; have n0_ := Aside0.mk (below_step (by repeat (first | (with_reducible first | exact HB.out | apply below_alloc | apply pw_below_drewN | apply below_drew1) | exact HB.out)) hb); have n1_ := Aside0.mk (hbox); have n2_ := Aside0.mk ((by rw [hg]; exact (below_size (by repeat (first | (with_reducible first | exact HB.out | apply below_alloc | apply pw_below_drewN | apply below_drew1) | exact HB.out))) : w.heap.size ≤ gb129001)); have n3_ := Aside0.mk ((by rw [hg]; exact (below_size (by repeat (first | (with_reducible first | exact HB.out | apply below_alloc | apply pw_below_drewN | apply below_drew1) | exact HB.out))) : w.heap.size ≤ gb129001)); clear HB; have HB := n0_; have BK129001 := n1_; have GW129001 := n2_; have GE129001 := n3_; clear n0_ n1_ n2_ n3_; clear hb hbox hg; have hcz5_0 : w4.cell? ⟨gb129001, 0, none⟩ = some (.int .i64 a0_0) := (blk_cell BK129001.out 0).trans rfl; have hcz5_1 : w4.cell? ⟨gb129001, 1, none⟩ = some (.string a0_1) := (blk_cell BK129001.out 1).trans rfl; have hcz5_2 : w4.cell? ⟨gb129001, 2, none⟩ = some (.slice A0_2 l0_2.length c0_2) := (blk_cell BK129001.out 2).trans rfl; have hfz5_0 := blk_frozen BK129001.out 0; have hfz5_1 := blk_frozen BK129001.out 1; have hfz5_2 := blk_frozen BK129001.out 2))
    go_ret
    exact ⟨by first | rfl | (simp [errW_none, errW_some] <;> rfl) | (simp [*, errW_none, errW_some] <;> rfl), by repeat (first | (with_reducible first | exact HB.out | apply below_alloc | apply pw_below_drewN | apply below_drew1 | refine below_set ?_ GE129001.out) | exact HB.out)⟩
  · rw [if_neg c3] at H
    have c3b0 : decide ((wrap64 (a1 - (a0_1.size : Int))) < 0) = false := decide_eq_false c3
    have c3w : decide ((IntKind.i64.wrap (a1 - (a0_1.size : Int))) < 0) = false := by simp only [i64_w]; exact c3b0
    clear c3
    replace H := Option.bind_eq_some_iff.mp H
    obtain ⟨t129002, A60, H⟩ := H
    replace H : (if t129002 < 0 then (some (-1)) else (some t129002)) = some r := H
    have A6 := Aside0.mk A60
    clear A60
    by_cases c7 : t129002 < 0
    · rw [if_pos c7] at H
      have c7b0 : decide (t129002 < 0) = true := decide_eq_true c7
      clear c7
      obtain rfl := Option.some.inj H
      go_enter Try.func129, Try.ntmps129
      go_wp2_with (first | ((with_reducible refine gate_dst (N := 2) rfl ?_); refine box_event ?hg (N := 2) ?hd (cs := #[.int .i64 a0_0, .string a0_1, .slice A0_2 l0_2.length c0_2]) (t := 90) ?hr ?_; (case hd => rfl); (case hg => rfl); (case hr => first | (go_simp; done) | (go_simp; rfl)); intro gb129001 hg w8 hbox hb; have n0_ := Aside0.mk (below_step (by repeat (first | (with_reducible first | exact HB.out | apply below_alloc | apply pw_below_drewN | apply below_drew1) | exact HB.out)) hb); have n1_ := Aside0.mk (hbox); have n2_ := Aside0.mk ((by rw [hg]; exact (below_size (by repeat (first | (with_reducible first | exact HB.out | apply below_alloc | apply pw_below_drewN | apply below_drew1) | exact HB.out))) : w.heap.size ≤ gb129001)); have n3_ := Aside0.mk ((by rw [hg]; exact (below_size (by repeat (first | (with_reducible first | exact HB.out | apply below_alloc | apply pw_below_drewN | apply below_drew1) | exact HB.out))) : w.heap.size ≤ gb129001)); clear HB; have HB := n0_; have BK129001 := n1_; have GW129001 := n2_; have GE129001 := n3_; clear n0_ n1_ n2_ n3_; clear hb hbox hg; have hcz9_0 : w8.cell? ⟨gb129001, 0, none⟩ = some (.int .i64 a0_0) := (blk_cell BK129001.out 0).trans rfl; have hcz9_1 : w8.cell? ⟨gb129001, 1, none⟩ = some (.string a0_1) := (blk_cell BK129001.out 1).trans rfl; have hcz9_2 : w8.cell? ⟨gb129001, 2, none⟩ = some (.slice A0_2 l0_2.length c0_2) := (blk_cell BK129001.out 2).trans rfl; have hfz9_0 := blk_frozen BK129001.out 0; have hfz9_1 := blk_frozen BK129001.out 1; have hfz9_2 := blk_frozen BK129001.out 2) | ((with_reducible refine gate_callee (f := 158) rfl ?_); refine goesL_ (some 15) rfl rfl Try.func158 (by kernel_rfl) rfl #[.slice A0_2 l0_2.length c0_2, .int .i64 (wrap64 (a1 - (a0_1.size : Int)))] rfl (by (try simp only [List.map_toArray, List.map_cons, List.map_nil]); first | done | rfl | (simp only [List.length_drop, List.length_take]; rfl)) ?_; (with_reducible refine (laws_szRegexSG.calls gF gC k _ _ l0_2 (wrap64 (a1 - (a0_1.size : Int))) t129002 _ ?side1 ?side2 A6.out).mono ?_); (case side1 => repeat (first | exact (Kd.C_below HR0_2.out HB.out) | (with_reducible refine Kd.C_alloc ?_ _) | (with_reducible refine Kd.C_drewN ?_ _) | (with_reducible refine Kd.C_drew ?_))); (case side2 => exact HC0_2.out); rintro e w10 ⟨rfl, hb⟩; refine ⟨_, rfl, ?_⟩; have n0_ := Aside0.mk (blk_below (g := gb129001) (o := .cells #[.int .i64 a0_0, .string a0_1, .slice A0_2 l0_2.length c0_2] 90 (0, 0)) (by (with_reducible repeat (first | refine blk_drewN ?_ _ | refine blk_drew ?_ | refine blk_alloc ?_ _)); exact BK129001.out) hb); have n1_ := Aside0.mk (below_step (by repeat (first | (with_reducible first | exact HB.out | apply below_alloc | apply pw_below_drewN | apply below_drew1 | refine below_set ?_ GE129001.out) | exact HB.out)) hb); clear BK129001; clear HB; have BK129001 := n0_; have HB := n1_; clear n0_ n1_; (try clear hb); (try clear hb2); (try clear hk); (try clear hi)))
      go_ret
      exact ⟨by first | rfl | (simp [errW_none, errW_some] <;> rfl) | (simp [*, errW_none, errW_some] <;> rfl), by repeat (first | (with_reducible first | exact HB.out | apply below_alloc | apply pw_below_drewN | apply below_drew1 | refine below_set ?_ GE129001.out) | exact HB.out)⟩
    · rw [if_neg c7] at H
      have c7b0 : decide (t129002 < 0) = false := decide_eq_false c7
      clear c7
      obtain rfl := Option.some.inj H
      go_enter Try.func129, Try.ntmps129
      go_wp2_with (first | ((with_reducible refine gate_dst (N := 2) rfl ?_); refine box_event ?hg (N := 2) ?hd (cs := #[.int .i64 a0_0, .string a0_1, .slice A0_2 l0_2.length c0_2]) (t := 90) ?hr ?_; (case hd => rfl); (case hg => rfl); (case hr => first | (go_simp; done) | (go_simp; rfl)); intro gb129001 hg w11 hbox hb; have n0_ := Aside0.mk (below_step (by repeat (first | (with_reducible first | exact HB.out | apply below_alloc | apply pw_below_drewN | apply below_drew1) | exact HB.out)) hb); have n1_ := Aside0.mk (hbox); have n2_ := Aside0.mk ((by rw [hg]; exact (below_size (by repeat (first | (with_reducible first | exact HB.out | apply below_alloc | apply pw_below_drewN | apply below_drew1) | exact HB.out))) : w.heap.size ≤ gb129001)); have n3_ := Aside0.mk ((by rw [hg]; exact (below_size (by repeat (first | (with_reducible first | exact HB.out | apply below_alloc | apply pw_below_drewN | apply below_drew1) | exact HB.out))) : w.heap.size ≤ gb129001)); clear HB; have HB := n0_; have BK129001 := n1_; have GW129001 := n2_; have GE129001 := n3_; clear n0_ n1_ n2_ n3_; clear hb hbox hg; have hcz12_0 : w11.cell? ⟨gb129001, 0, none⟩ = some (.int .i64 a0_0) := (blk_cell BK129001.out 0).trans rfl; have hcz12_1 : w11.cell? ⟨gb129001, 1, none⟩ = some (.string a0_1) := (blk_cell BK129001.out 1).trans rfl; have hcz12_2 : w11.cell? ⟨gb129001, 2, none⟩ = some (.slice A0_2 l0_2.length c0_2) := (blk_cell BK129001.out 2).trans rfl; have hfz12_0 := blk_frozen BK129001.out 0; have hfz12_1 := blk_frozen BK129001.out 1; have hfz12_2 := blk_frozen BK129001.out 2) | ((with_reducible refine gate_callee (f := 158) rfl ?_); refine goesL_ (some 15) rfl rfl Try.func158 (by kernel_rfl) rfl #[.slice A0_2 l0_2.length c0_2, .int .i64 (wrap64 (a1 - (a0_1.size : Int)))] rfl (by (try simp only [List.map_toArray, List.map_cons, List.map_nil]); first | done | rfl | (simp only [List.length_drop, List.length_take]; rfl)) ?_; (with_reducible refine (laws_szRegexSG.calls gF gC k _ _ l0_2 (wrap64 (a1 - (a0_1.size : Int))) t129002 _ ?side1 ?side2 A6.out).mono ?_); (case side1 => repeat (first | exact (Kd.C_below HR0_2.out HB.out) | (with_reducible refine Kd.C_alloc ?_ _) | (with_reducible refine Kd.C_drewN ?_ _) | (with_reducible refine Kd.C_drew ?_))); (case side2 => exact HC0_2.out); rintro e w13 ⟨rfl, hb⟩; refine ⟨_, rfl, ?_⟩; have n0_ := Aside0.mk (blk_below (g := gb129001) (o := .cells #[.int .i64 a0_0, .string a0_1, .slice A0_2 l0_2.length c0_2] 90 (0, 0)) (by (with_reducible repeat (first | refine blk_drewN ?_ _ | refine blk_drew ?_ | refine blk_alloc ?_ _)); exact BK129001.out) hb); have n1_ := Aside0.mk (below_step (by repeat (first | (with_reducible first | exact HB.out | apply below_alloc | apply pw_below_drewN | apply below_drew1 | refine below_set ?_ GE129001.out) | exact HB.out)) hb); clear BK129001; clear HB; have BK129001 := n0_; have HB := n1_; clear n0_ n1_; (try clear hb); (try clear hb2); (try clear hk); (try clear hi)))
      go_ret
      exact ⟨by first | rfl | (simp [errW_none, errW_some] <;> rfl) | (simp [*, errW_none, errW_some] <;> rfl), by repeat (first | (with_reducible first | exact HB.out | apply below_alloc | apply pw_below_drewN | apply below_drew1 | refine below_set ?_ GE129001.out) | exact HB.out)⟩
theorem laws_szRegexG.monog (gF gF2 : Nat → Int → ByteArray → List (S90) → Int → Option (Int)) (hg : ∀ b0 b1 b2 b3 k, LeO (gF k b0 b1 b2 b3) (gF2 k b0 b1 b2 b3)) : ∀ a0 a1 a2 a3 k, LeO (laws_szRegexG.f gF k a0 a1 a2 a3) (laws_szRegexG.f gF2 k a0 a1 a2 a3) := by
  intro a0 a1 a2 a3 k
  unfold laws_szRegexG.f
  repeat' first
      | (with_reducible exact laws_szRegexSG.monog gF gF2 hg _ _ _)
      | (with_reducible exact LeO.refl _)
      | (with_reducible exact LeO.none _)
      | (with_reducible refine LeO.ite ?_ ?_)
      | (with_reducible refine LeO.bind ?_ (fun _ => ?_))
      | exact laws_szRegexSG.monog gF gF2 hg _ _ _
      | exact LeO.none _
      | refine LeO.ite ?_ ?_
      | refine LeO.bind ?_ (fun _ => ?_)

def laws_szRegex.f : Nat → Int → ByteArray → List (S90) → Int → Option (Int)
  | 0, _, _, _, _ => none
  | K + 1, a0_, a1_, a2_, a3_ => laws_szRegexG.f (fun _ => laws_szRegex.f K) K a0_ a1_ a2_ a3_
theorem laws_szRegex.mono : ∀ a0 a1 a2 a3 k, LeO (laws_szRegex.f k a0 a1 a2 a3) (laws_szRegex.f (k + 1) a0 a1 a2 a3) := by
  intro a0_ a1_ a2_ a3_ k
  induction k generalizing a0_ a1_ a2_ a3_ with
  | zero => exact LeO.none _
  | succ K ih =>
    intro r h
    have h1 := laws_szRegexG.monog (fun _ => laws_szRegex.f K) (fun _ => laws_szRegex.f (K + 1)) (fun a0_ a1_ a2_ a3_ k => ih a0_ a1_ a2_ a3_) a0_ a1_ a2_ a3_ K r h
    exact laws_szRegexG.mono (fun _ => laws_szRegex.f (K + 1)) (fun a0_ a1_ a2_ a3_ k => LeO.refl _) a0_ a1_ a2_ a3_ K r h1
theorem laws_szRegex.calls (k : Nat) (a0_0 : Int) (a0_1 : ByteArray) (A0_2 : Option Addr) (c0_2 : Nat) (l0_2 : List (S90)) (a1 : Int) (r : Int) (w : World) (hr0_2 : Kd.C k90 w A0_2 l0_2.length l0_2) (hc0_2 : l0_2.length ≤ c0_2) (h : laws_szRegex.f k a0_0 a0_1 l0_2 a1 = some r) :
    Calls Try.prog 129 #[.agg #[.int .i64 a0_0, .string a0_1, .slice A0_2 l0_2.length c0_2], .int .i64 a1] w fun e w' => e = .returned (.int .i64 r) ∧ Below w.heap.size w w' := by
  induction k generalizing a0_0 a0_1 A0_2 c0_2 l0_2 a1 r w hr0_2 hc0_2 with
  | zero => exact absurd h (by simp [laws_szRegex.f])
  | succ K ih => exact laws_szRegexG.calls (fun _ => laws_szRegex.f K) (fun k a0_0 a0_1 A0_2 c0_2 l0_2 a1 r w hr0_2 hc0_2 h => ih a0_0 a0_1 A0_2 c0_2 l0_2 a1 r w hr0_2 hc0_2 h) K a0_0 a0_1 A0_2 c0_2 l0_2 a1 r w hr0_2 hc0_2 h
def laws_szRegexS.f (k : Nat) (l0 : List (S90)) (a1 : Int) : Option (Int) := laws_szRegexSG.f laws_szRegex.f k l0 a1
theorem laws_szRegexS.mono : ∀ a0 a1 k, LeO (laws_szRegexS.f k a0 a1) (laws_szRegexS.f (k + 1) a0 a1) := laws_szRegexSG.mono laws_szRegex.f laws_szRegex.mono
theorem laws_szRegexS.calls (k : Nat) (A0 : Option Addr) (c0 : Nat) (l0 : List (S90)) (a1 : Int) (r : Int) (w : World) (hr0 : Kd.C k90 w A0 l0.length l0) (hc0 : l0.length ≤ c0) (h : laws_szRegexS.f k l0 a1 = some r) :
    Calls Try.prog 158 #[.slice A0 l0.length c0, .int .i64 a1] w fun e w' => e = .returned (.int .i64 r) ∧ Below w.heap.size w w' := laws_szRegexSG.calls laws_szRegex.f laws_szRegex.calls k A0 c0 l0 a1 r w hr0 hc0 h

/-! ### laws_toRegexS: function 159 -/
def laws_toRegexSG.l0 (gF : Nat → Int → ByteArray → List (S90) → Option (Int × ByteArray × (List (S97)))) : Nat → List (S90) → List (S97) → Int → Option ((List (S97)))
  | 0, _, _, _ => none
  | k + 1, x0, x3, x4 => if x4 < (x0.length : Int) then (if 0 ≤ x4 then ((gF k ((rd_T90 x0 x4).f0) ((rd_T90 x0 x4).f1) ((rd_T90 x0 x4).f2)).bind fun bt159005 => (if x4 < (x3.length : Int) then (laws_toRegexSG.l0 gF k x0 (x3.set (x4 : Int).toNat (⟨bt159005.1, bt159005.2.1, bt159005.2.2⟩ : S97)) (wrap64 (x4 + 1))) else (none))) else (none)) else (some x3)
def laws_toRegexSG.f (gF : Nat → Int → ByteArray → List (S90) → Option (Int × ByteArray × (List (S97)))) (k : Nat) (l0 : List (S90)) : Option ((List (S97))) := if 0 ≤ (l0.length : Int) then (if ((l0.length : Int) : Int).toNat ≤ 5864062014805 then (laws_toRegexSG.l0 gF k l0 (List.replicate ((l0.length : Int) : Int).toNat z97) 0) else (none)) else (none)
theorem laws_toRegexSG.mono_l (gF : Nat → Int → ByteArray → List (S90) → Option (Int × ByteArray × (List (S97)))) (gM : ∀ a0 a1 a2 k, LeO (gF k a0 a1 a2) (gF (k + 1) a0 a1 a2)) : ∀ k, (∀ y0 y1 y2, LeO (laws_toRegexSG.l0 gF k y0 y1 y2) (laws_toRegexSG.l0 gF (k + 1) y0 y1 y2))
  | 0 => fun _ _ _ r h => by simp [laws_toRegexSG.l0] at h
  | k + 1 => by
    have ih0 := laws_toRegexSG.mono_l gF gM k
    · intro y0 y1 y2
      unfold laws_toRegexSG.l0
      repeat' first
      | (with_reducible exact ih0 _ _ _)
      | (with_reducible exact gM _ _ _ _)
      | (with_reducible exact LeO.refl _)
      | (with_reducible exact LeO.none _)
      | (with_reducible refine LeO.ite ?_ ?_)
      | (with_reducible refine LeO.bind ?_ (fun _ => ?_))
      | exact ih0 _ _ _
      | exact gM _ _ _ _
      | exact LeO.none _
      | refine LeO.ite ?_ ?_
      | refine LeO.bind ?_ (fun _ => ?_)
theorem laws_toRegexSG.mono (gF : Nat → Int → ByteArray → List (S90) → Option (Int × ByteArray × (List (S97)))) (gM : ∀ a0 a1 a2 k, LeO (gF k a0 a1 a2) (gF (k + 1) a0 a1 a2)) : ∀ a0 k, LeO (laws_toRegexSG.f gF k a0) (laws_toRegexSG.f gF (k + 1) a0) := by
  intro a0 k
  have ih0 := laws_toRegexSG.mono_l gF gM k
  unfold laws_toRegexSG.f
  repeat' first
      | (with_reducible exact ih0 _ _ _)
      | (with_reducible exact gM _ _ _ _)
      | (with_reducible exact LeO.refl _)
      | (with_reducible exact LeO.none _)
      | (with_reducible refine LeO.ite ?_ ?_)
      | (with_reducible refine LeO.bind ?_ (fun _ => ?_))
      | exact ih0 _ _ _
      | exact gM _ _ _ _
      | exact LeO.none _
      | refine LeO.ite ?_ ?_
      | refine LeO.bind ?_ (fun _ => ?_)
set_option maxHeartbeats 8000000 in
set_option maxRecDepth 100000 in
theorem laws_toRegexSG.calls (gF : Nat → Int → ByteArray → List (S90) → Option (Int × ByteArray × (List (S97)))) (gC : ∀ (k : Nat) (a0_0 : Int) (a0_1 : ByteArray) (A0_2 : Option Addr) (c0_2 : Nat) (l0_2 : List (S90)) (r1 : Int) (r2 : ByteArray) (r3 : List (S97)) (w : World) (hr0_2 : Kd.C k90 w A0_2 l0_2.length l0_2) (hc0_2 : l0_2.length ≤ c0_2) (h : gF k a0_0 a0_1 l0_2 = some (r1, r2, r3)), Calls Try.prog 131 #[.agg #[.int .i64 a0_0, .string a0_1, .slice A0_2 l0_2.length c0_2]] w fun e w' => ∃ v2_ : Value, e = .returned (.agg #[.int .i64 r1, .string r2, v2_]) ∧ Kd.R k97 97 w' w.heap.size (fun _ => True) v2_ r3 ∧ Below w.heap.size w w') (k : Nat) (A0 : Option Addr) (c0 : Nat) (l0 : List (S90)) (r : List (S97)) (w : World) (hr0 : Kd.C k90 w A0 l0.length l0) (hc0 : l0.length ≤ c0) (h : laws_toRegexSG.f gF k l0 = some r) :
    Calls Try.prog 159 #[.slice A0 l0.length c0] w fun e w' => ∃ v0_ : Value, e = .returned (v0_) ∧ Kd.R k97 97 w' w.heap.size (fun _ => True) v0_ r ∧ Below w.heap.size w w' := by
  have hu90 := Try.underlying90
  have hu97 := Try.underlying97
  have HR0 := Aside0.mk hr0
  have HC0 := Aside0.mk hc0
  clear hr0 hc0
  have HB := Aside0.mk (Below.refl w.heap.size w)
  have H : (if 0 ≤ (l0.length : Int) then (if ((l0.length : Int) : Int).toNat ≤ 5864062014805 then (laws_toRegexSG.l0 gF k l0 (List.replicate ((l0.length : Int) : Int).toNat z97) 0) else (none)) else (none)) = some r := h
  clear h
  by_cases c2 : 0 ≤ (l0.length : Int)
  · rw [if_pos c2] at H
    have c2b0 := eq_true c2
    have c2b1 : decide (0 ≤ (l0.length : Int)) = true := decide_eq_true c2
    clear c2
    by_cases c3 : ((l0.length : Int) : Int).toNat ≤ 5864062014805
    · rw [if_pos c3] at H
      have c3b0 := eq_true c3
      have c3b1 : decide (((l0.length : Int) : Int).toNat ≤ 5864062014805) = true := decide_eq_true c3
      clear c3
      obtain ⟨y159001, hy159001⟩ : ∃ y_ : List (S97), y_ = (List.replicate ((l0.length : Int) : Int).toNat z97) := ⟨_, rfl⟩
      replace H : (laws_toRegexSG.l0 gF k l0 y159001 0) = some r := by first | (rw [hy159001]; with_reducible exact H) | (have H2_ := (Option.bind_some _ _).symm.trans H; rw [hy159001]; with_reducible exact H2_) | (have H2_ := (Option.bind_some _ _).symm.trans H; with_reducible exact H2_) | with_reducible exact H | (rw [hy159001]; exact H) | exact H
      have Ny159001 := Aside0.mk hy159001
      clear hy159001
      have H' := Aside0.mk H
      clear H
      go_enter Try.func159, Try.ntmps159
      go_wp2_with (first | ((with_reducible refine gate_dst (N := 7) rfl ?_); refine Kd.R_make k97 _ 97 rfl (N := 7) rfl 95 _ _ rfl (l0.length : Int) rfl rfl Try.underlying95 (.agg #[(.int .i64 0), (.string ⟨#[]⟩), (.slice none 0 0)]) 48 info97 rfl (by decide) (by omega) z97 (ok := fun _ => True) (okp := fun _ => True) (k97_mkM _ _ _ z97 (Kd.R_nil _ _ _ _ _)) (fun _ hk => hk) trivial (of_decide_eq_true (by first | (with_reducible assumption) | assumption)) (Nat.le_trans (Nat.mul_le_mul_right _ (of_decide_eq_true (by first | (with_reducible assumption) | assumption) : (l0.length : Int).toNat ≤ 5864062014805)) (by omega)) (Below.refl _ _) (Nat.le_refl _) ?_; intro v159002 w4 ho5 hb hg_ hnew_; clear hg_ hnew_; (first | rw [← Ny159001.out] at ho5 | (simp only [Int.reduceToNat] at ho5; rw [← Ny159001.out] at ho5)); have n0_ := Aside0.mk (Kd.R_lower ho5 (below_size (by repeat (first | (with_reducible first | exact HB.out | apply below_alloc | apply pw_below_drewN | apply below_drew1) | exact HB.out)))); have n1_ := Aside0.mk (below_step (by repeat (first | (with_reducible first | exact HB.out | apply below_alloc | apply pw_below_drewN | apply below_drew1) | exact HB.out)) hb); clear HB; have HO159003 := n0_; have HB := n1_; clear n0_ n1_; clear hb ho5))
      first | go_loopg [4] k (fun kq v4 w' => ∃ (x3_1 : List (S97)) (x4_1 : Int), v4 = .int .i64 x4_1 ∧ Aside0 (laws_toRegexSG.l0 gF kq l0 x3_1 x4_1 = some r) ∧ Aside0 (kq ≤ k) ∧ Aside0 (Kd.R k97 97 w' w.heap.size (fun _ => True) v159002 x3_1) ∧ Aside0 (Below w.heap.size w w')) | (simp only [Act.put, List.setIfInBounds_toArray, List.set_cons_succ, List.set_cons_zero]; go_loopg [4] k (fun kq v4 w' => ∃ (x3_1 : List (S97)) (x4_1 : Int), v4 = .int .i64 x4_1 ∧ Aside0 (laws_toRegexSG.l0 gF kq l0 x3_1 x4_1 = some r) ∧ Aside0 (kq ≤ k) ∧ Aside0 (Kd.R k97 97 w' w.heap.size (fun _ => True) v159002 x3_1) ∧ Aside0 (Below w.heap.size w w')))
      case atStart => exact ⟨(y159001), (0), (by first | rfl | (simp; done) | (simp [*]; done)), H', ⟨Nat.le_refl _⟩, ⟨by (with_reducible repeat (first | apply Kd.R_alloc | apply Kd.R_drewN | apply Kd.R_drew)); exact HO159003.out⟩, ⟨by repeat (first | (with_reducible first | exact HB.out | apply below_alloc | apply pw_below_drewN | apply below_drew1) | exact HB.out)⟩⟩
      case round =>
        clear H'
        try clear c1
        try clear c2
        try clear c2b0
        try clear c2b1
        try clear p2
        try clear c3
        try clear c3b0
        try clear c3b1
        obtain ⟨x3_1, x4_1, rfl, HA, HK1, HO_3, HB⟩ := hrel
        cases gk with
        | zero => exact absurd HA.out (by simp [laws_toRegexSG.l0])
        | succ k1 =>
          have H := HA.out
          clear HA
          simp only [laws_toRegexSG.l0] at H
          by_cases c6 : x4_1 < (l0.length : Int)
          · rw [if_pos c6] at H
            have c6b0 : decide (x4_1 < (l0.length : Int)) = true := decide_eq_true c6
            clear c6
            by_cases c7 : 0 ≤ x4_1
            · rw [if_pos c7] at H
              have c7b0 : decide (0 ≤ x4_1) = true := decide_eq_true c7
              clear c7
              replace H := Option.bind_eq_some_iff.mp H
              obtain ⟨⟨t159005, t159006, t159007⟩, A80, H⟩ := H
              replace H : (if x4_1 < (x3_1.length : Int) then (laws_toRegexSG.l0 gF k1 l0 (x3_1.set (x4_1 : Int).toNat (⟨t159005, t159006, t159007⟩ : S97)) (wrap64 (x4_1 + 1))) else (none)) = some r := H
              have A8 := Aside0.mk A80
              clear A80
              by_cases c9 : x4_1 < (x3_1.length : Int)
              · rw [if_pos c9] at H
                have c9b0 : decide (x4_1 < (x3_1.length : Int)) = true := decide_eq_true c9
                clear c9
                obtain ⟨y159010, hy159010⟩ : ∃ y_ : List (S97), y_ = (x3_1.set (x4_1 : Int).toNat (⟨t159005, t159006, t159007⟩ : S97)) := ⟨_, rfl⟩
                replace H : (laws_toRegexSG.l0 gF k1 l0 y159010 (wrap64 (x4_1 + 1))) = some r := by first | (rw [hy159010]; with_reducible exact H) | (have H2_ := (Option.bind_some _ _).symm.trans H; rw [hy159010]; with_reducible exact H2_) | (have H2_ := (Option.bind_some _ _).symm.trans H; with_reducible exact H2_) | with_reducible exact H | (rw [hy159010]; exact H) | exact H
                have Ny159010 := Aside0.mk hy159010
                clear hy159010
                have H' := Aside0.mk H
                clear H
                have p159004 : 0 ≤ (x4_1 : Int) := of_decide_eq_true (by first | (with_reducible assumption) | assumption)
                have q159004 : x4_1 < (l0.length : Int) := of_decide_eq_true (by first | (with_reducible assumption) | assumption)
                obtain ⟨ad159004, A159004_2, c159004_2, e159004, hx159004_0, hx159004_1, hx159004_2, hl159004_2, hi159004_2⟩ := at_T90 HR0.out x4_1 p159004 q159004
                cases e159004
                replace hx159004_0 := (HB.out.cell (World.block_lt_of_cell? w _ hx159004_0)).trans hx159004_0
                replace hx159004_1 := (HB.out.cell (World.block_lt_of_cell? w _ hx159004_1)).trans hx159004_1
                replace hx159004_2 := (HB.out.cell (World.block_lt_of_cell? w _ hx159004_2)).trans hx159004_2
                have HR159004_2 := Aside0.mk hi159004_2
                have HC159004_2 := Aside0.mk hl159004_2
                clear hi159004_2 hl159004_2
                replace p159004 := eq_true p159004
                replace q159004 := eq_true q159004
                go_wp2_with (first | ((with_reducible refine gate_callee (f := 131) rfl ?_); refine goesL_ (some 20) rfl rfl Try.func131 (by kernel_rfl) rfl #[.agg #[.int .i64 ((rd_T90 l0 x4_1).f0), .string ((rd_T90 l0 x4_1).f1), .slice A159004_2 ((rd_T90 l0 x4_1).f2).length c159004_2]] rfl (by (try simp only [List.map_toArray, List.map_cons, List.map_nil]); first | done | rfl | (simp only [List.length_drop, List.length_take]; rfl)) ?_; (with_reducible refine (gC k1 ((rd_T90 l0 x4_1).f0) ((rd_T90 l0 x4_1).f1) _ _ ((rd_T90 l0 x4_1).f2) t159005 t159006 t159007 _ ?side1 ?side2 A8.out).mono ?_); (case side1 => repeat (first | exact (Kd.C_below HR159004_2.out HB.out) | (with_reducible refine Kd.C_alloc ?_ _) | (with_reducible refine Kd.C_drewN ?_ _) | (with_reducible refine Kd.C_drew ?_))); (case side2 => exact HC159004_2.out); rintro e w11 ⟨v159008, rfl, ho0, hb⟩; refine ⟨_, rfl, ?_⟩; have n0_ := Aside0.mk (Kd.R_elder' (by (with_reducible repeat (first | apply Kd.R_alloc | apply Kd.R_drewN | apply Kd.R_drew)); exact HO_3.out) (Kd.R_base ho0) hb); have n1_ := Aside0.mk (Kd.R_lower (Kd.R_new' ho0 (Kd.R_lt (by (with_reducible repeat (first | apply Kd.R_alloc | apply Kd.R_drewN | apply Kd.R_drew)); exact HO_3.out))) (below_size (by repeat (first | (with_reducible first | exact HB.out | apply below_alloc | apply pw_below_drewN | apply below_drew1) | exact HB.out)))); have n2_ := Aside0.mk (below_step (by repeat (first | (with_reducible first | exact HB.out | apply below_alloc | apply pw_below_drewN | apply below_drew1) | exact HB.out)) hb); clear HO_3; clear HB; have HO_3 := n0_; have HO159009 := n1_; have HB := n2_; clear n0_ n1_ n2_; (try clear hb); (try clear hb2); (try clear hk); (try clear hi); (try clear ho0); have p10 : 0 ≤ (x4_1 : Int) := of_decide_eq_true (by first | (with_reducible assumption) | assumption); have q10 : (x4_1 : Int) < ((x3_1.length : Int) : Int) := of_decide_eq_true (by first | (with_reducible assumption) | assumption); obtain ⟨go10, co10, eo10, gb10, gl10, cl10, HG10⟩ := Kd.R_form HO_3.out (by omega); (first | cases eo10 | (injection eo10 with ea_ en_ ec_; (first | subst ea_ | (injection ea_ with ea_; subst ea_)); subst ec_; clear en_)); have GB10 := Aside0.mk gb10; have GG10 := Aside0.mk HG10; clear gb10 gl10 HG10; obtain ⟨ce10, hcl10, hM10, hcc10, hfr10⟩ := Kd.R_elem HO_3.out z97 (x4_1 : Int) p10 q10; obtain ⟨ve10_2, rfl, ge10_2⟩ := k97_openM hM10; have hx10_0 : w11.cell? ⟨go10, (x4_1 : Int).toNat * 3, none⟩ = some (.int .i64 ((rd_T97 x3_1 x4_1).f0)) := hcc10 0 _ rfl; have hx10_1 : w11.cell? ⟨go10, (x4_1 : Int).toNat * 3 + 1, none⟩ = some (.string ((rd_T97 x3_1 x4_1).f1)) := hcc10 1 _ rfl; have hx10_2 : w11.cell? ⟨go10, (x4_1 : Int).toNat * 3 + 2, none⟩ = some (ve10_2) := hcc10 2 _ rfl; have hf10_0 : w11.frozen? ⟨go10, (x4_1 : Int).toNat * 3, none⟩ = false := hfr10 0; have hf10_1 : w11.frozen? ⟨go10, (x4_1 : Int).toNat * 3 + 1, none⟩ = false := hfr10 1; have hf10_2 : w11.frozen? ⟨go10, (x4_1 : Int).toNat * 3 + 2, none⟩ = false := hfr10 2; clear hcl10 hcc10 hfr10; (try clear hM10); replace p10 := eq_true p10; replace q10 := eq_true q10; have n_ := Aside0.mk (Kd.R_mono (ok' := (fun k_ => some k_ ≠ (v159008 : Value).ownBlock)) HO_3.out (fun k_ hk => hk.2)); clear HO_3; have HO_3 := n_; clear n_; have HX12 := Aside0.mk (show Kd.R k97 97 w11 w.heap.size (fun _ => True) (.slice (some ⟨go10, 0, none⟩) x3_1.length co10) x3_1 from (by (with_reducible repeat (first | apply Kd.R_alloc | apply Kd.R_drewN | apply Kd.R_drew)); exact Kd.R_mono HO_3.out (fun _ hk => trivial))); obtain ⟨ce12, hcl12, hM12, hcc12, hfr12⟩ := Kd.R_elem HX12.out z97 (x4_1 : Int) (of_decide_eq_true (by first | (with_reducible assumption) | assumption)) (by have h_ : (x4_1 : Int) < ((x3_1.length : Int) : Int) := of_decide_eq_true (by first | (with_reducible assumption) | assumption); first | exact h_ | (have e_ := (Kd.R_reads' HO_3.out).1; omega) | simpa using h_); obtain ⟨ve12_2, rfl, ge12_2⟩ := k97_openM hM12; have HP12 := Kd.R_seg HX12.out (x4_1 : Int) (of_decide_eq_true (by first | (with_reducible assumption) | assumption)) (by have h_ : (x4_1 : Int) < ((x3_1.length : Int) : Int) := of_decide_eq_true (by first | (with_reducible assumption) | assumption); first | exact h_ | (have e_ := (Kd.R_reads' HO_3.out).1; omega) | simpa using h_) (seg := [.int .i64 t159005, .string t159006, v159008]) (j := 0) hcl12 hcc12 (show 3 ≤ 3 from by decide) (x' := (⟨t159005, t159006, t159007⟩ : S97)) (k97_mkM _ _ _ (⟨t159005, t159006, t159007⟩ : S97) (Kd.R_mono (HO159009.out) (fun k_ hk => ⟨trivial, fun e_ => (hk.2) (by rw [e_]; rfl)⟩))) (fun _ hk => hk); have hx12_0 := hcc12 0 _ rfl; (try simp only [show (k97).sz = 3 from rfl, Nat.mul_one, Nat.add_zero] at hx12_0); have hf12_0 := hfr12 0; (try simp only [show (k97).sz = 3 from rfl, Nat.mul_one, Nat.add_zero] at hf12_0); have hx12_1 := hcc12 1 _ rfl; (try simp only [show (k97).sz = 3 from rfl, Nat.mul_one, Nat.add_zero] at hx12_1); have hf12_1 := hfr12 1; (try simp only [show (k97).sz = 3 from rfl, Nat.mul_one, Nat.add_zero] at hf12_1); have hx12_2 := hcc12 2 _ rfl; (try simp only [show (k97).sz = 3 from rfl, Nat.mul_one, Nat.add_zero] at hx12_2); have hf12_2 := hfr12 2; (try simp only [show (k97).sz = 3 from rfl, Nat.mul_one, Nat.add_zero] at hf12_2); clear hcl12 hcc12 hfr12; (try clear hM12)) | ((with_reducible refine gate_store (t := 97) (p := 21) rfl ?_); refine store_event (t := 97) (p := 21) (v := ?vo_w13) (w1 := (((w11.setCell ⟨go10, (x4_1 : Int).toNat * 3, none⟩ (.int .i64 t159005)).setCell ⟨go10, (x4_1 : Int).toNat * 3 + 1, none⟩ (.string t159006)).setCell ⟨go10, (x4_1 : Int).toNat * 3 + 2, none⟩ (v159008))) ?hg ?ho ?hn ?hr ?_; (case ho => rfl); (case hg => rfl); (case hn => rfl); (case hr => first | (go_simp; done) | (go_simp; rfl) | (obtain ⟨sA_, sc_, se_⟩ := Kd.R_slice HO159009.out; subst se_; first | (go_simp; done) | (go_simp; rfl))); intro w13 hw; have hg : w11.grownBy w13 (some go10) := (by rw [hw]; exact HP12.2); have hp_ : Kd.R k97 97 w13 w.heap.size (fun _ => True) (.slice (some ⟨go10, 0, none⟩) x3_1.length co10) y159010 := (by rw [hw, Ny159010.out]; exact HP12.1); clear HP12; have n0_ := Aside0.mk (hp_); have n1_ := Aside0.mk ((by rw [hw]; exact below_set (below_set (below_set (HB.out) GB10.out) GB10.out) GB10.out : Below w.heap.size w w13)); clear HO_3; clear HB; clear HO159009; have HO_3 := n0_; have HB := n1_; clear n0_ n1_; clear hg hw hp_))
                go_roundg k1
                case measure => have := HK1.out; omega
                case rel => exact ⟨(y159010), (wrap64 (x4_1 + 1)), (by first | rfl | (simp; done) | (simp [*]; done)), H', ⟨by have := HK1.out; omega⟩, ⟨by (with_reducible repeat (first | apply Kd.R_alloc | apply Kd.R_drewN | apply Kd.R_drew)); exact HO_3.out⟩, ⟨by repeat (first | (with_reducible first | exact HB.out | apply below_alloc | apply pw_below_drewN | apply below_drew1) | exact HB.out)⟩⟩
              · rw [if_neg c9] at H
                exact absurd H (by simp)
            · rw [if_neg c7] at H
              exact absurd H (by simp)
          · rw [if_neg c6] at H
            have c6b0 : decide (x4_1 < (l0.length : Int)) = false := decide_eq_false c6
            clear c6
            obtain rfl := Option.some.inj H
            go_wp2
            go_ret
            exact ⟨_, by first | rfl | (simp [errW_none, errW_some] <;> rfl) | (simp [*, errW_none, errW_some] <;> rfl), by (with_reducible repeat (first | apply Kd.R_alloc | apply Kd.R_drewN | apply Kd.R_drew)); exact HO_3.out, by repeat (first | (with_reducible first | exact HB.out | apply below_alloc | apply pw_below_drewN | apply below_drew1) | exact HB.out)⟩
    · rw [if_neg c3] at H
      exact absurd H (by simp)
  · rw [if_neg c2] at H
    exact absurd H (by simp)
theorem laws_toRegexSG.mono_lg (gF gF2 : Nat → Int → ByteArray → List (S90) → Option (Int × ByteArray × (List (S97)))) (hg : ∀ b0 b1 b2 k, LeO (gF k b0 b1 b2) (gF2 k b0 b1 b2)) : ∀ k, (∀ y0 y1 y2, LeO (laws_toRegexSG.l0 gF k y0 y1 y2) (laws_toRegexSG.l0 gF2 k y0 y1 y2))
  | 0 => fun _ _ _ r h => by simp [laws_toRegexSG.l0] at h
  | k + 1 => by
    have ih0 := laws_toRegexSG.mono_lg gF gF2 hg k
    · intro y0 y1 y2
      unfold laws_toRegexSG.l0
      repeat' first
      | (with_reducible exact ih0 _ _ _)
      | (with_reducible exact hg _ _ _ _)
      | (with_reducible exact LeO.refl _)
      | (with_reducible exact LeO.none _)
      | (with_reducible refine LeO.ite ?_ ?_)
      | (with_reducible refine LeO.bind ?_ (fun _ => ?_))
      | exact ih0 _ _ _
      | exact hg _ _ _ _
      | exact LeO.none _
      | refine LeO.ite ?_ ?_
      | refine LeO.bind ?_ (fun _ => ?_)
theorem laws_toRegexSG.monog (gF gF2 : Nat → Int → ByteArray → List (S90) → Option (Int × ByteArray × (List (S97)))) (hg : ∀ b0 b1 b2 k, LeO (gF k b0 b1 b2) (gF2 k b0 b1 b2)) : ∀ a0 k, LeO (laws_toRegexSG.f gF k a0) (laws_toRegexSG.f gF2 k a0) := by
  intro a0 k
  have ih0 := laws_toRegexSG.mono_lg gF gF2 hg k
  unfold laws_toRegexSG.f
  repeat' first
      | (with_reducible exact ih0 _ _ _)
      | (with_reducible exact hg _ _ _ _)
      | (with_reducible exact LeO.refl _)
      | (with_reducible exact LeO.none _)
      | (with_reducible refine LeO.ite ?_ ?_)
      | (with_reducible refine LeO.bind ?_ (fun _ => ?_))
      | exact ih0 _ _ _
      | exact hg _ _ _ _
      | exact LeO.none _
      | refine LeO.ite ?_ ?_
      | refine LeO.bind ?_ (fun _ => ?_)
/-! ### laws_toRegex: function 131 -/
def laws_toRegexG.f (gF : Nat → Int → ByteArray → List (S90) → Option (Int × ByteArray × (List (S97)))) (k : Nat) (a0_0 : Int) (a0_1 : ByteArray) (l0_2 : List (S90)) : Option (Int × ByteArray × (List (S97))) := (laws_toRegexSG.f gF k l0_2).bind fun t131004 => (some (a0_0, a0_1, t131004))
theorem laws_toRegexG.mono (gF : Nat → Int → ByteArray → List (S90) → Option (Int × ByteArray × (List (S97)))) (gM : ∀ a0 a1 a2 k, LeO (gF k a0 a1 a2) (gF (k + 1) a0 a1 a2)) : ∀ a0 a1 a2 k, LeO (laws_toRegexG.f gF k a0 a1 a2) (laws_toRegexG.f gF (k + 1) a0 a1 a2) := by
  intro a0 a1 a2 k
  unfold laws_toRegexG.f
  repeat' first
      | (with_reducible exact laws_toRegexSG.mono gF gM _ _)
      | (with_reducible exact LeO.refl _)
      | (with_reducible exact LeO.none _)
      | (with_reducible refine LeO.ite ?_ ?_)
      | (with_reducible refine LeO.bind ?_ (fun _ => ?_))
      | exact laws_toRegexSG.mono gF gM _ _
      | exact LeO.none _
      | refine LeO.ite ?_ ?_
      | refine LeO.bind ?_ (fun _ => ?_)
set_option maxHeartbeats 8000000 in
set_option maxRecDepth 100000 in
theorem laws_toRegexG.calls (gF : Nat → Int → ByteArray → List (S90) → Option (Int × ByteArray × (List (S97)))) (gC : ∀ (k : Nat) (a0_0 : Int) (a0_1 : ByteArray) (A0_2 : Option Addr) (c0_2 : Nat) (l0_2 : List (S90)) (r1 : Int) (r2 : ByteArray) (r3 : List (S97)) (w : World) (hr0_2 : Kd.C k90 w A0_2 l0_2.length l0_2) (hc0_2 : l0_2.length ≤ c0_2) (h : gF k a0_0 a0_1 l0_2 = some (r1, r2, r3)), Calls Try.prog 131 #[.agg #[.int .i64 a0_0, .string a0_1, .slice A0_2 l0_2.length c0_2]] w fun e w' => ∃ v2_ : Value, e = .returned (.agg #[.int .i64 r1, .string r2, v2_]) ∧ Kd.R k97 97 w' w.heap.size (fun _ => True) v2_ r3 ∧ Below w.heap.size w w') (k : Nat) (a0_0 : Int) (a0_1 : ByteArray) (A0_2 : Option Addr) (c0_2 : Nat) (l0_2 : List (S90)) (r1 : Int) (r2 : ByteArray) (r3 : List (S97)) (w : World) (hr0_2 : Kd.C k90 w A0_2 l0_2.length l0_2) (hc0_2 : l0_2.length ≤ c0_2) (h : laws_toRegexG.f gF k a0_0 a0_1 l0_2 = some (r1, r2, r3)) :
    Calls Try.prog 131 #[.agg #[.int .i64 a0_0, .string a0_1, .slice A0_2 l0_2.length c0_2]] w fun e w' => ∃ v2_ : Value, e = .returned (.agg #[.int .i64 r1, .string r2, v2_]) ∧ Kd.R k97 97 w' w.heap.size (fun _ => True) v2_ r3 ∧ Below w.heap.size w w' := by
  have hu90 := Try.underlying90
  have hu97 := Try.underlying97
  have HR0_2 := Aside0.mk hr0_2
  have HC0_2 := Aside0.mk hc0_2
  clear hr0_2 hc0_2
  have HB := Aside0.mk (Below.refl w.heap.size w)
  have H : ((laws_toRegexSG.f gF k l0_2).bind fun t131004 => (some (a0_0, a0_1, t131004))) = some (r1, r2, r3) := h
  clear h
  replace H := Option.bind_eq_some_iff.mp H
  obtain ⟨t131004, A20, H⟩ := H
  replace H : (some (a0_0, a0_1, t131004)) = some (r1, r2, r3) := H
  have A2 := Aside0.mk A20
  clear A20
  simp only [Option.some.injEq, Prod.mk.injEq] at H
  obtain ⟨rfl, rfl, rfl⟩ := H
  go_enter Try.func131, Try.ntmps131
  go_wp2_with (first | ((with_reducible refine gate_dst (N := 1) rfl ?_); refine box_event ?hg (N := 1) ?hd (cs := #[.int .i64 a0_0, .string a0_1, .slice A0_2 l0_2.length c0_2]) (t := 90) ?hr ?_; (case hd => rfl); (case hg => rfl); (case hr => first | (go_simp; done) | (go_simp; rfl)); intro gb131001 hg w3 hbox hb; have n0_ := Aside0.mk (below_step (by repeat (first | (with_reducible first | exact HB.out | apply below_alloc | apply pw_below_drewN | apply below_drew1) | exact HB.out)) hb); have n1_ := Aside0.mk (hbox); have n2_ := Aside0.mk ((by rw [hg]; exact (below_size (by repeat (first | (with_reducible first | exact HB.out | apply below_alloc | apply pw_below_drewN | apply below_drew1) | exact HB.out))) : w.heap.size ≤ gb131001)); have n3_ := Aside0.mk ((by rw [hg]; exact (below_size (by repeat (first | (with_reducible first | exact HB.out | apply below_alloc | apply pw_below_drewN | apply below_drew1) | exact HB.out))) : w.heap.size ≤ gb131001)); clear HB; have HB := n0_; have BK131001 := n1_; have GW131001 := n2_; have GE131001 := n3_; clear n0_ n1_ n2_ n3_; clear hb hbox hg) | ((with_reducible refine gate_dst (N := 2) rfl ?_); refine box_event ?hg (N := 2) ?hd (cs := #[.int .i64 0, .string (⟨#[]⟩ : ByteArray), .slice none 0 0]) (t := 97) ?hr ?_; (case hd => rfl); (case hg => rfl); (case hr => first | (go_simp; done) | (go_simp; rfl)); intro gb131002 hg w4 hbox hb; have n0_ := Aside0.mk (blk_below (g := gb131001) (o := .cells #[.int .i64 a0_0, .string a0_1, .slice A0_2 l0_2.length c0_2] 90 (0, 0)) (by (with_reducible repeat (first | refine blk_drewN ?_ _ | refine blk_drew ?_ | refine blk_alloc ?_ _)); exact BK131001.out) hb); have n1_ := Aside0.mk (below_step (by repeat (first | (with_reducible first | exact HB.out | apply below_alloc | apply pw_below_drewN | apply below_drew1 | refine below_set ?_ GE131001.out) | exact HB.out)) hb); have n2_ := Aside0.mk (hbox); have n3_ := Aside0.mk ((by rw [hg]; exact (below_size (by repeat (first | (with_reducible first | exact HB.out | apply below_alloc | apply pw_below_drewN | apply below_drew1 | refine below_set ?_ GE131001.out) | exact HB.out))) : w.heap.size ≤ gb131002)); have n4_ := Aside0.mk ((by rw [hg]; exact (below_size (by repeat (first | (with_reducible first | exact HB.out | apply below_alloc | apply pw_below_drewN | apply below_drew1 | refine below_set ?_ GE131001.out) | exact HB.out))) : w.heap.size ≤ gb131002)); have n5_ := Aside0.mk ((by rw [hg]; exact Nat.ne_of_lt (blk_lt (g := gb131001) (o := .cells #[.int .i64 a0_0, .string a0_1, .slice A0_2 l0_2.length c0_2] 90 (0, 0)) (by (with_reducible repeat (first | refine blk_drewN ?_ _ | refine blk_drew ?_ | refine blk_alloc ?_ _)); exact BK131001.out)) : gb131001 ≠ gb131002)); have n6_ := Aside0.mk ((by rw [hg]; exact Nat.ne_of_gt (blk_lt (g := gb131001) (o := .cells #[.int .i64 a0_0, .string a0_1, .slice A0_2 l0_2.length c0_2] 90 (0, 0)) (by (with_reducible repeat (first | refine blk_drewN ?_ _ | refine blk_drew ?_ | refine blk_alloc ?_ _)); exact BK131001.out)) : gb131002 ≠ gb131001)); clear BK131001; clear HB; have BK131001 := n0_; have HB := n1_; have BK131002 := n2_; have GW131002 := n3_; have GE131002 := n4_; have NB131001_131002 := n5_; have NB131002_131001 := n6_; clear n0_ n1_ n2_ n3_ n4_ n5_ n6_; clear hb hbox hg) | ((with_reducible refine gate_dst (N := 3) rfl ?_); refine box_event ?hg (N := 3) ?hd (cs := #[.int .i64 0, .string (⟨#[]⟩ : ByteArray), .slice none 0 0]) (t := 97) ?hr ?_; (case hd => rfl); (case hg => rfl); (case hr => first | (go_simp; done) | (go_simp; rfl)); intro gb131003 hg w5 hbox hb; have n0_ := Aside0.mk (blk_below (g := gb131001) (o := .cells #[.int .i64 a0_0, .string a0_1, .slice A0_2 l0_2.length c0_2] 90 (0, 0)) (by (with_reducible repeat (first | refine blk_drewN ?_ _ | refine blk_drew ?_ | refine blk_alloc ?_ _)); exact BK131001.out) hb); have n1_ := Aside0.mk (blk_below (g := gb131002) (o := .cells #[.int .i64 0, .string (⟨#[]⟩ : ByteArray), .slice none 0 0] 97 (0, 0)) (by (with_reducible repeat (first | refine blk_drewN ?_ _ | refine blk_drew ?_ | refine blk_alloc ?_ _)); exact BK131002.out) hb); have n2_ := Aside0.mk (below_step (by repeat (first | (with_reducible first | exact HB.out | apply below_alloc | apply pw_below_drewN | apply below_drew1 | refine below_set ?_ GE131001.out | refine below_set ?_ GE131002.out) | exact HB.out)) hb); have n3_ := Aside0.mk (hbox); have n4_ := Aside0.mk ((by rw [hg]; exact (below_size (by repeat (first | (with_reducible first | exact HB.out | apply below_alloc | apply pw_below_drewN | apply below_drew1 | refine below_set ?_ GE131001.out | refine below_set ?_ GE131002.out) | exact HB.out))) : w.heap.size ≤ gb131003)); have n5_ := Aside0.mk ((by rw [hg]; exact (below_size (by repeat (first | (with_reducible first | exact HB.out | apply below_alloc | apply pw_below_drewN | apply below_drew1 | refine below_set ?_ GE131001.out | refine below_set ?_ GE131002.out) | exact HB.out))) : w.heap.size ≤ gb131003)); have n6_ := Aside0.mk ((by rw [hg]; exact Nat.ne_of_lt (blk_lt (g := gb131001) (o := .cells #[.int .i64 a0_0, .string a0_1, .slice A0_2 l0_2.length c0_2] 90 (0, 0)) (by (with_reducible repeat (first | refine blk_drewN ?_ _ | refine blk_drew ?_ | refine blk_alloc ?_ _)); exact BK131001.out)) : gb131001 ≠ gb131003)); have n7_ := Aside0.mk ((by rw [hg]; exact Nat.ne_of_gt (blk_lt (g := gb131001) (o := .cells #[.int .i64 a0_0, .string a0_1, .slice A0_2 l0_2.length c0_2] 90 (0, 0)) (by (with_reducible repeat (first | refine blk_drewN ?_ _ | refine blk_drew ?_ | refine blk_alloc ?_ _)); exact BK131001.out)) : gb131003 ≠ gb131001)); have n8_ := Aside0.mk ((by rw [hg]; exact Nat.ne_of_lt (blk_lt (g := gb131002) (o := .cells #[.int .i64 0, .string (⟨#[]⟩ : ByteArray), .slice none 0 0] 97 (0, 0)) (by (with_reducible repeat (first | refine blk_drewN ?_ _ | refine blk_drew ?_ | refine blk_alloc ?_ _)); exact BK131002.out)) : gb131002 ≠ gb131003)); have n9_ := Aside0.mk ((by rw [hg]; exact Nat.ne_of_gt (blk_lt (g := gb131002) (o := .cells #[.int .i64 0, .string (⟨#[]⟩ : ByteArray), .slice none 0 0] 97 (0, 0)) (by (with_reducible repeat (first | refine blk_drewN ?_ _ | refine blk_drew ?_ | refine blk_alloc ?_ _)); exact BK131002.out)) : gb131003 ≠ gb131002)); clear BK131001; clear BK131002; clear HB; have BK131001 := n0_; have BK131002 := n1_; have HB := n2_; have BK131003 := n3_; have GW131003 := n4_; have GE131003 := n5_; have NB131001_131003 := n6_; have NB131003_131001 := n7_; have NB131002_131003 := n8_; have NB131003_131002 := n9_; clear n0_ n1_ n2_ n3_ n4_ n5_ n6_ n7_ n8_ n9_; clear hb hbox hg; have hnb6 := NB131001_131002.out; have hnc6 := NB131002_131001.out; have hnb7 := NB131001_131003.out; have hnc7 := NB131003_131001.out; have hcz8_0 : w5.cell? ⟨gb131001, 0, none⟩ = some (.int .i64 a0_0) := (blk_cell BK131001.out 0).trans rfl; have hcz8_1 : w5.cell? ⟨gb131001, 1, none⟩ = some (.string a0_1) := (blk_cell BK131001.out 1).trans rfl; have hcz8_2 : w5.cell? ⟨gb131001, 2, none⟩ = some (.slice A0_2 l0_2.length c0_2) := (blk_cell BK131001.out 2).trans rfl; have hfz8_0 := blk_frozen BK131001.out 0; have hfz8_1 := blk_frozen BK131001.out 1; have hfz8_2 := blk_frozen BK131001.out 2; have hnb9 := NB131003_131002.out; have hnc9 := NB131002_131003.out; have hcz10_0 : w5.cell? ⟨gb131003, 0, none⟩ = some (.int .i64 0) := (blk_cell BK131003.out 0).trans rfl; have hcz10_1 : w5.cell? ⟨gb131003, 1, none⟩ = some (.string (⟨#[]⟩ : ByteArray)) := (blk_cell BK131003.out 1).trans rfl; have hcz10_2 : w5.cell? ⟨gb131003, 2, none⟩ = some (.slice none 0 0) := (blk_cell BK131003.out 2).trans rfl; have hfz10_0 := blk_frozen BK131003.out 0; have hfz10_1 := blk_frozen BK131003.out 1; have hfz10_2 := blk_frozen BK131003.out 2) | ((with_reducible refine gate_callee (f := 159) rfl ?_); refine goesL_ (some 12) rfl rfl Try.func159 (by kernel_rfl) rfl #[.slice A0_2 l0_2.length c0_2] rfl (by (try simp only [List.map_toArray, List.map_cons, List.map_nil]); first | done | rfl | (simp only [List.length_drop, List.length_take]; rfl)) ?_; (with_reducible refine (laws_toRegexSG.calls gF gC k _ _ l0_2 t131004 _ ?side1 ?side2 A2.out).mono ?_); (case side1 => exact Kd.C_below HR0_2.out (by repeat (first | (with_reducible first | exact HB.out | apply below_alloc | apply pw_below_drewN | apply below_drew1 | refine below_set ?_ GE131001.out | refine below_set ?_ GE131002.out | refine below_set ?_ GE131003.out) | exact HB.out))); (case side2 => exact HC0_2.out); rintro e w11 ⟨v131005, rfl, ho0, hb⟩; refine ⟨_, rfl, ?_⟩; have n0_ := Aside0.mk (Kd.R_lower (Kd.R_newB (Kd.R_newB ho0 (g := gb131002) (o := .cells #[.int .i64 0, .string (⟨#[]⟩ : ByteArray), .slice none 0 0] 97 (0, 0)) (by (with_reducible repeat (first | refine blk_drewN ?_ _ | refine blk_drew ?_ | refine blk_alloc ?_ _)); refine blk_far ?_ NB131002_131003.out _; (with_reducible repeat (first | refine blk_drewN ?_ _ | refine blk_drew ?_ | refine blk_alloc ?_ _)); refine blk_far ?_ NB131002_131003.out _; (with_reducible repeat (first | refine blk_drewN ?_ _ | refine blk_drew ?_ | refine blk_alloc ?_ _)); exact BK131002.out)) (g := gb131003) (o := .cells #[.int .i64 a0_0, .string a0_1, .slice none 0 0] 97 (0, 0)) (by (with_reducible repeat (first | refine blk_drewN ?_ _ | refine blk_drew ?_ | refine blk_alloc ?_ _)); refine blk_put (cs := #[.int .i64 a0_0, .string (⟨#[]⟩ : ByteArray), .slice none 0 0]) ?_ 1 _ rfl; (with_reducible repeat (first | refine blk_drewN ?_ _ | refine blk_drew ?_ | refine blk_alloc ?_ _)); refine blk_put (cs := #[.int .i64 0, .string (⟨#[]⟩ : ByteArray), .slice none 0 0]) ?_ 0 _ rfl; (with_reducible repeat (first | refine blk_drewN ?_ _ | refine blk_drew ?_ | refine blk_alloc ?_ _)); exact BK131003.out)) (below_size (by repeat (first | (with_reducible first | exact HB.out | apply below_alloc | apply pw_below_drewN | apply below_drew1 | refine below_set ?_ GE131001.out | refine below_set ?_ GE131002.out | refine below_set ?_ GE131003.out) | exact HB.out)))); have n1_ := Aside0.mk (blk_below (g := gb131001) (o := .cells #[.int .i64 a0_0, .string a0_1, .slice A0_2 l0_2.length c0_2] 90 (0, 0)) (by (with_reducible repeat (first | refine blk_drewN ?_ _ | refine blk_drew ?_ | refine blk_alloc ?_ _)); refine blk_far ?_ NB131001_131003.out _; (with_reducible repeat (first | refine blk_drewN ?_ _ | refine blk_drew ?_ | refine blk_alloc ?_ _)); refine blk_far ?_ NB131001_131003.out _; (with_reducible repeat (first | refine blk_drewN ?_ _ | refine blk_drew ?_ | refine blk_alloc ?_ _)); exact BK131001.out) hb); have n2_ := Aside0.mk (blk_below (g := gb131002) (o := .cells #[.int .i64 0, .string (⟨#[]⟩ : ByteArray), .slice none 0 0] 97 (0, 0)) (by (with_reducible repeat (first | refine blk_drewN ?_ _ | refine blk_drew ?_ | refine blk_alloc ?_ _)); refine blk_far ?_ NB131002_131003.out _; (with_reducible repeat (first | refine blk_drewN ?_ _ | refine blk_drew ?_ | refine blk_alloc ?_ _)); refine blk_far ?_ NB131002_131003.out _; (with_reducible repeat (first | refine blk_drewN ?_ _ | refine blk_drew ?_ | refine blk_alloc ?_ _)); exact BK131002.out) hb); have n3_ := Aside0.mk (blk_below (g := gb131003) (o := .cells #[.int .i64 a0_0, .string a0_1, .slice none 0 0] 97 (0, 0)) (by (with_reducible repeat (first | refine blk_drewN ?_ _ | refine blk_drew ?_ | refine blk_alloc ?_ _)); refine blk_put (cs := #[.int .i64 a0_0, .string (⟨#[]⟩ : ByteArray), .slice none 0 0]) ?_ 1 _ rfl; (with_reducible repeat (first | refine blk_drewN ?_ _ | refine blk_drew ?_ | refine blk_alloc ?_ _)); refine blk_put (cs := #[.int .i64 0, .string (⟨#[]⟩ : ByteArray), .slice none 0 0]) ?_ 0 _ rfl; (with_reducible repeat (first | refine blk_drewN ?_ _ | refine blk_drew ?_ | refine blk_alloc ?_ _)); exact BK131003.out) hb); have n4_ := Aside0.mk (below_step (by repeat (first | (with_reducible first | exact HB.out | apply below_alloc | apply pw_below_drewN | apply below_drew1 | refine below_set ?_ GE131001.out | refine below_set ?_ GE131002.out | refine below_set ?_ GE131003.out) | exact HB.out)) hb); clear BK131001; clear BK131002; clear BK131003; clear HB; have HO131006 := n0_; have BK131001 := n1_; have BK131002 := n2_; have BK131003 := n3_; have HB := n4_; clear n0_ n1_ n2_ n3_ n4_; (try clear hb); (try clear hb2); (try clear hk); (try clear hi); (try clear ho0); obtain ⟨Ao12, co12, eo12⟩ := Kd.R_slice HO131006.out; subst eo12; have hcz13_0 : w11.cell? ⟨gb131003, 0, none⟩ = some (.int .i64 a0_0) := (blk_cell BK131003.out 0).trans rfl; have hcz13_1 : w11.cell? ⟨gb131003, 1, none⟩ = some (.string a0_1) := (blk_cell BK131003.out 1).trans rfl; have hcz13_2 : w11.cell? ⟨gb131003, 2, none⟩ = some (.slice none 0 0) := (blk_cell BK131003.out 2).trans rfl; have hfz13_0 := blk_frozen BK131003.out 0; have hfz13_1 := blk_frozen BK131003.out 1; have hfz13_2 := blk_frozen BK131003.out 2; have hcz14_0 : w11.cell? ⟨gb131002, 0, none⟩ = some (.int .i64 0) := (blk_cell BK131002.out 0).trans rfl; have hcz14_1 : w11.cell? ⟨gb131002, 1, none⟩ = some (.string (⟨#[]⟩ : ByteArray)) := (blk_cell BK131002.out 1).trans rfl; have hcz14_2 : w11.cell? ⟨gb131002, 2, none⟩ = some (.slice none 0 0) := (blk_cell BK131002.out 2).trans rfl; have hfz14_0 := blk_frozen BK131002.out 0; have hfz14_1 := blk_frozen BK131002.out 1; have hfz14_2 := blk_frozen BK131002.out 2))
  refine bodyPost_ret (results_cell_row rfl _ _ gb131002 97 #[.int .i64 a0_0, .string a0_1, .slice Ao12 t131004.length co12] (0, 0) _ rfl (by (with_reducible repeat (first | refine blk_drewN ?_ _ | refine blk_drew ?_ | refine blk_alloc ?_ _)); refine blk_put (cs := #[.int .i64 a0_0, .string a0_1, .slice none 0 0]) ?_ 2 _ rfl; (with_reducible repeat (first | refine blk_drewN ?_ _ | refine blk_drew ?_ | refine blk_alloc ?_ _)); refine blk_put (cs := #[.int .i64 a0_0, .string (⟨#[]⟩ : ByteArray), .slice none 0 0]) ?_ 1 _ rfl; (with_reducible repeat (first | refine blk_drewN ?_ _ | refine blk_drew ?_ | refine blk_alloc ?_ _)); refine blk_put (cs := #[.int .i64 0, .string (⟨#[]⟩ : ByteArray), .slice none 0 0]) ?_ 0 _ rfl; (with_reducible repeat (first | refine blk_drewN ?_ _ | refine blk_drew ?_ | refine blk_alloc ?_ _)); refine blk_far ?_ NB131002_131003.out _; (with_reducible repeat (first | refine blk_drewN ?_ _ | refine blk_drew ?_ | refine blk_alloc ?_ _)); exact BK131002.out) Try.underlying97 rfl (by kernel_rfl)) rfl ?_
  exact ⟨_, by first | rfl | (simp [errW_none, errW_some] <;> rfl) | (simp [*, errW_none, errW_some] <;> rfl), by (with_reducible repeat (first | apply Kd.R_alloc | apply Kd.R_drewN | apply Kd.R_drew)); exact Kd.R_mono (Kd.R_far (p := ⟨gb131002, 2, none⟩) (Kd.R_far (p := ⟨gb131002, 1, none⟩) (Kd.R_far (p := ⟨gb131002, 0, none⟩) (Kd.R_far (p := ⟨gb131003, 2, none⟩) (Kd.R_mono (Kd.R_mono HO131006.out (fun k_ hk => (⟨hk, hk.2⟩ : _ ∧ k_ ≠ gb131003))) (fun k_ hk => (⟨hk, hk.1.1.2⟩ : _ ∧ k_ ≠ gb131002))) (fun _ hk => hk.1.2) (.slice Ao12 t131004.length co12)) (fun _ hk => hk.2) (.int .i64 a0_0)) (fun _ hk => hk.2) (.string a0_1)) (fun _ hk => hk.2) (.slice Ao12 t131004.length co12)) (fun _ hk => trivial), by repeat (first | (with_reducible first | exact HB.out | apply below_alloc | apply pw_below_drewN | apply below_drew1 | refine below_set ?_ GE131001.out | refine below_set ?_ GE131002.out | refine below_set ?_ GE131003.out) | exact HB.out)⟩
theorem laws_toRegexG.monog (gF gF2 : Nat → Int → ByteArray → List (S90) → Option (Int × ByteArray × (List (S97)))) (hg : ∀ b0 b1 b2 k, LeO (gF k b0 b1 b2) (gF2 k b0 b1 b2)) : ∀ a0 a1 a2 k, LeO (laws_toRegexG.f gF k a0 a1 a2) (laws_toRegexG.f gF2 k a0 a1 a2) := by
  intro a0 a1 a2 k
  unfold laws_toRegexG.f
  repeat' first
      | (with_reducible exact laws_toRegexSG.monog gF gF2 hg _ _)
      | (with_reducible exact LeO.refl _)
      | (with_reducible exact LeO.none _)
      | (with_reducible refine LeO.ite ?_ ?_)
      | (with_reducible refine LeO.bind ?_ (fun _ => ?_))
      | exact laws_toRegexSG.monog gF gF2 hg _ _
      | exact LeO.none _
      | refine LeO.ite ?_ ?_
      | refine LeO.bind ?_ (fun _ => ?_)

def laws_toRegex.f : Nat → Int → ByteArray → List (S90) → Option (Int × ByteArray × (List (S97)))
  | 0, _, _, _ => none
  | K + 1, a0_, a1_, a2_ => laws_toRegexG.f (fun _ => laws_toRegex.f K) K a0_ a1_ a2_
theorem laws_toRegex.mono : ∀ a0 a1 a2 k, LeO (laws_toRegex.f k a0 a1 a2) (laws_toRegex.f (k + 1) a0 a1 a2) := by
  intro a0_ a1_ a2_ k
  induction k generalizing a0_ a1_ a2_ with
  | zero => exact LeO.none _
  | succ K ih =>
    intro r h
    have h1 := laws_toRegexG.monog (fun _ => laws_toRegex.f K) (fun _ => laws_toRegex.f (K + 1)) (fun a0_ a1_ a2_ k => ih a0_ a1_ a2_) a0_ a1_ a2_ K r h
    exact laws_toRegexG.mono (fun _ => laws_toRegex.f (K + 1)) (fun a0_ a1_ a2_ k => LeO.refl _) a0_ a1_ a2_ K r h1
theorem laws_toRegex.calls (k : Nat) (a0_0 : Int) (a0_1 : ByteArray) (A0_2 : Option Addr) (c0_2 : Nat) (l0_2 : List (S90)) (r1 : Int) (r2 : ByteArray) (r3 : List (S97)) (w : World) (hr0_2 : Kd.C k90 w A0_2 l0_2.length l0_2) (hc0_2 : l0_2.length ≤ c0_2) (h : laws_toRegex.f k a0_0 a0_1 l0_2 = some (r1, r2, r3)) :
    Calls Try.prog 131 #[.agg #[.int .i64 a0_0, .string a0_1, .slice A0_2 l0_2.length c0_2]] w fun e w' => ∃ v2_ : Value, e = .returned (.agg #[.int .i64 r1, .string r2, v2_]) ∧ Kd.R k97 97 w' w.heap.size (fun _ => True) v2_ r3 ∧ Below w.heap.size w w' := by
  induction k generalizing a0_0 a0_1 A0_2 c0_2 l0_2 r1 r2 r3 w hr0_2 hc0_2 with
  | zero => exact absurd h (by simp [laws_toRegex.f])
  | succ K ih => exact laws_toRegexG.calls (fun _ => laws_toRegex.f K) (fun k a0_0 a0_1 A0_2 c0_2 l0_2 r1 r2 r3 w hr0_2 hc0_2 h => ih a0_0 a0_1 A0_2 c0_2 l0_2 r1 r2 r3 w hr0_2 hc0_2 h) K a0_0 a0_1 A0_2 c0_2 l0_2 r1 r2 r3 w hr0_2 hc0_2 h
def laws_toRegexS.f (k : Nat) (l0 : List (S90)) : Option ((List (S97))) := laws_toRegexSG.f laws_toRegex.f k l0
theorem laws_toRegexS.mono : ∀ a0 k, LeO (laws_toRegexS.f k a0) (laws_toRegexS.f (k + 1) a0) := laws_toRegexSG.mono laws_toRegex.f laws_toRegex.mono
theorem laws_toRegexS.calls (k : Nat) (A0 : Option Addr) (c0 : Nat) (l0 : List (S90)) (r : List (S97)) (w : World) (hr0 : Kd.C k90 w A0 l0.length l0) (hc0 : l0.length ≤ c0) (h : laws_toRegexS.f k l0 = some r) :
    Calls Try.prog 159 #[.slice A0 l0.length c0] w fun e w' => ∃ v0_ : Value, e = .returned (v0_) ∧ Kd.R k97 97 w' w.heap.size (fun _ => True) v0_ r ∧ Below w.heap.size w w' := laws_toRegexSG.calls laws_toRegex.f laws_toRegex.calls k A0 c0 l0 r w hr0 hc0 h


end Go.Proofs.Ytkefiajemifklaa.A

