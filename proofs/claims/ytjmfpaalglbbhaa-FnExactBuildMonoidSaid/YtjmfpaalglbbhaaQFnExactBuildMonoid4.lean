/- FnExactBuildMonoid: what its proof needs, put together by this session's program wip/merge.py out of the texts that wip/xp.py printed and of this session's own. -/
import Derived.Test.YtjmfpaalglbbhaaQFnExactBuildMonoid3
import Derived.Test.YtjmfpaalglbbhaaProg
import Derived.ChangeArms
import Derived.ChangeReads
import Derived.DataReads
import Derived.DataElems
import Derived.Shelf.Abstract
import Derived.Deep.LoopGhost
import Derived.Deep.QuietTactic
import Derived.BigQuiet
import Derived.Test.YtjmfpaalglbbhaaRows
import Derived.WalkKit
import Derived.ProofKit
import Derived.OpenShut
import Derived.ShutString
import Derived.ChangeOld
import Derived.Below
import Derived.SizedLaws
import Derived.Lib.SmallJoins
-- EXT loop.example/g00582/laws.FnExactBuildMonoid rounds making
namespace Go.Proofs.Ytjmfpaalglbbhaa.Ext
set_option linter.unusedVariables false
set_option linter.unusedSimpArgs false
open Go.RowKit Go.Proofs.YtjmfpaalglbbhaaW.PrintWords Go.Proofs.YtjmfpaalglbbhaaW.PrintLast Go.Proofs.YtjmfpaalglbbhaaW.PrintMore Go.Proofs.Ytjmfpaalglbbhaa.A

theorem heldMo (k : Nat) (A0 : Option Addr) (c0 n0 : Nat) (A1 : Option Addr) (c1 n1 : Nat) (A2 : Option Addr) (c2 n2 : Nat) (l0 : List (List Int)) (l1 : List Int) (l2 : List (List Int)) (x r : Int) (w : World) (h0 : n0 = l0.length) (hr0 : Kd.C kRw w A0 l0.length l0) (hc0 : n0 ≤ c0) (h1 : n1 = l1.length) (hr1 : Kd.C (Kd.int .i64) w A1 l1.length l1) (hc1 : n1 ≤ c1) (h2 : n2 = l2.length) (hr2 : Kd.C kRw w A2 l2.length l2) (hc2 : n2 ≤ c2) (h : laws_heldMonoid.f k l0 l1 l2 x = some r) :
    Calls Try.prog 24 #[.agg #[.slice A0 n0 c0, .slice A1 n1 c1, .slice A2 n2 c2], .int .i64 x] w fun e w' => e = .returned (.int .i64 r) ∧ Below w.heap.size w w' := by
  subst h0 h1 h2
  exact laws_heldMonoid.calls k A0 c0 l0 A1 c1 l1 A2 c2 l2 x r w hr0 hc0 hr1 hc1 hr2 hc2 h

def laws_FnExactBuildMonoid.f (k : Nat) (l0 : List Bool) (l1 : List (List Int)) : Option Bool :=
  (laws_szDfa.f k l0 l1 1048576).bind fun sz => if sz < 0 then some true else
  (laws_toDfa.f k l0 l1).bind fun x => (spec_BuildMonoid.f k x.1 x.2).bind fun wr => (impl_BuildMonoid.f k x.1 x.2).bind fun gr =>
  (laws_eqMonoid.f k gr.1 gr.2.1 gr.2.2.1 wr.1 wr.2.1 wr.2.2.1).bind fun e1 => (laws_eqDfa.f k x.1 x.2 x.1 x.2).bind fun e2 =>
  (laws_markDfa.f k x.1 x.2 1).bind fun mk => (laws_markMonoid.f k gr.1 gr.2.1 gr.2.2.1 1).bind fun mg => (laws_heldMonoid.f k mg.2.1 mg.2.2.1 mg.2.2.2 1).bind fun q =>
  if e1 = true ∧ gr = wr ∧ e2 = true ∧ 0 ≤ mk.1 ∧ 0 ≤ mg.1 ∧ q = mg.1 then some true else some false

set_option maxHeartbeats 8000000 in
set_option maxRecDepth 100000 in
theorem laws_FnExactBuildMonoid.calls (k : Nat) (A0 : Option Addr) (c0 : Nat) (l0 : List Bool) (A1 : Option Addr) (c1 : Nat) (l1 : List (List Int)) (r : Bool) (w : World)
    (hr0 : Kd.C Kd.bool w A0 l0.length l0) (hc0 : l0.length ≤ c0) (hr1 : Kd.C (Kd.slice 3 (Kd.int .i64)) w A1 l1.length l1) (hc1 : l1.length ≤ c1)
    (h : laws_FnExactBuildMonoid.f k l0 l1 = some r) (hr_ : r = true) :
    Calls Try.prog 4 #[.agg #[.slice A0 l0.length c0, .slice A1 l1.length c1]] w fun e w' => e = .returned (.bool r) ∧ Below w.heap.size w w' := by
  subst hr_
  have hu45 := Try.underlying45
  have hu49 := Try.underlying49
  have hu34 := Try.underlying34
  have HR0 := Aside0.mk hr0
  have HC0 := Aside0.mk hc0
  have HR1 := Aside0.mk hr1
  have HC1 := Aside0.mk hc1
  have HB0 := Aside0.mk (Below.refl w.heap.size w)
  clear hr0 hc0 hr1 hc1
  unfold laws_FnExactBuildMonoid.f at h
  obtain ⟨sz, g0, h⟩ := Option.bind_eq_some_iff.mp h
  have G0 := Aside0.mk g0
  clear g0
  by_cases hs : sz < 0
  · have hs0 : decide (sz < 0) = true := decide_eq_true hs
    clear h hs
    go_enter Try.func4, Try.ntmps4
    go_wp2_with (first
    | ((with_reducible refine gate_dst (N := 1) rfl ?_); refine box_event ?hg (N := 1) ?hd (cs := #[.slice A0 l0.length c0, .slice A1 l1.length c1]) (t := 45) ?hr ?_; (case hd => rfl); (case hg => rfl); (case hr => first | (go_simp; done) | (go_simp; rfl)); intro gX hg w1 hb_ hb; have HB1 := Aside0.mk (below_step HB0.out hb); have BX1 := Aside0.mk hb_; clear hb_ hb hg; have hz1 : w1.cell? ⟨gX, 0, none⟩ = some (.slice A0 l0.length c0) := (blk_cell BX1.out 0).trans rfl; have hf1 := blk_frozen BX1.out 0; have hz2 : w1.cell? ⟨gX, 1, none⟩ = some (.slice A1 l1.length c1) := (blk_cell BX1.out 1).trans rfl; have hf2 := blk_frozen BX1.out 1)
    | (go_at_call 16; (with_reducible refine (laws_szDfa.calls k _ _ l0 _ _ l1 1048576 sz _ ?s1 ?s2 ?s3 ?s4 G0.out).mono ?_); (case s1 => exact Kd.C_below HR0.out HB1.out); (case s2 => exact HC0.out); (case s3 => exact Kd.C_below HR1.out HB1.out); (case s4 => exact HC1.out); rintro e w2 ⟨rfl, hb⟩; have HB2 := Aside0.mk (below_step HB1.out hb); have BX2 := Aside0.mk (blk_below BX1.out hb); clear hb; clear HB1 BX1; have hz3 : w2.cell? ⟨gX, 0, none⟩ = some (.slice A0 l0.length c0) := (blk_cell BX2.out 0).trans rfl; have hf3 := blk_frozen BX2.out 0; have hz4 : w2.cell? ⟨gX, 1, none⟩ = some (.slice A1 l1.length c1) := (blk_cell BX2.out 1).trans rfl; have hf4 := blk_frozen BX2.out 1)
    | (go_at_call 18; (with_reducible refine (laws_toDfa.calls k _ _ l0 _ _ l1 m0 m1 _ ?s1 ?s2 ?s3 ?s4 G1.out).mono ?_); (case s1 => exact Kd.C_below HR0.out HB2.out); (case s2 => exact HC0.out); (case s3 => exact Kd.C_below HR1.out HB2.out); (case s4 => exact HC1.out); rintro e w3 ⟨u0, u1, rfl, j0, j1, hb⟩; have HB3 := Aside0.mk (below_step HB2.out hb); have BX3 := Aside0.mk (blk_below BX2.out hb); clear hb; clear HB2 BX2; obtain ⟨Y0, y0, e0⟩ := Kd.R_slice j0; subst e0; obtain ⟨Y1, y1, e1⟩ := Kd.S_slice j1; subst e1; have D0 := Aside0.mk (Kd.R_reads' j0).2.2; have E0 := Aside0.mk (Kd.R_reads' j0).2.1; have D1 := Aside0.mk (Kd.S_reads' j1).2.2; have E1 := Aside0.mk (Kd.S_reads' j1).2.1; clear j0 j1; have LX := Aside0.mk (show gX < w3.heap.size from blk_lt BX3.out))
    | (go_at_call 17; (with_reducible refine (spec_BuildMonoid.calls k _ _ m0 _ _ m1 r0 r1 r2 rb _ ?s1 ?s2 ?s3 ?s4 G2.out).mono ?_); (case s1 => exact D0.out); (case s2 => exact E0.out); (case s3 => exact D1.out); (case s4 => exact E1.out); rintro e w4 ⟨u0, u1, u2, rfl, j0, j1, j2, hb⟩; have HB4 := Aside0.mk (below_step HB3.out hb); have BX4 := Aside0.mk (blk_below BX3.out hb); have SZ4 := Aside0.mk hb.size; clear hb D0 E0 D1 E1; clear HB3 BX3; obtain ⟨AW0, cW0, e0⟩ := Kd.N_slice j0; subst e0; obtain ⟨AW1, cW1, e1⟩ := Kd.R_slice j1; subst e1; obtain ⟨AW2, cW2, e2⟩ := Kd.N_slice j2; subst e2; have FW04 := Aside0.mk (show Kd.F kRw w4 (fun k => w3.heap.size ≤ k ∧ k < w4.heap.size) _ _ _ from Kd.F_mono (Kd.F_bound (Kd.N_F j0)) (fun k hk => ⟨hk.1.1, hk.2⟩)); have FW14 := Aside0.mk (show Kd.F (Kd.int .i64) w4 (fun k => w3.heap.size ≤ k ∧ k < w4.heap.size) _ _ _ from Kd.F_mono (Kd.F_bound (Kd.R_F j1)) (fun k hk => ⟨hk.1, hk.2⟩)); have FW24 := Aside0.mk (show Kd.F kRw w4 (fun k => w3.heap.size ≤ k ∧ k < w4.heap.size) _ _ _ from Kd.F_mono (Kd.F_bound (Kd.N_F j2)) (fun k hk => ⟨hk.1.1, hk.2⟩)); have CW0 := Aside0.mk (Kd.N_reads' j0).2.1; have CW1 := Aside0.mk (Kd.R_reads' j1).2.1; have CW2 := Aside0.mk (Kd.N_reads' j2).2.1; clear j0 j1 j2)
    | ((with_reducible refine gate_dst (N := 4) rfl ?_); refine box_event ?hg (N := 4) ?hd (cs := #[.slice none 0 0, .slice none 0 0, .slice none 0 0]) (t := 34) ?hr ?_; (case hd => rfl); (case hg => rfl); (case hr => first | (go_simp; done) | (go_simp; rfl)); intro gW hg w5 hb_ hb; have HB5 := Aside0.mk (below_step HB4.out hb); have BX5 := Aside0.mk (blk_below BX4.out hb); have FW05 := Aside0.mk (Kd.F_below FW04.out hb); have FW15 := Aside0.mk (Kd.F_below FW14.out hb); have FW25 := Aside0.mk (Kd.F_below FW24.out hb); have BW5 := Aside0.mk hb_; have G_gW := Aside0.mk (show gW = w4.heap.size from hg); have GEgW := Aside0.mk (show w.heap.size ≤ gW by rw [hg]; exact below_size HB4.out); have L_gW := Aside0.mk (show gW < w5.heap.size from blk_lt hb_); have SZ5 := Aside0.mk hb.size; have NBBX := Aside0.mk (show gX ≠ gW by rw [hg]; exact Nat.ne_of_lt (blk_lt BX4.out)); clear hb_ hb hg; clear HB4 BX4 FW04 FW14 FW24; have hz5 : w5.cell? ⟨gW, 0, none⟩ = some (.slice none 0 0) := (blk_cell BW5.out 0).trans rfl; have hf5 := blk_frozen BW5.out 0; have hz6 : w5.cell? ⟨gW, 1, none⟩ = some (.slice none 0 0) := (blk_cell BW5.out 1).trans rfl; have hf6 := blk_frozen BW5.out 1; have hz7 : w5.cell? ⟨gW, 2, none⟩ = some (.slice none 0 0) := (blk_cell BW5.out 2).trans rfl; have hf7 := blk_frozen BW5.out 2; have hz8 : w5.cell? ⟨gX, 0, none⟩ = some (.slice A0 l0.length c0) := (blk_cell BX5.out 0).trans rfl; have hf8 := blk_frozen BX5.out 0; have hz9 : w5.cell? ⟨gX, 1, none⟩ = some (.slice A1 l1.length c1) := (blk_cell BX5.out 1).trans rfl; have hf9 := blk_frozen BX5.out 1; have hnb0 := NBBX.out)
    | (go_at_call 18; have KS := (Kept.setCell (Kept.setCell (Kept.setCell (Kept.refl w5 (fun k => k = gW)) (p := ⟨gW, 0, none⟩) (.inl rfl) (.slice AW0 r0.length cW0)) (p := ⟨gW, 1, none⟩) (.inl rfl) (.slice AW1 r1.length cW1)) (p := ⟨gW, 2, none⟩) (.inl rfl) (.slice AW2 r2.length cW2)); (with_reducible refine (laws_toDfa.calls k _ _ l0 _ _ l1 m0 m1 _ ?s1 ?s2 ?s3 ?s4 G1.out).mono ?_); (case s1 => exact Kd.C_below HR0.out (below_set (below_set (below_set HB5.out GEgW.out) GEgW.out) GEgW.out)); (case s2 => exact HC0.out); (case s3 => exact Kd.C_below HR1.out (below_set (below_set (below_set HB5.out GEgW.out) GEgW.out) GEgW.out)); (case s4 => exact HC1.out); rintro e w6 ⟨u0, u1, rfl, j0, j1, hb⟩; have HB6 := Aside0.mk (below_step (below_set (below_set (below_set HB5.out GEgW.out) GEgW.out) GEgW.out) hb); have BX6 := Aside0.mk (blk_below (blk_kept BX5.out KS (fun h => by have z0_ := LX.out; have z1_ := SZ4.out; have z2_ := G_gW.out; have z3_ := L_gW.out; have z4_ := SZ5.out; omega)) hb); have FW06 := Aside0.mk (Kd.F_below (Kd.F_kept FW05.out KS (fun k hk h => by have z0_ := LX.out; have z1_ := SZ4.out; have z2_ := G_gW.out; have z3_ := L_gW.out; have z4_ := SZ5.out; omega)) hb); have FW16 := Aside0.mk (Kd.F_below (Kd.F_kept FW15.out KS (fun k hk h => by have z0_ := LX.out; have z1_ := SZ4.out; have z2_ := G_gW.out; have z3_ := L_gW.out; have z4_ := SZ5.out; omega)) hb); have FW26 := Aside0.mk (Kd.F_below (Kd.F_kept FW25.out KS (fun k hk h => by have z0_ := LX.out; have z1_ := SZ4.out; have z2_ := G_gW.out; have z3_ := L_gW.out; have z4_ := SZ5.out; omega)) hb); have BW6 := Aside0.mk (blk_below (blk_put (cs := #[.slice AW0 r0.length cW0, .slice AW1 r1.length cW1, .slice none 0 0]) (blk_put (cs := #[.slice AW0 r0.length cW0, .slice none 0 0, .slice none 0 0]) (blk_put (cs := #[.slice none 0 0, .slice none 0 0, .slice none 0 0]) BW5.out 0 (.slice AW0 r0.length cW0) rfl) 1 (.slice AW1 r1.length cW1) rfl) 2 (.slice AW2 r2.length cW2) rfl) hb); have RX06 := Aside0.mk (Kd.R_mono (Kd.R_bound j0) (fun k hk => (⟨hk.2.1, hk.2.2.1⟩ : _ ≤ k ∧ k < w6.heap.size))); have SX16 := Aside0.mk (Kd.S_mono (Kd.S_bound j1) (fun k hk => (⟨hk.2.1, hk.2.2.1⟩ : _ ≤ k ∧ k < w6.heap.size))); simp only [World.size_setCell] at RX06 SX16; have LW5 := Aside0.mk (show w.heap.size ≤ w5.heap.size from HB5.out.size); have SZ6 := Aside0.mk (show w5.heap.size ≤ w6.heap.size by have := hb.size; simpa using this); clear hb j0 j1 KS; clear HB5 BX5 FW05 FW15 FW25 BW5; obtain ⟨AX0, cX0, e0⟩ := Kd.R_slice RX06.out; subst e0; obtain ⟨AX1, cX1, e1⟩ := Kd.S_slice SX16.out; subst e1)
    | ((with_reducible refine gate_dst (N := 6) rfl ?_); refine box_event ?hg (N := 6) ?hd (cs := #[.slice none 0 0, .slice none 0 0]) (t := 49) ?hr ?_; (case hd => rfl); (case hg => rfl); (case hr => first | (go_simp; done) | (go_simp; rfl)); intro gY hg w7 hb_ hb; have HB7 := Aside0.mk (below_step HB6.out hb); have BX7 := Aside0.mk (blk_below BX6.out hb); have FW07 := Aside0.mk (Kd.F_below FW06.out hb); have FW17 := Aside0.mk (Kd.F_below FW16.out hb); have FW27 := Aside0.mk (Kd.F_below FW26.out hb); have BW7 := Aside0.mk (blk_below BW6.out hb); have RX07 := Aside0.mk (Kd.R_below RX06.out hb); have SX17 := Aside0.mk (Kd.S_below SX16.out hb); have BY7 := Aside0.mk hb_; have G_gY := Aside0.mk (show gY = w6.heap.size from hg); have GEgY := Aside0.mk (show w.heap.size ≤ gY by rw [hg]; exact below_size HB6.out); have L_gY := Aside0.mk (show gY < w7.heap.size from blk_lt hb_); have SZ7 := Aside0.mk hb.size; have NBBX := Aside0.mk (show gX ≠ gY by rw [hg]; exact Nat.ne_of_lt (blk_lt BX6.out)); have NBBW := Aside0.mk (show gW ≠ gY by rw [hg]; exact Nat.ne_of_lt (blk_lt BW6.out)); clear hb_ hb hg; clear HB6 BX6 FW06 FW16 FW26 BW6 RX06 SX16; have hz10 : w7.cell? ⟨gY, 0, none⟩ = some (.slice none 0 0) := (blk_cell BY7.out 0).trans rfl; have hf10 := blk_frozen BY7.out 0; have hz11 : w7.cell? ⟨gY, 1, none⟩ = some (.slice none 0 0) := (blk_cell BY7.out 1).trans rfl; have hf11 := blk_frozen BY7.out 1; have hnb0 := NBBX.out; have hnb1 := NBBW.out)
    | (go_at_call 19; have KS := (Kept.setCell (Kept.setCell (Kept.refl w7 (fun k => k = gY)) (p := ⟨gY, 0, none⟩) (.inl rfl) (.slice AX0 m0.length cX0)) (p := ⟨gY, 1, none⟩) (.inl rfl) (.slice AX1 m1.length cX1)); (with_reducible refine (build_monoid k _ _ m0 _ _ m1 r0 r1 r2 rb _ ?s1 ?s2 ?s3 ?s4 G3.out).mono ?_); (case s1 => exact (Kd.R_reads' (Kd.R_kept RX07.out KS (fun k hk h => by have z0_ := LX.out; have z1_ := SZ4.out; have z2_ := G_gW.out; have z3_ := L_gW.out; have z4_ := SZ5.out; have z5_ := SZ6.out; have z6_ := G_gY.out; have z7_ := L_gY.out; have z8_ := SZ7.out; omega))).2.2); (case s2 => exact (Kd.R_reads' RX07.out).2.1); (case s3 => exact (Kd.S_reads' (Kd.S_kept SX17.out KS (fun k hk h => by have z0_ := LX.out; have z1_ := SZ4.out; have z2_ := G_gW.out; have z3_ := L_gW.out; have z4_ := SZ5.out; have z5_ := SZ6.out; have z6_ := G_gY.out; have z7_ := L_gY.out; have z8_ := SZ7.out; omega))).2.2); (case s4 => exact (Kd.S_reads' SX17.out).2.1); rintro e w8 ⟨u0, u1, u2, P0, P1, P2, rfl, j0, j1, j2, d01, d12, hlt, hb⟩; have HB8 := Aside0.mk (below_step (below_set (below_set HB7.out GEgY.out) GEgY.out) hb); have BX8 := Aside0.mk (blk_below (blk_kept BX7.out KS (fun h => by have z0_ := LX.out; have z1_ := SZ4.out; have z2_ := G_gW.out; have z3_ := L_gW.out; have z4_ := SZ5.out; have z5_ := SZ6.out; have z6_ := G_gY.out; have z7_ := L_gY.out; have z8_ := SZ7.out; omega)) hb); have FW08 := Aside0.mk (Kd.F_below (Kd.F_kept FW07.out KS (fun k hk h => by have z0_ := LX.out; have z1_ := SZ4.out; have z2_ := G_gW.out; have z3_ := L_gW.out; have z4_ := SZ5.out; have z5_ := SZ6.out; have z6_ := G_gY.out; have z7_ := L_gY.out; have z8_ := SZ7.out; omega)) hb); have FW18 := Aside0.mk (Kd.F_below (Kd.F_kept FW17.out KS (fun k hk h => by have z0_ := LX.out; have z1_ := SZ4.out; have z2_ := G_gW.out; have z3_ := L_gW.out; have z4_ := SZ5.out; have z5_ := SZ6.out; have z6_ := G_gY.out; have z7_ := L_gY.out; have z8_ := SZ7.out; omega)) hb); have FW28 := Aside0.mk (Kd.F_below (Kd.F_kept FW27.out KS (fun k hk h => by have z0_ := LX.out; have z1_ := SZ4.out; have z2_ := G_gW.out; have z3_ := L_gW.out; have z4_ := SZ5.out; have z5_ := SZ6.out; have z6_ := G_gY.out; have z7_ := L_gY.out; have z8_ := SZ7.out; omega)) hb); have BW8 := Aside0.mk (blk_below (blk_kept BW7.out KS (fun h => by have z0_ := LX.out; have z1_ := SZ4.out; have z2_ := G_gW.out; have z3_ := L_gW.out; have z4_ := SZ5.out; have z5_ := SZ6.out; have z6_ := G_gY.out; have z7_ := L_gY.out; have z8_ := SZ7.out; omega)) hb); have RX08 := Aside0.mk (Kd.R_below (Kd.R_kept RX07.out KS (fun k hk h => by have z0_ := LX.out; have z1_ := SZ4.out; have z2_ := G_gW.out; have z3_ := L_gW.out; have z4_ := SZ5.out; have z5_ := SZ6.out; have z6_ := G_gY.out; have z7_ := L_gY.out; have z8_ := SZ7.out; omega)) hb); have SX18 := Aside0.mk (Kd.S_below (Kd.S_kept SX17.out KS (fun k hk h => by have z0_ := LX.out; have z1_ := SZ4.out; have z2_ := G_gW.out; have z3_ := L_gW.out; have z4_ := SZ5.out; have z5_ := SZ6.out; have z6_ := G_gY.out; have z7_ := L_gY.out; have z8_ := SZ7.out; omega)) hb); have BY8 := Aside0.mk (blk_below (blk_put (cs := #[.slice AX0 m0.length cX0, .slice none 0 0]) (blk_put (cs := #[.slice none 0 0, .slice none 0 0]) BY7.out 0 (.slice AX0 m0.length cX0) rfl) 1 (.slice AX1 m1.length cX1) rfl) hb); have SG08 := Aside0.mk j0; have SG18 := Aside0.mk j1; have SG28 := Aside0.mk j2; have PG01 := Aside0.mk d01; have PG12 := Aside0.mk d12; simp only [World.size_setCell] at hlt; have PGb := Aside0.mk hlt; have LW7 := Aside0.mk (show w.heap.size ≤ w7.heap.size from HB7.out.size); have SZ8 := Aside0.mk (show w7.heap.size ≤ w8.heap.size by have := hb.size; simpa using this); clear hb j0 j1 j2 d01 d12 hlt KS; clear HB7 BX7 FW07 FW17 FW27 BW7 RX07 SX17 BY7; obtain ⟨AG0, cG0, e0⟩ := Kd.S_slice SG08.out; subst e0; obtain ⟨AG1, cG1, e1⟩ := Kd.R_slice SG18.out; subst e1; obtain ⟨AG2, cG2, e2⟩ := Kd.S_slice SG28.out; subst e2)
    | ((with_reducible refine gate_dst (N := 7) rfl ?_); refine box_event ?hg (N := 7) ?hd (cs := #[.slice none 0 0, .slice none 0 0, .slice none 0 0]) (t := 34) ?hr ?_; (case hd => rfl); (case hg => rfl); (case hr => first | (go_simp; done) | (go_simp; rfl)); intro gG hg w9 hb_ hb; have HB9 := Aside0.mk (below_step HB8.out hb); have BX9 := Aside0.mk (blk_below BX8.out hb); have FW09 := Aside0.mk (Kd.F_below FW08.out hb); have FW19 := Aside0.mk (Kd.F_below FW18.out hb); have FW29 := Aside0.mk (Kd.F_below FW28.out hb); have BW9 := Aside0.mk (blk_below BW8.out hb); have RX09 := Aside0.mk (Kd.R_below RX08.out hb); have SX19 := Aside0.mk (Kd.S_below SX18.out hb); have BY9 := Aside0.mk (blk_below BY8.out hb); have SG09 := Aside0.mk (Kd.S_below SG08.out hb); have SG19 := Aside0.mk (Kd.R_below SG18.out hb); have SG29 := Aside0.mk (Kd.S_below SG28.out hb); have BG9 := Aside0.mk hb_; have G_gG := Aside0.mk (show gG = w8.heap.size from hg); have GEgG := Aside0.mk (show w.heap.size ≤ gG by rw [hg]; exact below_size HB8.out); have L_gG := Aside0.mk (show gG < w9.heap.size from blk_lt hb_); have SZ9 := Aside0.mk hb.size; have NBBX := Aside0.mk (show gX ≠ gG by rw [hg]; exact Nat.ne_of_lt (blk_lt BX8.out)); have NBBW := Aside0.mk (show gW ≠ gG by rw [hg]; exact Nat.ne_of_lt (blk_lt BW8.out)); have NBBY := Aside0.mk (show gY ≠ gG by rw [hg]; exact Nat.ne_of_lt (blk_lt BY8.out)); clear hb_ hb hg; clear HB8 BX8 FW08 FW18 FW28 BW8 RX08 SX18 BY8 SG08 SG18 SG28; have hz12 : w9.cell? ⟨gG, 0, none⟩ = some (.slice none 0 0) := (blk_cell BG9.out 0).trans rfl; have hf12 := blk_frozen BG9.out 0; have hz13 : w9.cell? ⟨gG, 1, none⟩ = some (.slice none 0 0) := (blk_cell BG9.out 1).trans rfl; have hf13 := blk_frozen BG9.out 1; have hz14 : w9.cell? ⟨gG, 2, none⟩ = some (.slice none 0 0) := (blk_cell BG9.out 2).trans rfl; have hf14 := blk_frozen BG9.out 2; have hz15 : w9.cell? ⟨gW, 0, none⟩ = some (.slice AW0 r0.length cW0) := (blk_cell BW9.out 0).trans rfl; have hf15 := blk_frozen BW9.out 0; have hz16 : w9.cell? ⟨gW, 1, none⟩ = some (.slice AW1 r1.length cW1) := (blk_cell BW9.out 1).trans rfl; have hf16 := blk_frozen BW9.out 1; have hz17 : w9.cell? ⟨gW, 2, none⟩ = some (.slice AW2 r2.length cW2) := (blk_cell BW9.out 2).trans rfl; have hf17 := blk_frozen BW9.out 2; have hnb0 := NBBX.out; have hnb1 := NBBW.out; have hnb2 := NBBY.out)
    | (go_at_call 20; have KS := (Kept.setCell (Kept.setCell (Kept.setCell (Kept.refl w9 (fun k => k = gG)) (p := ⟨gG, 0, none⟩) (.inl rfl) (.slice AG0 r0.length cG0)) (p := ⟨gG, 1, none⟩) (.inl rfl) (.slice AG1 r1.length cG1)) (p := ⟨gG, 2, none⟩) (.inl rfl) (.slice AG2 r2.length cG2)); (with_reducible refine (laws_eqMonoid.calls k _ _ r0 _ _ r1 _ _ r2 _ _ r0 _ _ r1 _ _ r2 true _ ?s1 ?s2 ?s3 ?s4 ?s5 ?s6 ?s7 ?s8 ?s9 ?s10 ?s11 ?s12 G4.out).mono ?_); (case s1 => exact (Kd.S_reads' (Kd.S_kept SG09.out KS (fun k hk h => by have q_ := PGb.out k (.inl hk); have z0_ := LX.out; have z1_ := SZ4.out; have z2_ := G_gW.out; have z3_ := L_gW.out; have z4_ := SZ5.out; have z5_ := SZ6.out; have z6_ := G_gY.out; have z7_ := L_gY.out; have z8_ := SZ7.out; have z9_ := SZ8.out; have z10_ := G_gG.out; have z11_ := L_gG.out; have z12_ := SZ9.out; omega))).2.2); (case s2 => exact (Kd.S_reads' SG09.out).2.1); (case s3 => exact (Kd.R_reads' (Kd.R_kept SG19.out KS (fun k hk h => by have q_ := PGb.out k (.inr (.inl hk)); have z0_ := LX.out; have z1_ := SZ4.out; have z2_ := G_gW.out; have z3_ := L_gW.out; have z4_ := SZ5.out; have z5_ := SZ6.out; have z6_ := G_gY.out; have z7_ := L_gY.out; have z8_ := SZ7.out; have z9_ := SZ8.out; have z10_ := G_gG.out; have z11_ := L_gG.out; have z12_ := SZ9.out; omega))).2.2); (case s4 => exact (Kd.R_reads' SG19.out).2.1); (case s5 => exact (Kd.S_reads' (Kd.S_kept SG29.out KS (fun k hk h => by have q_ := PGb.out k (.inr (.inr hk)); have z0_ := LX.out; have z1_ := SZ4.out; have z2_ := G_gW.out; have z3_ := L_gW.out; have z4_ := SZ5.out; have z5_ := SZ6.out; have z6_ := G_gY.out; have z7_ := L_gY.out; have z8_ := SZ7.out; have z9_ := SZ8.out; have z10_ := G_gG.out; have z11_ := L_gG.out; have z12_ := SZ9.out; omega))).2.2); (case s6 => exact (Kd.S_reads' SG29.out).2.1); (case s7 => exact Kd.F_now (Kd.F_kept FW09.out KS (fun k hk h => by have z0_ := LX.out; have z1_ := SZ4.out; have z2_ := G_gW.out; have z3_ := L_gW.out; have z4_ := SZ5.out; have z5_ := SZ6.out; have z6_ := G_gY.out; have z7_ := L_gY.out; have z8_ := SZ7.out; have z9_ := SZ8.out; have z10_ := G_gG.out; have z11_ := L_gG.out; have z12_ := SZ9.out; omega))); (case s8 => exact CW0.out); (case s9 => exact Kd.F_now (Kd.F_kept FW19.out KS (fun k hk h => by have z0_ := LX.out; have z1_ := SZ4.out; have z2_ := G_gW.out; have z3_ := L_gW.out; have z4_ := SZ5.out; have z5_ := SZ6.out; have z6_ := G_gY.out; have z7_ := L_gY.out; have z8_ := SZ7.out; have z9_ := SZ8.out; have z10_ := G_gG.out; have z11_ := L_gG.out; have z12_ := SZ9.out; omega))); (case s10 => exact CW1.out); (case s11 => exact Kd.F_now (Kd.F_kept FW29.out KS (fun k hk h => by have z0_ := LX.out; have z1_ := SZ4.out; have z2_ := G_gW.out; have z3_ := L_gW.out; have z4_ := SZ5.out; have z5_ := SZ6.out; have z6_ := G_gY.out; have z7_ := L_gY.out; have z8_ := SZ7.out; have z9_ := SZ8.out; have z10_ := G_gG.out; have z11_ := L_gG.out; have z12_ := SZ9.out; omega))); (case s12 => exact CW2.out); rintro e w10 ⟨rfl, hb⟩; have HB10 := Aside0.mk (below_step (below_set (below_set (below_set HB9.out GEgG.out) GEgG.out) GEgG.out) hb); have BX10 := Aside0.mk (blk_below (blk_kept BX9.out KS (fun h => by have z0_ := LX.out; have z1_ := SZ4.out; have z2_ := G_gW.out; have z3_ := L_gW.out; have z4_ := SZ5.out; have z5_ := SZ6.out; have z6_ := G_gY.out; have z7_ := L_gY.out; have z8_ := SZ7.out; have z9_ := SZ8.out; have z10_ := G_gG.out; have z11_ := L_gG.out; have z12_ := SZ9.out; omega)) hb); have FW010 := Aside0.mk (Kd.F_below (Kd.F_kept FW09.out KS (fun k hk h => by have z0_ := LX.out; have z1_ := SZ4.out; have z2_ := G_gW.out; have z3_ := L_gW.out; have z4_ := SZ5.out; have z5_ := SZ6.out; have z6_ := G_gY.out; have z7_ := L_gY.out; have z8_ := SZ7.out; have z9_ := SZ8.out; have z10_ := G_gG.out; have z11_ := L_gG.out; have z12_ := SZ9.out; omega)) hb); have FW110 := Aside0.mk (Kd.F_below (Kd.F_kept FW19.out KS (fun k hk h => by have z0_ := LX.out; have z1_ := SZ4.out; have z2_ := G_gW.out; have z3_ := L_gW.out; have z4_ := SZ5.out; have z5_ := SZ6.out; have z6_ := G_gY.out; have z7_ := L_gY.out; have z8_ := SZ7.out; have z9_ := SZ8.out; have z10_ := G_gG.out; have z11_ := L_gG.out; have z12_ := SZ9.out; omega)) hb); have FW210 := Aside0.mk (Kd.F_below (Kd.F_kept FW29.out KS (fun k hk h => by have z0_ := LX.out; have z1_ := SZ4.out; have z2_ := G_gW.out; have z3_ := L_gW.out; have z4_ := SZ5.out; have z5_ := SZ6.out; have z6_ := G_gY.out; have z7_ := L_gY.out; have z8_ := SZ7.out; have z9_ := SZ8.out; have z10_ := G_gG.out; have z11_ := L_gG.out; have z12_ := SZ9.out; omega)) hb); have BW10 := Aside0.mk (blk_below (blk_kept BW9.out KS (fun h => by have z0_ := LX.out; have z1_ := SZ4.out; have z2_ := G_gW.out; have z3_ := L_gW.out; have z4_ := SZ5.out; have z5_ := SZ6.out; have z6_ := G_gY.out; have z7_ := L_gY.out; have z8_ := SZ7.out; have z9_ := SZ8.out; have z10_ := G_gG.out; have z11_ := L_gG.out; have z12_ := SZ9.out; omega)) hb); have RX010 := Aside0.mk (Kd.R_below (Kd.R_kept RX09.out KS (fun k hk h => by have z0_ := LX.out; have z1_ := SZ4.out; have z2_ := G_gW.out; have z3_ := L_gW.out; have z4_ := SZ5.out; have z5_ := SZ6.out; have z6_ := G_gY.out; have z7_ := L_gY.out; have z8_ := SZ7.out; have z9_ := SZ8.out; have z10_ := G_gG.out; have z11_ := L_gG.out; have z12_ := SZ9.out; omega)) hb); have SX110 := Aside0.mk (Kd.S_below (Kd.S_kept SX19.out KS (fun k hk h => by have z0_ := LX.out; have z1_ := SZ4.out; have z2_ := G_gW.out; have z3_ := L_gW.out; have z4_ := SZ5.out; have z5_ := SZ6.out; have z6_ := G_gY.out; have z7_ := L_gY.out; have z8_ := SZ7.out; have z9_ := SZ8.out; have z10_ := G_gG.out; have z11_ := L_gG.out; have z12_ := SZ9.out; omega)) hb); have BY10 := Aside0.mk (blk_below (blk_kept BY9.out KS (fun h => by have z0_ := LX.out; have z1_ := SZ4.out; have z2_ := G_gW.out; have z3_ := L_gW.out; have z4_ := SZ5.out; have z5_ := SZ6.out; have z6_ := G_gY.out; have z7_ := L_gY.out; have z8_ := SZ7.out; have z9_ := SZ8.out; have z10_ := G_gG.out; have z11_ := L_gG.out; have z12_ := SZ9.out; omega)) hb); have SG010 := Aside0.mk (Kd.S_below (Kd.S_kept SG09.out KS (fun k hk h => by have q_ := PGb.out k (.inl hk); have z0_ := LX.out; have z1_ := SZ4.out; have z2_ := G_gW.out; have z3_ := L_gW.out; have z4_ := SZ5.out; have z5_ := SZ6.out; have z6_ := G_gY.out; have z7_ := L_gY.out; have z8_ := SZ7.out; have z9_ := SZ8.out; have z10_ := G_gG.out; have z11_ := L_gG.out; have z12_ := SZ9.out; omega)) hb); have SG110 := Aside0.mk (Kd.R_below (Kd.R_kept SG19.out KS (fun k hk h => by have q_ := PGb.out k (.inr (.inl hk)); have z0_ := LX.out; have z1_ := SZ4.out; have z2_ := G_gW.out; have z3_ := L_gW.out; have z4_ := SZ5.out; have z5_ := SZ6.out; have z6_ := G_gY.out; have z7_ := L_gY.out; have z8_ := SZ7.out; have z9_ := SZ8.out; have z10_ := G_gG.out; have z11_ := L_gG.out; have z12_ := SZ9.out; omega)) hb); have SG210 := Aside0.mk (Kd.S_below (Kd.S_kept SG29.out KS (fun k hk h => by have q_ := PGb.out k (.inr (.inr hk)); have z0_ := LX.out; have z1_ := SZ4.out; have z2_ := G_gW.out; have z3_ := L_gW.out; have z4_ := SZ5.out; have z5_ := SZ6.out; have z6_ := G_gY.out; have z7_ := L_gY.out; have z8_ := SZ7.out; have z9_ := SZ8.out; have z10_ := G_gG.out; have z11_ := L_gG.out; have z12_ := SZ9.out; omega)) hb); have BG10 := Aside0.mk (blk_below (blk_put (cs := #[.slice AG0 r0.length cG0, .slice AG1 r1.length cG1, .slice none 0 0]) (blk_put (cs := #[.slice AG0 r0.length cG0, .slice none 0 0, .slice none 0 0]) (blk_put (cs := #[.slice none 0 0, .slice none 0 0, .slice none 0 0]) BG9.out 0 (.slice AG0 r0.length cG0) rfl) 1 (.slice AG1 r1.length cG1) rfl) 2 (.slice AG2 r2.length cG2) rfl) hb); clear hb KS; clear HB9 BX9 FW09 FW19 FW29 BW9 RX09 SX19 BY9 SG09 SG19 SG29 BG9))
    go_ret
    exact ⟨rfl, HB2.out⟩
  · have hs0 : decide (sz < 0) = false := decide_eq_false hs
    rw [if_neg hs] at h
    clear hs
    obtain ⟨⟨m0, m1⟩, g1, h⟩ := Option.bind_eq_some_iff.mp h
    obtain ⟨⟨r0, r1, r2, rb⟩, g2, h⟩ := Option.bind_eq_some_iff.mp h
    obtain ⟨gr_, g3, h⟩ := Option.bind_eq_some_iff.mp h
    obtain ⟨e1_, g4, h⟩ := Option.bind_eq_some_iff.mp h
    obtain ⟨e2_, g5, h⟩ := Option.bind_eq_some_iff.mp h
    obtain ⟨⟨mk_, n0, n1⟩, g6, h⟩ := Option.bind_eq_some_iff.mp h
    obtain ⟨⟨mg_, p0, p1, p2⟩, g7, h⟩ := Option.bind_eq_some_iff.mp h
    obtain ⟨q_, g8, h⟩ := Option.bind_eq_some_iff.mp h
    dsimp only at g2 g3 g4 g5 g6 g7 g8 h
    by_cases hh : e1_ = true ∧ gr_ = (r0, r1, r2, rb) ∧ e2_ = true ∧ 0 ≤ mk_ ∧ 0 ≤ mg_ ∧ q_ = mg_
    · obtain ⟨rfl, rfl, rfl, hm, hg, rfl⟩ := hh
      dsimp only at g4 g7
      have hm0 : decide (mk_ < 0) = false := decide_eq_false (by omega)
      have hg0 : decide (q_ < 0) = false := decide_eq_false (by omega)
      have hg1 : (q_ != q_) = false := by simp
      have hb1 : (rb != rb) = false := by simp
      clear h hm hg
      have G1 := Aside0.mk g1
      have G2 := Aside0.mk g2
      have G3 := Aside0.mk g3
      have G4 := Aside0.mk g4
      have G5 := Aside0.mk g5
      have G6 := Aside0.mk g6
      have G7 := Aside0.mk g7
      have G8 := Aside0.mk g8
      clear g1 g2 g3 g4 g5 g6 g7 g8
      go_enter Try.func4, Try.ntmps4
      go_wp2_with (first
    | ((with_reducible refine gate_dst (N := 1) rfl ?_); refine box_event ?hg (N := 1) ?hd (cs := #[.slice A0 l0.length c0, .slice A1 l1.length c1]) (t := 45) ?hr ?_; (case hd => rfl); (case hg => rfl); (case hr => first | (go_simp; done) | (go_simp; rfl)); intro gX hg w1 hb_ hb; have HB1 := Aside0.mk (below_step HB0.out hb); have BX1 := Aside0.mk hb_; clear hb_ hb hg; have hz1 : w1.cell? ⟨gX, 0, none⟩ = some (.slice A0 l0.length c0) := (blk_cell BX1.out 0).trans rfl; have hf1 := blk_frozen BX1.out 0; have hz2 : w1.cell? ⟨gX, 1, none⟩ = some (.slice A1 l1.length c1) := (blk_cell BX1.out 1).trans rfl; have hf2 := blk_frozen BX1.out 1)
    | (go_at_call 16; (with_reducible refine (laws_szDfa.calls k _ _ l0 _ _ l1 1048576 sz _ ?s1 ?s2 ?s3 ?s4 G0.out).mono ?_); (case s1 => exact Kd.C_below HR0.out HB1.out); (case s2 => exact HC0.out); (case s3 => exact Kd.C_below HR1.out HB1.out); (case s4 => exact HC1.out); rintro e w2 ⟨rfl, hb⟩; have HB2 := Aside0.mk (below_step HB1.out hb); have BX2 := Aside0.mk (blk_below BX1.out hb); clear hb; clear HB1 BX1; have hz3 : w2.cell? ⟨gX, 0, none⟩ = some (.slice A0 l0.length c0) := (blk_cell BX2.out 0).trans rfl; have hf3 := blk_frozen BX2.out 0; have hz4 : w2.cell? ⟨gX, 1, none⟩ = some (.slice A1 l1.length c1) := (blk_cell BX2.out 1).trans rfl; have hf4 := blk_frozen BX2.out 1)
    | (go_at_call 18; (with_reducible refine (laws_toDfa.calls k _ _ l0 _ _ l1 m0 m1 _ ?s1 ?s2 ?s3 ?s4 G1.out).mono ?_); (case s1 => exact Kd.C_below HR0.out HB2.out); (case s2 => exact HC0.out); (case s3 => exact Kd.C_below HR1.out HB2.out); (case s4 => exact HC1.out); rintro e w3 ⟨u0, u1, rfl, j0, j1, hb⟩; have HB3 := Aside0.mk (below_step HB2.out hb); have BX3 := Aside0.mk (blk_below BX2.out hb); clear hb; clear HB2 BX2; obtain ⟨Y0, y0, e0⟩ := Kd.R_slice j0; subst e0; obtain ⟨Y1, y1, e1⟩ := Kd.S_slice j1; subst e1; have D0 := Aside0.mk (Kd.R_reads' j0).2.2; have E0 := Aside0.mk (Kd.R_reads' j0).2.1; have D1 := Aside0.mk (Kd.S_reads' j1).2.2; have E1 := Aside0.mk (Kd.S_reads' j1).2.1; clear j0 j1; have LX := Aside0.mk (show gX < w3.heap.size from blk_lt BX3.out))
    | (go_at_call 17; (with_reducible refine (spec_BuildMonoid.calls k _ _ m0 _ _ m1 r0 r1 r2 rb _ ?s1 ?s2 ?s3 ?s4 G2.out).mono ?_); (case s1 => exact D0.out); (case s2 => exact E0.out); (case s3 => exact D1.out); (case s4 => exact E1.out); rintro e w4 ⟨u0, u1, u2, rfl, j0, j1, j2, hb⟩; have HB4 := Aside0.mk (below_step HB3.out hb); have BX4 := Aside0.mk (blk_below BX3.out hb); have SZ4 := Aside0.mk hb.size; clear hb D0 E0 D1 E1; clear HB3 BX3; obtain ⟨AW0, cW0, e0⟩ := Kd.N_slice j0; subst e0; obtain ⟨AW1, cW1, e1⟩ := Kd.R_slice j1; subst e1; obtain ⟨AW2, cW2, e2⟩ := Kd.N_slice j2; subst e2; have FW04 := Aside0.mk (show Kd.F kRw w4 (fun k => w3.heap.size ≤ k ∧ k < w4.heap.size) _ _ _ from Kd.F_mono (Kd.F_bound (Kd.N_F j0)) (fun k hk => ⟨hk.1.1, hk.2⟩)); have FW14 := Aside0.mk (show Kd.F (Kd.int .i64) w4 (fun k => w3.heap.size ≤ k ∧ k < w4.heap.size) _ _ _ from Kd.F_mono (Kd.F_bound (Kd.R_F j1)) (fun k hk => ⟨hk.1, hk.2⟩)); have FW24 := Aside0.mk (show Kd.F kRw w4 (fun k => w3.heap.size ≤ k ∧ k < w4.heap.size) _ _ _ from Kd.F_mono (Kd.F_bound (Kd.N_F j2)) (fun k hk => ⟨hk.1.1, hk.2⟩)); have CW0 := Aside0.mk (Kd.N_reads' j0).2.1; have CW1 := Aside0.mk (Kd.R_reads' j1).2.1; have CW2 := Aside0.mk (Kd.N_reads' j2).2.1; clear j0 j1 j2)
    | ((with_reducible refine gate_dst (N := 4) rfl ?_); refine box_event ?hg (N := 4) ?hd (cs := #[.slice none 0 0, .slice none 0 0, .slice none 0 0]) (t := 34) ?hr ?_; (case hd => rfl); (case hg => rfl); (case hr => first | (go_simp; done) | (go_simp; rfl)); intro gW hg w5 hb_ hb; have HB5 := Aside0.mk (below_step HB4.out hb); have BX5 := Aside0.mk (blk_below BX4.out hb); have FW05 := Aside0.mk (Kd.F_below FW04.out hb); have FW15 := Aside0.mk (Kd.F_below FW14.out hb); have FW25 := Aside0.mk (Kd.F_below FW24.out hb); have BW5 := Aside0.mk hb_; have G_gW := Aside0.mk (show gW = w4.heap.size from hg); have GEgW := Aside0.mk (show w.heap.size ≤ gW by rw [hg]; exact below_size HB4.out); have L_gW := Aside0.mk (show gW < w5.heap.size from blk_lt hb_); have SZ5 := Aside0.mk hb.size; have NBBX := Aside0.mk (show gX ≠ gW by rw [hg]; exact Nat.ne_of_lt (blk_lt BX4.out)); clear hb_ hb hg; clear HB4 BX4 FW04 FW14 FW24; have hz5 : w5.cell? ⟨gW, 0, none⟩ = some (.slice none 0 0) := (blk_cell BW5.out 0).trans rfl; have hf5 := blk_frozen BW5.out 0; have hz6 : w5.cell? ⟨gW, 1, none⟩ = some (.slice none 0 0) := (blk_cell BW5.out 1).trans rfl; have hf6 := blk_frozen BW5.out 1; have hz7 : w5.cell? ⟨gW, 2, none⟩ = some (.slice none 0 0) := (blk_cell BW5.out 2).trans rfl; have hf7 := blk_frozen BW5.out 2; have hz8 : w5.cell? ⟨gX, 0, none⟩ = some (.slice A0 l0.length c0) := (blk_cell BX5.out 0).trans rfl; have hf8 := blk_frozen BX5.out 0; have hz9 : w5.cell? ⟨gX, 1, none⟩ = some (.slice A1 l1.length c1) := (blk_cell BX5.out 1).trans rfl; have hf9 := blk_frozen BX5.out 1; have hnb0 := NBBX.out)
    | (go_at_call 18; have KS := (Kept.setCell (Kept.setCell (Kept.setCell (Kept.refl w5 (fun k => k = gW)) (p := ⟨gW, 0, none⟩) (.inl rfl) (.slice AW0 r0.length cW0)) (p := ⟨gW, 1, none⟩) (.inl rfl) (.slice AW1 r1.length cW1)) (p := ⟨gW, 2, none⟩) (.inl rfl) (.slice AW2 r2.length cW2)); (with_reducible refine (laws_toDfa.calls k _ _ l0 _ _ l1 m0 m1 _ ?s1 ?s2 ?s3 ?s4 G1.out).mono ?_); (case s1 => exact Kd.C_below HR0.out (below_set (below_set (below_set HB5.out GEgW.out) GEgW.out) GEgW.out)); (case s2 => exact HC0.out); (case s3 => exact Kd.C_below HR1.out (below_set (below_set (below_set HB5.out GEgW.out) GEgW.out) GEgW.out)); (case s4 => exact HC1.out); rintro e w6 ⟨u0, u1, rfl, j0, j1, hb⟩; have HB6 := Aside0.mk (below_step (below_set (below_set (below_set HB5.out GEgW.out) GEgW.out) GEgW.out) hb); have BX6 := Aside0.mk (blk_below (blk_kept BX5.out KS (fun h => by have z0_ := LX.out; have z1_ := SZ4.out; have z2_ := G_gW.out; have z3_ := L_gW.out; have z4_ := SZ5.out; omega)) hb); have FW06 := Aside0.mk (Kd.F_below (Kd.F_kept FW05.out KS (fun k hk h => by have z0_ := LX.out; have z1_ := SZ4.out; have z2_ := G_gW.out; have z3_ := L_gW.out; have z4_ := SZ5.out; omega)) hb); have FW16 := Aside0.mk (Kd.F_below (Kd.F_kept FW15.out KS (fun k hk h => by have z0_ := LX.out; have z1_ := SZ4.out; have z2_ := G_gW.out; have z3_ := L_gW.out; have z4_ := SZ5.out; omega)) hb); have FW26 := Aside0.mk (Kd.F_below (Kd.F_kept FW25.out KS (fun k hk h => by have z0_ := LX.out; have z1_ := SZ4.out; have z2_ := G_gW.out; have z3_ := L_gW.out; have z4_ := SZ5.out; omega)) hb); have BW6 := Aside0.mk (blk_below (blk_put (cs := #[.slice AW0 r0.length cW0, .slice AW1 r1.length cW1, .slice none 0 0]) (blk_put (cs := #[.slice AW0 r0.length cW0, .slice none 0 0, .slice none 0 0]) (blk_put (cs := #[.slice none 0 0, .slice none 0 0, .slice none 0 0]) BW5.out 0 (.slice AW0 r0.length cW0) rfl) 1 (.slice AW1 r1.length cW1) rfl) 2 (.slice AW2 r2.length cW2) rfl) hb); have RX06 := Aside0.mk (Kd.R_mono (Kd.R_bound j0) (fun k hk => (⟨hk.2.1, hk.2.2.1⟩ : _ ≤ k ∧ k < w6.heap.size))); have SX16 := Aside0.mk (Kd.S_mono (Kd.S_bound j1) (fun k hk => (⟨hk.2.1, hk.2.2.1⟩ : _ ≤ k ∧ k < w6.heap.size))); simp only [World.size_setCell] at RX06 SX16; have LW5 := Aside0.mk (show w.heap.size ≤ w5.heap.size from HB5.out.size); have SZ6 := Aside0.mk (show w5.heap.size ≤ w6.heap.size by have := hb.size; simpa using this); clear hb j0 j1 KS; clear HB5 BX5 FW05 FW15 FW25 BW5; obtain ⟨AX0, cX0, e0⟩ := Kd.R_slice RX06.out; subst e0; obtain ⟨AX1, cX1, e1⟩ := Kd.S_slice SX16.out; subst e1)
    | ((with_reducible refine gate_dst (N := 6) rfl ?_); refine box_event ?hg (N := 6) ?hd (cs := #[.slice none 0 0, .slice none 0 0]) (t := 49) ?hr ?_; (case hd => rfl); (case hg => rfl); (case hr => first | (go_simp; done) | (go_simp; rfl)); intro gY hg w7 hb_ hb; have HB7 := Aside0.mk (below_step HB6.out hb); have BX7 := Aside0.mk (blk_below BX6.out hb); have FW07 := Aside0.mk (Kd.F_below FW06.out hb); have FW17 := Aside0.mk (Kd.F_below FW16.out hb); have FW27 := Aside0.mk (Kd.F_below FW26.out hb); have BW7 := Aside0.mk (blk_below BW6.out hb); have RX07 := Aside0.mk (Kd.R_below RX06.out hb); have SX17 := Aside0.mk (Kd.S_below SX16.out hb); have BY7 := Aside0.mk hb_; have G_gY := Aside0.mk (show gY = w6.heap.size from hg); have GEgY := Aside0.mk (show w.heap.size ≤ gY by rw [hg]; exact below_size HB6.out); have L_gY := Aside0.mk (show gY < w7.heap.size from blk_lt hb_); have SZ7 := Aside0.mk hb.size; have NBBX := Aside0.mk (show gX ≠ gY by rw [hg]; exact Nat.ne_of_lt (blk_lt BX6.out)); have NBBW := Aside0.mk (show gW ≠ gY by rw [hg]; exact Nat.ne_of_lt (blk_lt BW6.out)); clear hb_ hb hg; clear HB6 BX6 FW06 FW16 FW26 BW6 RX06 SX16; have hz10 : w7.cell? ⟨gY, 0, none⟩ = some (.slice none 0 0) := (blk_cell BY7.out 0).trans rfl; have hf10 := blk_frozen BY7.out 0; have hz11 : w7.cell? ⟨gY, 1, none⟩ = some (.slice none 0 0) := (blk_cell BY7.out 1).trans rfl; have hf11 := blk_frozen BY7.out 1; have hnb0 := NBBX.out; have hnb1 := NBBW.out)
    | (go_at_call 19; have KS := (Kept.setCell (Kept.setCell (Kept.refl w7 (fun k => k = gY)) (p := ⟨gY, 0, none⟩) (.inl rfl) (.slice AX0 m0.length cX0)) (p := ⟨gY, 1, none⟩) (.inl rfl) (.slice AX1 m1.length cX1)); (with_reducible refine (build_monoid k _ _ m0 _ _ m1 r0 r1 r2 rb _ ?s1 ?s2 ?s3 ?s4 G3.out).mono ?_); (case s1 => exact (Kd.R_reads' (Kd.R_kept RX07.out KS (fun k hk h => by have z0_ := LX.out; have z1_ := SZ4.out; have z2_ := G_gW.out; have z3_ := L_gW.out; have z4_ := SZ5.out; have z5_ := SZ6.out; have z6_ := G_gY.out; have z7_ := L_gY.out; have z8_ := SZ7.out; omega))).2.2); (case s2 => exact (Kd.R_reads' RX07.out).2.1); (case s3 => exact (Kd.S_reads' (Kd.S_kept SX17.out KS (fun k hk h => by have z0_ := LX.out; have z1_ := SZ4.out; have z2_ := G_gW.out; have z3_ := L_gW.out; have z4_ := SZ5.out; have z5_ := SZ6.out; have z6_ := G_gY.out; have z7_ := L_gY.out; have z8_ := SZ7.out; omega))).2.2); (case s4 => exact (Kd.S_reads' SX17.out).2.1); rintro e w8 ⟨u0, u1, u2, P0, P1, P2, rfl, j0, j1, j2, d01, d12, hlt, hb⟩; have HB8 := Aside0.mk (below_step (below_set (below_set HB7.out GEgY.out) GEgY.out) hb); have BX8 := Aside0.mk (blk_below (blk_kept BX7.out KS (fun h => by have z0_ := LX.out; have z1_ := SZ4.out; have z2_ := G_gW.out; have z3_ := L_gW.out; have z4_ := SZ5.out; have z5_ := SZ6.out; have z6_ := G_gY.out; have z7_ := L_gY.out; have z8_ := SZ7.out; omega)) hb); have FW08 := Aside0.mk (Kd.F_below (Kd.F_kept FW07.out KS (fun k hk h => by have z0_ := LX.out; have z1_ := SZ4.out; have z2_ := G_gW.out; have z3_ := L_gW.out; have z4_ := SZ5.out; have z5_ := SZ6.out; have z6_ := G_gY.out; have z7_ := L_gY.out; have z8_ := SZ7.out; omega)) hb); have FW18 := Aside0.mk (Kd.F_below (Kd.F_kept FW17.out KS (fun k hk h => by have z0_ := LX.out; have z1_ := SZ4.out; have z2_ := G_gW.out; have z3_ := L_gW.out; have z4_ := SZ5.out; have z5_ := SZ6.out; have z6_ := G_gY.out; have z7_ := L_gY.out; have z8_ := SZ7.out; omega)) hb); have FW28 := Aside0.mk (Kd.F_below (Kd.F_kept FW27.out KS (fun k hk h => by have z0_ := LX.out; have z1_ := SZ4.out; have z2_ := G_gW.out; have z3_ := L_gW.out; have z4_ := SZ5.out; have z5_ := SZ6.out; have z6_ := G_gY.out; have z7_ := L_gY.out; have z8_ := SZ7.out; omega)) hb); have BW8 := Aside0.mk (blk_below (blk_kept BW7.out KS (fun h => by have z0_ := LX.out; have z1_ := SZ4.out; have z2_ := G_gW.out; have z3_ := L_gW.out; have z4_ := SZ5.out; have z5_ := SZ6.out; have z6_ := G_gY.out; have z7_ := L_gY.out; have z8_ := SZ7.out; omega)) hb); have RX08 := Aside0.mk (Kd.R_below (Kd.R_kept RX07.out KS (fun k hk h => by have z0_ := LX.out; have z1_ := SZ4.out; have z2_ := G_gW.out; have z3_ := L_gW.out; have z4_ := SZ5.out; have z5_ := SZ6.out; have z6_ := G_gY.out; have z7_ := L_gY.out; have z8_ := SZ7.out; omega)) hb); have SX18 := Aside0.mk (Kd.S_below (Kd.S_kept SX17.out KS (fun k hk h => by have z0_ := LX.out; have z1_ := SZ4.out; have z2_ := G_gW.out; have z3_ := L_gW.out; have z4_ := SZ5.out; have z5_ := SZ6.out; have z6_ := G_gY.out; have z7_ := L_gY.out; have z8_ := SZ7.out; omega)) hb); have BY8 := Aside0.mk (blk_below (blk_put (cs := #[.slice AX0 m0.length cX0, .slice none 0 0]) (blk_put (cs := #[.slice none 0 0, .slice none 0 0]) BY7.out 0 (.slice AX0 m0.length cX0) rfl) 1 (.slice AX1 m1.length cX1) rfl) hb); have SG08 := Aside0.mk j0; have SG18 := Aside0.mk j1; have SG28 := Aside0.mk j2; have PG01 := Aside0.mk d01; have PG12 := Aside0.mk d12; simp only [World.size_setCell] at hlt; have PGb := Aside0.mk hlt; have LW7 := Aside0.mk (show w.heap.size ≤ w7.heap.size from HB7.out.size); have SZ8 := Aside0.mk (show w7.heap.size ≤ w8.heap.size by have := hb.size; simpa using this); clear hb j0 j1 j2 d01 d12 hlt KS; clear HB7 BX7 FW07 FW17 FW27 BW7 RX07 SX17 BY7; obtain ⟨AG0, cG0, e0⟩ := Kd.S_slice SG08.out; subst e0; obtain ⟨AG1, cG1, e1⟩ := Kd.R_slice SG18.out; subst e1; obtain ⟨AG2, cG2, e2⟩ := Kd.S_slice SG28.out; subst e2)
    | ((with_reducible refine gate_dst (N := 7) rfl ?_); refine box_event ?hg (N := 7) ?hd (cs := #[.slice none 0 0, .slice none 0 0, .slice none 0 0]) (t := 34) ?hr ?_; (case hd => rfl); (case hg => rfl); (case hr => first | (go_simp; done) | (go_simp; rfl)); intro gG hg w9 hb_ hb; have HB9 := Aside0.mk (below_step HB8.out hb); have BX9 := Aside0.mk (blk_below BX8.out hb); have FW09 := Aside0.mk (Kd.F_below FW08.out hb); have FW19 := Aside0.mk (Kd.F_below FW18.out hb); have FW29 := Aside0.mk (Kd.F_below FW28.out hb); have BW9 := Aside0.mk (blk_below BW8.out hb); have RX09 := Aside0.mk (Kd.R_below RX08.out hb); have SX19 := Aside0.mk (Kd.S_below SX18.out hb); have BY9 := Aside0.mk (blk_below BY8.out hb); have SG09 := Aside0.mk (Kd.S_below SG08.out hb); have SG19 := Aside0.mk (Kd.R_below SG18.out hb); have SG29 := Aside0.mk (Kd.S_below SG28.out hb); have BG9 := Aside0.mk hb_; have G_gG := Aside0.mk (show gG = w8.heap.size from hg); have GEgG := Aside0.mk (show w.heap.size ≤ gG by rw [hg]; exact below_size HB8.out); have L_gG := Aside0.mk (show gG < w9.heap.size from blk_lt hb_); have SZ9 := Aside0.mk hb.size; have NBBX := Aside0.mk (show gX ≠ gG by rw [hg]; exact Nat.ne_of_lt (blk_lt BX8.out)); have NBBW := Aside0.mk (show gW ≠ gG by rw [hg]; exact Nat.ne_of_lt (blk_lt BW8.out)); have NBBY := Aside0.mk (show gY ≠ gG by rw [hg]; exact Nat.ne_of_lt (blk_lt BY8.out)); clear hb_ hb hg; clear HB8 BX8 FW08 FW18 FW28 BW8 RX08 SX18 BY8 SG08 SG18 SG28; have hz12 : w9.cell? ⟨gG, 0, none⟩ = some (.slice none 0 0) := (blk_cell BG9.out 0).trans rfl; have hf12 := blk_frozen BG9.out 0; have hz13 : w9.cell? ⟨gG, 1, none⟩ = some (.slice none 0 0) := (blk_cell BG9.out 1).trans rfl; have hf13 := blk_frozen BG9.out 1; have hz14 : w9.cell? ⟨gG, 2, none⟩ = some (.slice none 0 0) := (blk_cell BG9.out 2).trans rfl; have hf14 := blk_frozen BG9.out 2; have hz15 : w9.cell? ⟨gW, 0, none⟩ = some (.slice AW0 r0.length cW0) := (blk_cell BW9.out 0).trans rfl; have hf15 := blk_frozen BW9.out 0; have hz16 : w9.cell? ⟨gW, 1, none⟩ = some (.slice AW1 r1.length cW1) := (blk_cell BW9.out 1).trans rfl; have hf16 := blk_frozen BW9.out 1; have hz17 : w9.cell? ⟨gW, 2, none⟩ = some (.slice AW2 r2.length cW2) := (blk_cell BW9.out 2).trans rfl; have hf17 := blk_frozen BW9.out 2; have hnb0 := NBBX.out; have hnb1 := NBBW.out; have hnb2 := NBBY.out)
    | (go_at_call 20; have KS := (Kept.setCell (Kept.setCell (Kept.setCell (Kept.refl w9 (fun k => k = gG)) (p := ⟨gG, 0, none⟩) (.inl rfl) (.slice AG0 r0.length cG0)) (p := ⟨gG, 1, none⟩) (.inl rfl) (.slice AG1 r1.length cG1)) (p := ⟨gG, 2, none⟩) (.inl rfl) (.slice AG2 r2.length cG2)); (with_reducible refine (laws_eqMonoid.calls k _ _ r0 _ _ r1 _ _ r2 _ _ r0 _ _ r1 _ _ r2 true _ ?s1 ?s2 ?s3 ?s4 ?s5 ?s6 ?s7 ?s8 ?s9 ?s10 ?s11 ?s12 G4.out).mono ?_); (case s1 => exact (Kd.S_reads' (Kd.S_kept SG09.out KS (fun k hk h => by have q_ := PGb.out k (.inl hk); have z0_ := LX.out; have z1_ := SZ4.out; have z2_ := G_gW.out; have z3_ := L_gW.out; have z4_ := SZ5.out; have z5_ := SZ6.out; have z6_ := G_gY.out; have z7_ := L_gY.out; have z8_ := SZ7.out; have z9_ := SZ8.out; have z10_ := G_gG.out; have z11_ := L_gG.out; have z12_ := SZ9.out; omega))).2.2); (case s2 => exact (Kd.S_reads' SG09.out).2.1); (case s3 => exact (Kd.R_reads' (Kd.R_kept SG19.out KS (fun k hk h => by have q_ := PGb.out k (.inr (.inl hk)); have z0_ := LX.out; have z1_ := SZ4.out; have z2_ := G_gW.out; have z3_ := L_gW.out; have z4_ := SZ5.out; have z5_ := SZ6.out; have z6_ := G_gY.out; have z7_ := L_gY.out; have z8_ := SZ7.out; have z9_ := SZ8.out; have z10_ := G_gG.out; have z11_ := L_gG.out; have z12_ := SZ9.out; omega))).2.2); (case s4 => exact (Kd.R_reads' SG19.out).2.1); (case s5 => exact (Kd.S_reads' (Kd.S_kept SG29.out KS (fun k hk h => by have q_ := PGb.out k (.inr (.inr hk)); have z0_ := LX.out; have z1_ := SZ4.out; have z2_ := G_gW.out; have z3_ := L_gW.out; have z4_ := SZ5.out; have z5_ := SZ6.out; have z6_ := G_gY.out; have z7_ := L_gY.out; have z8_ := SZ7.out; have z9_ := SZ8.out; have z10_ := G_gG.out; have z11_ := L_gG.out; have z12_ := SZ9.out; omega))).2.2); (case s6 => exact (Kd.S_reads' SG29.out).2.1); (case s7 => exact Kd.F_now (Kd.F_kept FW09.out KS (fun k hk h => by have z0_ := LX.out; have z1_ := SZ4.out; have z2_ := G_gW.out; have z3_ := L_gW.out; have z4_ := SZ5.out; have z5_ := SZ6.out; have z6_ := G_gY.out; have z7_ := L_gY.out; have z8_ := SZ7.out; have z9_ := SZ8.out; have z10_ := G_gG.out; have z11_ := L_gG.out; have z12_ := SZ9.out; omega))); (case s8 => exact CW0.out); (case s9 => exact Kd.F_now (Kd.F_kept FW19.out KS (fun k hk h => by have z0_ := LX.out; have z1_ := SZ4.out; have z2_ := G_gW.out; have z3_ := L_gW.out; have z4_ := SZ5.out; have z5_ := SZ6.out; have z6_ := G_gY.out; have z7_ := L_gY.out; have z8_ := SZ7.out; have z9_ := SZ8.out; have z10_ := G_gG.out; have z11_ := L_gG.out; have z12_ := SZ9.out; omega))); (case s10 => exact CW1.out); (case s11 => exact Kd.F_now (Kd.F_kept FW29.out KS (fun k hk h => by have z0_ := LX.out; have z1_ := SZ4.out; have z2_ := G_gW.out; have z3_ := L_gW.out; have z4_ := SZ5.out; have z5_ := SZ6.out; have z6_ := G_gY.out; have z7_ := L_gY.out; have z8_ := SZ7.out; have z9_ := SZ8.out; have z10_ := G_gG.out; have z11_ := L_gG.out; have z12_ := SZ9.out; omega))); (case s12 => exact CW2.out); rintro e w10 ⟨rfl, hb⟩; have HB10 := Aside0.mk (below_step (below_set (below_set (below_set HB9.out GEgG.out) GEgG.out) GEgG.out) hb); have BX10 := Aside0.mk (blk_below (blk_kept BX9.out KS (fun h => by have z0_ := LX.out; have z1_ := SZ4.out; have z2_ := G_gW.out; have z3_ := L_gW.out; have z4_ := SZ5.out; have z5_ := SZ6.out; have z6_ := G_gY.out; have z7_ := L_gY.out; have z8_ := SZ7.out; have z9_ := SZ8.out; have z10_ := G_gG.out; have z11_ := L_gG.out; have z12_ := SZ9.out; omega)) hb); have FW010 := Aside0.mk (Kd.F_below (Kd.F_kept FW09.out KS (fun k hk h => by have z0_ := LX.out; have z1_ := SZ4.out; have z2_ := G_gW.out; have z3_ := L_gW.out; have z4_ := SZ5.out; have z5_ := SZ6.out; have z6_ := G_gY.out; have z7_ := L_gY.out; have z8_ := SZ7.out; have z9_ := SZ8.out; have z10_ := G_gG.out; have z11_ := L_gG.out; have z12_ := SZ9.out; omega)) hb); have FW110 := Aside0.mk (Kd.F_below (Kd.F_kept FW19.out KS (fun k hk h => by have z0_ := LX.out; have z1_ := SZ4.out; have z2_ := G_gW.out; have z3_ := L_gW.out; have z4_ := SZ5.out; have z5_ := SZ6.out; have z6_ := G_gY.out; have z7_ := L_gY.out; have z8_ := SZ7.out; have z9_ := SZ8.out; have z10_ := G_gG.out; have z11_ := L_gG.out; have z12_ := SZ9.out; omega)) hb); have FW210 := Aside0.mk (Kd.F_below (Kd.F_kept FW29.out KS (fun k hk h => by have z0_ := LX.out; have z1_ := SZ4.out; have z2_ := G_gW.out; have z3_ := L_gW.out; have z4_ := SZ5.out; have z5_ := SZ6.out; have z6_ := G_gY.out; have z7_ := L_gY.out; have z8_ := SZ7.out; have z9_ := SZ8.out; have z10_ := G_gG.out; have z11_ := L_gG.out; have z12_ := SZ9.out; omega)) hb); have BW10 := Aside0.mk (blk_below (blk_kept BW9.out KS (fun h => by have z0_ := LX.out; have z1_ := SZ4.out; have z2_ := G_gW.out; have z3_ := L_gW.out; have z4_ := SZ5.out; have z5_ := SZ6.out; have z6_ := G_gY.out; have z7_ := L_gY.out; have z8_ := SZ7.out; have z9_ := SZ8.out; have z10_ := G_gG.out; have z11_ := L_gG.out; have z12_ := SZ9.out; omega)) hb); have RX010 := Aside0.mk (Kd.R_below (Kd.R_kept RX09.out KS (fun k hk h => by have z0_ := LX.out; have z1_ := SZ4.out; have z2_ := G_gW.out; have z3_ := L_gW.out; have z4_ := SZ5.out; have z5_ := SZ6.out; have z6_ := G_gY.out; have z7_ := L_gY.out; have z8_ := SZ7.out; have z9_ := SZ8.out; have z10_ := G_gG.out; have z11_ := L_gG.out; have z12_ := SZ9.out; omega)) hb); have SX110 := Aside0.mk (Kd.S_below (Kd.S_kept SX19.out KS (fun k hk h => by have z0_ := LX.out; have z1_ := SZ4.out; have z2_ := G_gW.out; have z3_ := L_gW.out; have z4_ := SZ5.out; have z5_ := SZ6.out; have z6_ := G_gY.out; have z7_ := L_gY.out; have z8_ := SZ7.out; have z9_ := SZ8.out; have z10_ := G_gG.out; have z11_ := L_gG.out; have z12_ := SZ9.out; omega)) hb); have BY10 := Aside0.mk (blk_below (blk_kept BY9.out KS (fun h => by have z0_ := LX.out; have z1_ := SZ4.out; have z2_ := G_gW.out; have z3_ := L_gW.out; have z4_ := SZ5.out; have z5_ := SZ6.out; have z6_ := G_gY.out; have z7_ := L_gY.out; have z8_ := SZ7.out; have z9_ := SZ8.out; have z10_ := G_gG.out; have z11_ := L_gG.out; have z12_ := SZ9.out; omega)) hb); have SG010 := Aside0.mk (Kd.S_below (Kd.S_kept SG09.out KS (fun k hk h => by have q_ := PGb.out k (.inl hk); have z0_ := LX.out; have z1_ := SZ4.out; have z2_ := G_gW.out; have z3_ := L_gW.out; have z4_ := SZ5.out; have z5_ := SZ6.out; have z6_ := G_gY.out; have z7_ := L_gY.out; have z8_ := SZ7.out; have z9_ := SZ8.out; have z10_ := G_gG.out; have z11_ := L_gG.out; have z12_ := SZ9.out; omega)) hb); have SG110 := Aside0.mk (Kd.R_below (Kd.R_kept SG19.out KS (fun k hk h => by have q_ := PGb.out k (.inr (.inl hk)); have z0_ := LX.out; have z1_ := SZ4.out; have z2_ := G_gW.out; have z3_ := L_gW.out; have z4_ := SZ5.out; have z5_ := SZ6.out; have z6_ := G_gY.out; have z7_ := L_gY.out; have z8_ := SZ7.out; have z9_ := SZ8.out; have z10_ := G_gG.out; have z11_ := L_gG.out; have z12_ := SZ9.out; omega)) hb); have SG210 := Aside0.mk (Kd.S_below (Kd.S_kept SG29.out KS (fun k hk h => by have q_ := PGb.out k (.inr (.inr hk)); have z0_ := LX.out; have z1_ := SZ4.out; have z2_ := G_gW.out; have z3_ := L_gW.out; have z4_ := SZ5.out; have z5_ := SZ6.out; have z6_ := G_gY.out; have z7_ := L_gY.out; have z8_ := SZ7.out; have z9_ := SZ8.out; have z10_ := G_gG.out; have z11_ := L_gG.out; have z12_ := SZ9.out; omega)) hb); have BG10 := Aside0.mk (blk_below (blk_put (cs := #[.slice AG0 r0.length cG0, .slice AG1 r1.length cG1, .slice none 0 0]) (blk_put (cs := #[.slice AG0 r0.length cG0, .slice none 0 0, .slice none 0 0]) (blk_put (cs := #[.slice none 0 0, .slice none 0 0, .slice none 0 0]) BG9.out 0 (.slice AG0 r0.length cG0) rfl) 1 (.slice AG1 r1.length cG1) rfl) 2 (.slice AG2 r2.length cG2) rfl) hb); clear hb KS; clear HB9 BX9 FW09 FW19 FW29 BW9 RX09 SX19 BY9 SG09 SG19 SG29 BG9))
      refine start_ (n := 5) (S := fun w' => w'.cell? ⟨gY, 0, none⟩ = some (.slice AX0 m0.length cX0) ∧ w'.cell? ⟨gY, 1, none⟩ = some (.slice AX1 m1.length cX1) ∧ w'.cell? ⟨gX, 0, none⟩ = some (.slice A0 l0.length c0) ∧ w'.cell? ⟨gX, 1, none⟩ = some (.slice A1 l1.length c1)) (ds := []) #[false, false, false, false, false] (by kernel_rfl) rfl rfl ⟨(blk_cell BY10.out 0).trans rfl, (blk_cell BY10.out 1).trans rfl, (blk_cell BX10.out 0).trans rfl, (blk_cell BX10.out 1).trans rfl⟩ (fun hHeld => ?_)
      have HB80 := Aside0.mk (below_drew1 HB10.out)
      have BX80 := Aside0.mk (blk_drew BX10.out)
      have FW080 := Aside0.mk (Kd.F_drew FW010.out)
      have FW180 := Aside0.mk (Kd.F_drew FW110.out)
      have FW280 := Aside0.mk (Kd.F_drew FW210.out)
      have BW80 := Aside0.mk (blk_drew BW10.out)
      have RX080 := Aside0.mk (Kd.R_drew RX010.out)
      have SX180 := Aside0.mk (Kd.S_drew SX110.out)
      have BY80 := Aside0.mk (blk_drew BY10.out)
      have SG080 := Aside0.mk (Kd.S_drew SG010.out)
      have SG180 := Aside0.mk (Kd.R_drew SG110.out)
      have SG280 := Aside0.mk (Kd.S_drew SG210.out)
      have BG80 := Aside0.mk (blk_drew BG10.out)
      clear HB10 BX10 FW010 FW110 FW210 BW10 RX010 SX110 BY10 SG010 SG110 SG210 BG10
      generalize w10.drew = wq at HB80 BX80 FW080 FW180 FW280 BW80 RX080 SX180 BY80 SG080 SG180 SG280 BG80 hHeld ⊢
      refine take_ (i := 0) (N := some 41) (v := ?_) (a' := ?_) #[true, false, false, false, false] rfl rfl (by kernel_rfl) (fun _ _ _ h => h) (Or.inl ⟨by rfl, ?_⟩) hHeld ?_ ?_
      rotate_left
      · rintro w' ⟨s0_, s1_, s2_, s3_⟩
        go_simp
        first | with_reducible rfl | (rw [if_neg (by omega)]; done)
      rotate_left
      · simp only [Act.put, List.setIfInBounds_toArray, List.set_cons_zero, List.set_cons_succ, i64_w, i32_w]
        rfl
      refine take_ (i := 1) (N := some 42) (v := ?_) (a' := ?_) #[true, true, false, false, false] rfl rfl (by kernel_rfl) (fun _ _ _ h => h) (Or.inl ⟨by rfl, ?_⟩) hHeld ?_ ?_
      rotate_left
      · rintro w' ⟨s0_, s1_, s2_, s3_⟩
        go_simp
        first | with_reducible rfl | (rw [if_neg (by omega)]; done)
      rotate_left
      · simp only [Act.put, List.setIfInBounds_toArray, List.set_cons_zero, List.set_cons_succ, i64_w, i32_w]
        rfl
      refine one_ (i := 2) (N := some 43) #[true, true, true, false, false] rfl rfl (by kernel_rfl) (by decide) (fun K hK => ?_)
      refine goes_ Try.func18 (by kernel_rfl) rfl #[.agg #[.slice A0 l0.length c0, .slice A1 l1.length c1]] (by rfl) rfl rfl (by (try simp only [List.map_toArray, List.map_cons, List.map_nil]); first | done | rfl) ?_
      with_reducible refine (laws_toDfa.calls k _ _ l0 _ _ l1 m0 m1 _ ?s1 ?s2 ?s3 ?s4 G1.out).mono ?_
      (case s1 => exact Kd.C_below HR0.out HB80.out)
      (case s2 => exact HC0.out)
      (case s3 => exact Kd.C_below HR1.out HB80.out)
      (case s4 => exact HC1.out)
      rintro e wa ⟨u0, u1, rfl, j0, j1, hb⟩
      refine ⟨_, rfl, ?_⟩
      have HB81 := Aside0.mk (below_step HB80.out hb)
      have BX81 := Aside0.mk (blk_below BX80.out hb)
      have FW081 := Aside0.mk (Kd.F_below FW080.out hb)
      have FW181 := Aside0.mk (Kd.F_below FW180.out hb)
      have FW281 := Aside0.mk (Kd.F_below FW280.out hb)
      have BW81 := Aside0.mk (blk_below BW80.out hb)
      have RX081 := Aside0.mk (Kd.R_below RX080.out hb)
      have SX181 := Aside0.mk (Kd.S_below SX180.out hb)
      have BY81 := Aside0.mk (blk_below BY80.out hb)
      have SG081 := Aside0.mk (Kd.S_below SG080.out hb)
      have SG181 := Aside0.mk (Kd.R_below SG180.out hb)
      have SG281 := Aside0.mk (Kd.S_below SG280.out hb)
      have BG81 := Aside0.mk (blk_below BG80.out hb)
      clear hb
      clear HB80 BX80 FW080 FW180 FW280 BW80 RX080 SX180 BY80 SG080 SG180 SG280 BG80
      obtain ⟨Y0, y0, e0⟩ := Kd.R_slice j0
      subst e0
      obtain ⟨Y1, y1, e1⟩ := Kd.S_slice j1
      subst e1
      refine hK.out _ _ ⟨(blk_cell BY81.out 0).trans rfl, (blk_cell BY81.out 1).trans rfl, (blk_cell BX81.out 0).trans rfl, (blk_cell BX81.out 1).trans rfl⟩ (fun hHeld => ?_)
      clear hK K
      refine norm_ (a' := ?_) ?_ ?_
      rotate_left
      · show Act.put _ (some 43) _ = _
        simp only [Act.put, List.setIfInBounds_toArray, List.set_cons_zero, List.set_cons_succ, i64_w, i32_w]
        rfl
      refine one_ (i := 3) (N := some 44) #[true, true, true, true, false] rfl rfl (by kernel_rfl) (by decide) (fun K hK => ?_)
      refine goes_ Try.func21 (by kernel_rfl) rfl #[.agg #[.slice AX0 m0.length cX0, .slice AX1 m1.length cX1], .agg #[.slice Y0 m0.length y0, .slice Y1 m1.length y1]] (by rfl) rfl rfl (by (try simp only [List.map_toArray, List.map_cons, List.map_nil]); first | done | rfl) ?_
      with_reducible refine (laws_eqDfa.calls k _ _ m0 _ _ m1 _ _ m0 _ _ m1 true _ ?s1 ?s2 ?s3 ?s4 ?s5 ?s6 ?s7 ?s8 G5.out).mono ?_
      (case s1 => exact (Kd.R_reads' RX081.out).2.2)
      (case s2 => exact (Kd.R_reads' RX081.out).2.1)
      (case s3 => exact (Kd.S_reads' SX181.out).2.2)
      (case s4 => exact (Kd.S_reads' SX181.out).2.1)
      (case s5 => exact (Kd.R_reads' j0).2.2)
      (case s6 => exact (Kd.R_reads' j0).2.1)
      (case s7 => exact (Kd.S_reads' j1).2.2)
      (case s8 => exact (Kd.S_reads' j1).2.1)
      rintro e wb ⟨rfl, hb⟩
      refine ⟨_, rfl, ?_⟩
      have HB11 := Aside0.mk (below_step HB81.out hb)
      have BX11 := Aside0.mk (blk_below BX81.out hb)
      have FW011 := Aside0.mk (Kd.F_below FW081.out hb)
      have FW111 := Aside0.mk (Kd.F_below FW181.out hb)
      have FW211 := Aside0.mk (Kd.F_below FW281.out hb)
      have BW11 := Aside0.mk (blk_below BW81.out hb)
      have RX011 := Aside0.mk (Kd.R_below RX081.out hb)
      have SX111 := Aside0.mk (Kd.S_below SX181.out hb)
      have BY11 := Aside0.mk (blk_below BY81.out hb)
      have SG011 := Aside0.mk (Kd.S_below SG081.out hb)
      have SG111 := Aside0.mk (Kd.R_below SG181.out hb)
      have SG211 := Aside0.mk (Kd.S_below SG281.out hb)
      have BG11 := Aside0.mk (blk_below BG81.out hb)
      clear hb j0 j1
      clear HB81 BX81 FW081 FW181 FW281 BW81 RX081 SX181 BY81 SG081 SG181 SG281 BG81
      refine hK.out _ _ ⟨(blk_cell BY11.out 0).trans rfl, (blk_cell BY11.out 1).trans rfl, (blk_cell BX11.out 0).trans rfl, (blk_cell BX11.out 1).trans rfl⟩ (fun hHeld => ?_)
      clear hK K
      refine norm_ (a' := ?_) ?_ ?_
      rotate_left
      · show Act.put _ (some 44) _ = _
        simp only [Act.put, List.setIfInBounds_toArray, List.set_cons_zero, List.set_cons_succ, i64_w, i32_w]
        rfl
      refine pure_ (i := 4) (N := some 45) (v := ?_) (a' := ?_) #[true, true, true, true, true] rfl rfl (by kernel_rfl) (fun _ _ _ h => h) (Or.inl ⟨by rfl, ?_⟩) ?_ ?_
      rotate_left
      · intro w'
        go_simp
        first | with_reducible rfl | (rw [if_neg (by omega)]; done)
      rotate_left
      · simp only [Act.put, List.setIfInBounds_toArray, List.set_cons_zero, List.set_cons_succ, i64_w, i32_w]
        rfl
      refine done_ (by kernel_rfl) ?_
      have hz18 : wb.cell? ⟨gY, 0, none⟩ = some (.slice AX0 m0.length cX0) := (blk_cell BY11.out 0).trans rfl
      have hf18 := blk_frozen BY11.out 0
      have hz19 : wb.cell? ⟨gY, 1, none⟩ = some (.slice AX1 m1.length cX1) := (blk_cell BY11.out 1).trans rfl
      have hf19 := blk_frozen BY11.out 1
      go_wp2_with (first
    | (go_at_call 22; (with_reducible refine (laws_markDfa.calls k (fun k => w5.heap.size ≤ k ∧ k < w6.heap.size) (fun k => w5.heap.size ≤ k ∧ k < w6.heap.size) _ _ m0 m1 1 mk_ n0 n1 w _ HB11.out ?s1 ?s2 ?s3 G6.out).mono ?_); (case s1 => exact Kd.R_lower RX011.out LW5.out); (case s2 => exact Kd.S_lower SX111.out LW5.out); (case s3 => exact fun k h => by have q1_ := blk_lt BY11.out; have z0_ := LX.out; have z1_ := SZ4.out; have z2_ := G_gW.out; have z3_ := L_gW.out; have z4_ := SZ5.out; have z5_ := SZ6.out; have z6_ := G_gY.out; have z7_ := L_gY.out; have z8_ := SZ7.out; have z9_ := SZ8.out; have z10_ := G_gG.out; have z11_ := L_gG.out; have z12_ := SZ9.out; omega); rintro e w12 ⟨rfl, hb, hk⟩; have HB12 := Aside0.mk hb; have BX12 := Aside0.mk (blk_kept BX11.out hk (fun h => by have z0_ := LX.out; have z1_ := SZ4.out; have z2_ := G_gW.out; have z3_ := L_gW.out; have z4_ := SZ5.out; have z5_ := SZ6.out; have z6_ := G_gY.out; have z7_ := L_gY.out; have z8_ := SZ7.out; have z9_ := SZ8.out; have z10_ := G_gG.out; have z11_ := L_gG.out; have z12_ := SZ9.out; omega)); have FW012 := Aside0.mk (Kd.F_kept FW011.out hk (fun k hk h => by have z0_ := LX.out; have z1_ := SZ4.out; have z2_ := G_gW.out; have z3_ := L_gW.out; have z4_ := SZ5.out; have z5_ := SZ6.out; have z6_ := G_gY.out; have z7_ := L_gY.out; have z8_ := SZ7.out; have z9_ := SZ8.out; have z10_ := G_gG.out; have z11_ := L_gG.out; have z12_ := SZ9.out; omega)); have FW112 := Aside0.mk (Kd.F_kept FW111.out hk (fun k hk h => by have z0_ := LX.out; have z1_ := SZ4.out; have z2_ := G_gW.out; have z3_ := L_gW.out; have z4_ := SZ5.out; have z5_ := SZ6.out; have z6_ := G_gY.out; have z7_ := L_gY.out; have z8_ := SZ7.out; have z9_ := SZ8.out; have z10_ := G_gG.out; have z11_ := L_gG.out; have z12_ := SZ9.out; omega)); have FW212 := Aside0.mk (Kd.F_kept FW211.out hk (fun k hk h => by have z0_ := LX.out; have z1_ := SZ4.out; have z2_ := G_gW.out; have z3_ := L_gW.out; have z4_ := SZ5.out; have z5_ := SZ6.out; have z6_ := G_gY.out; have z7_ := L_gY.out; have z8_ := SZ7.out; have z9_ := SZ8.out; have z10_ := G_gG.out; have z11_ := L_gG.out; have z12_ := SZ9.out; omega)); have BW12 := Aside0.mk (blk_kept BW11.out hk (fun h => by have z0_ := LX.out; have z1_ := SZ4.out; have z2_ := G_gW.out; have z3_ := L_gW.out; have z4_ := SZ5.out; have z5_ := SZ6.out; have z6_ := G_gY.out; have z7_ := L_gY.out; have z8_ := SZ7.out; have z9_ := SZ8.out; have z10_ := G_gG.out; have z11_ := L_gG.out; have z12_ := SZ9.out; omega)); have SG012 := Aside0.mk (Kd.S_kept SG011.out hk (fun k hk h => by have q_ := PGb.out k (.inl hk); have z0_ := LX.out; have z1_ := SZ4.out; have z2_ := G_gW.out; have z3_ := L_gW.out; have z4_ := SZ5.out; have z5_ := SZ6.out; have z6_ := G_gY.out; have z7_ := L_gY.out; have z8_ := SZ7.out; have z9_ := SZ8.out; have z10_ := G_gG.out; have z11_ := L_gG.out; have z12_ := SZ9.out; omega)); have SG112 := Aside0.mk (Kd.R_kept SG111.out hk (fun k hk h => by have q_ := PGb.out k (.inr (.inl hk)); have z0_ := LX.out; have z1_ := SZ4.out; have z2_ := G_gW.out; have z3_ := L_gW.out; have z4_ := SZ5.out; have z5_ := SZ6.out; have z6_ := G_gY.out; have z7_ := L_gY.out; have z8_ := SZ7.out; have z9_ := SZ8.out; have z10_ := G_gG.out; have z11_ := L_gG.out; have z12_ := SZ9.out; omega)); have SG212 := Aside0.mk (Kd.S_kept SG211.out hk (fun k hk h => by have q_ := PGb.out k (.inr (.inr hk)); have z0_ := LX.out; have z1_ := SZ4.out; have z2_ := G_gW.out; have z3_ := L_gW.out; have z4_ := SZ5.out; have z5_ := SZ6.out; have z6_ := G_gY.out; have z7_ := L_gY.out; have z8_ := SZ7.out; have z9_ := SZ8.out; have z10_ := G_gG.out; have z11_ := L_gG.out; have z12_ := SZ9.out; omega)); have BG12 := Aside0.mk (blk_kept BG11.out hk (fun h => by have z0_ := LX.out; have z1_ := SZ4.out; have z2_ := G_gW.out; have z3_ := L_gW.out; have z4_ := SZ5.out; have z5_ := SZ6.out; have z6_ := G_gY.out; have z7_ := L_gY.out; have z8_ := SZ7.out; have z9_ := SZ8.out; have z10_ := G_gG.out; have z11_ := L_gG.out; have z12_ := SZ9.out; omega)); clear hb hk; clear HB11 BX11 FW011 FW111 FW211 BW11 RX011 SX111 BY11 SG011 SG111 SG211 BG11; have hz20 : w12.cell? ⟨gG, 0, none⟩ = some (.slice AG0 r0.length cG0) := (blk_cell BG12.out 0).trans rfl; have hf20 := blk_frozen BG12.out 0; have hz21 : w12.cell? ⟨gG, 1, none⟩ = some (.slice AG1 r1.length cG1) := (blk_cell BG12.out 1).trans rfl; have hf21 := blk_frozen BG12.out 1; have hz22 : w12.cell? ⟨gG, 2, none⟩ = some (.slice AG2 r2.length cG2) := (blk_cell BG12.out 2).trans rfl; have hf22 := blk_frozen BG12.out 2; have hz23 : w12.cell? ⟨gW, 0, none⟩ = some (.slice AW0 r0.length cW0) := (blk_cell BW12.out 0).trans rfl; have hf23 := blk_frozen BW12.out 0; have hz24 : w12.cell? ⟨gW, 1, none⟩ = some (.slice AW1 r1.length cW1) := (blk_cell BW12.out 1).trans rfl; have hf24 := blk_frozen BW12.out 1; have hz25 : w12.cell? ⟨gW, 2, none⟩ = some (.slice AW2 r2.length cW2) := (blk_cell BW12.out 2).trans rfl; have hf25 := blk_frozen BW12.out 2)
    | (go_at_call 20; (with_reducible refine (laws_eqMonoid.calls k _ _ r0 _ _ r1 _ _ r2 _ _ r0 _ _ r1 _ _ r2 true _ ?s1 ?s2 ?s3 ?s4 ?s5 ?s6 ?s7 ?s8 ?s9 ?s10 ?s11 ?s12 G4.out).mono ?_); (case s1 => exact (Kd.S_reads' SG012.out).2.2); (case s2 => exact (Kd.S_reads' SG012.out).2.1); (case s3 => exact (Kd.R_reads' SG112.out).2.2); (case s4 => exact (Kd.R_reads' SG112.out).2.1); (case s5 => exact (Kd.S_reads' SG212.out).2.2); (case s6 => exact (Kd.S_reads' SG212.out).2.1); (case s7 => exact Kd.F_now FW012.out); (case s8 => exact CW0.out); (case s9 => exact Kd.F_now FW112.out); (case s10 => exact CW1.out); (case s11 => exact Kd.F_now FW212.out); (case s12 => exact CW2.out); rintro e w13 ⟨rfl, hb⟩; have HB13 := Aside0.mk (below_step HB12.out hb); have BX13 := Aside0.mk (blk_below BX12.out hb); have FW013 := Aside0.mk (Kd.F_below FW012.out hb); have FW113 := Aside0.mk (Kd.F_below FW112.out hb); have FW213 := Aside0.mk (Kd.F_below FW212.out hb); have BW13 := Aside0.mk (blk_below BW12.out hb); have SG013 := Aside0.mk (Kd.S_below SG012.out hb); have SG113 := Aside0.mk (Kd.R_below SG112.out hb); have SG213 := Aside0.mk (Kd.S_below SG212.out hb); have BG13 := Aside0.mk (blk_below BG12.out hb); clear hb; clear HB12 BX12 FW012 FW112 FW212 BW12 SG012 SG112 SG212 BG12; have hz26 : w13.cell? ⟨gG, 0, none⟩ = some (.slice AG0 r0.length cG0) := (blk_cell BG13.out 0).trans rfl; have hf26 := blk_frozen BG13.out 0; have hz27 : w13.cell? ⟨gG, 1, none⟩ = some (.slice AG1 r1.length cG1) := (blk_cell BG13.out 1).trans rfl; have hf27 := blk_frozen BG13.out 1; have hz28 : w13.cell? ⟨gG, 2, none⟩ = some (.slice AG2 r2.length cG2) := (blk_cell BG13.out 2).trans rfl; have hf28 := blk_frozen BG13.out 2)
    | (go_at_call 23; (with_reducible refine (markMonoid_sets k P0 P1 P2 _ _ _ r0 r1 r2 1 q_ p0 p1 p2 w _ HB13.out ?s1 ?s2 ?s3 PG01.out PG12.out ?s4 G7.out).mono ?_); (case s1 => exact Kd.S_lower SG013.out (by simpa using LW7.out)); (case s2 => exact Kd.R_lower SG113.out (by simpa using LW7.out)); (case s3 => exact Kd.S_lower SG213.out (by simpa using LW7.out)); (case s4 => exact fun k h => by have q1_ := blk_lt BG13.out; have q2_ := PGb.out k h; have z0_ := LX.out; have z1_ := SZ4.out; have z2_ := G_gW.out; have z3_ := L_gW.out; have z4_ := SZ5.out; have z5_ := SZ6.out; have z6_ := G_gY.out; have z7_ := L_gY.out; have z8_ := SZ7.out; have z9_ := SZ8.out; have z10_ := G_gG.out; have z11_ := L_gG.out; have z12_ := SZ9.out; omega); rintro e w14 ⟨rfl, j0, j1, j2, hb, hk⟩; have HB14 := Aside0.mk hb; have BX14 := Aside0.mk (blk_kept BX13.out hk (fun h => by have q_ := PGb.out _ h; have z0_ := LX.out; have z1_ := SZ4.out; have z2_ := G_gW.out; have z3_ := L_gW.out; have z4_ := SZ5.out; have z5_ := SZ6.out; have z6_ := G_gY.out; have z7_ := L_gY.out; have z8_ := SZ7.out; have z9_ := SZ8.out; have z10_ := G_gG.out; have z11_ := L_gG.out; have z12_ := SZ9.out; omega)); have FW014 := Aside0.mk (Kd.F_kept FW013.out hk (fun k hk h => by have q_ := PGb.out _ h; have z0_ := LX.out; have z1_ := SZ4.out; have z2_ := G_gW.out; have z3_ := L_gW.out; have z4_ := SZ5.out; have z5_ := SZ6.out; have z6_ := G_gY.out; have z7_ := L_gY.out; have z8_ := SZ7.out; have z9_ := SZ8.out; have z10_ := G_gG.out; have z11_ := L_gG.out; have z12_ := SZ9.out; omega)); have FW114 := Aside0.mk (Kd.F_kept FW113.out hk (fun k hk h => by have q_ := PGb.out _ h; have z0_ := LX.out; have z1_ := SZ4.out; have z2_ := G_gW.out; have z3_ := L_gW.out; have z4_ := SZ5.out; have z5_ := SZ6.out; have z6_ := G_gY.out; have z7_ := L_gY.out; have z8_ := SZ7.out; have z9_ := SZ8.out; have z10_ := G_gG.out; have z11_ := L_gG.out; have z12_ := SZ9.out; omega)); have FW214 := Aside0.mk (Kd.F_kept FW213.out hk (fun k hk h => by have q_ := PGb.out _ h; have z0_ := LX.out; have z1_ := SZ4.out; have z2_ := G_gW.out; have z3_ := L_gW.out; have z4_ := SZ5.out; have z5_ := SZ6.out; have z6_ := G_gY.out; have z7_ := L_gY.out; have z8_ := SZ7.out; have z9_ := SZ8.out; have z10_ := G_gG.out; have z11_ := L_gG.out; have z12_ := SZ9.out; omega)); have BW14 := Aside0.mk (blk_kept BW13.out hk (fun h => by have q_ := PGb.out _ h; have z0_ := LX.out; have z1_ := SZ4.out; have z2_ := G_gW.out; have z3_ := L_gW.out; have z4_ := SZ5.out; have z5_ := SZ6.out; have z6_ := G_gY.out; have z7_ := L_gY.out; have z8_ := SZ7.out; have z9_ := SZ8.out; have z10_ := G_gG.out; have z11_ := L_gG.out; have z12_ := SZ9.out; omega)); have BG14 := Aside0.mk (blk_kept BG13.out hk (fun h => by have q_ := PGb.out _ h; have z0_ := LX.out; have z1_ := SZ4.out; have z2_ := G_gW.out; have z3_ := L_gW.out; have z4_ := SZ5.out; have z5_ := SZ6.out; have z6_ := G_gY.out; have z7_ := L_gY.out; have z8_ := SZ7.out; have z9_ := SZ8.out; have z10_ := G_gG.out; have z11_ := L_gG.out; have z12_ := SZ9.out; omega)); have SM014 := Aside0.mk j0; have SM114 := Aside0.mk j1; have SM214 := Aside0.mk j2; clear hb hk j0 j1 j2; clear HB13 BX13 FW013 FW113 FW213 BW13 SG013 SG113 SG213 BG13; have hz29 : w14.cell? ⟨gG, 0, none⟩ = some (.slice AG0 r0.length cG0) := (blk_cell BG14.out 0).trans rfl; have hf29 := blk_frozen BG14.out 0; have hz30 : w14.cell? ⟨gG, 1, none⟩ = some (.slice AG1 r1.length cG1) := (blk_cell BG14.out 1).trans rfl; have hf30 := blk_frozen BG14.out 1; have hz31 : w14.cell? ⟨gG, 2, none⟩ = some (.slice AG2 r2.length cG2) := (blk_cell BG14.out 2).trans rfl; have hf31 := blk_frozen BG14.out 2)
    | (go_at_call 24; (with_reducible refine (heldMo k _ _ _ _ _ _ _ _ _ p0 p1 p2 1 q_ _ ?s1 ?s2 ?s3 ?s4 ?s5 ?s6 ?s7 ?s8 ?s9 G8.out).mono ?_); (case s1 => exact (Kd.S_reads' SM014.out).1); (case s2 => exact (Kd.S_reads' SM014.out).2.2); (case s3 => exact (Kd.S_reads' SM014.out).2.1); (case s4 => exact (Kd.R_reads' SM114.out).1); (case s5 => exact (Kd.R_reads' SM114.out).2.2); (case s6 => exact (Kd.R_reads' SM114.out).2.1); (case s7 => exact (Kd.S_reads' SM214.out).1); (case s8 => exact (Kd.S_reads' SM214.out).2.2); (case s9 => exact (Kd.S_reads' SM214.out).2.1); rintro e w15 ⟨rfl, hb⟩; have HB15 := Aside0.mk (below_step HB14.out hb); have BX15 := Aside0.mk (blk_below BX14.out hb); have FW015 := Aside0.mk (Kd.F_below FW014.out hb); have FW115 := Aside0.mk (Kd.F_below FW114.out hb); have FW215 := Aside0.mk (Kd.F_below FW214.out hb); have BW15 := Aside0.mk (blk_below BW14.out hb); have BG15 := Aside0.mk (blk_below BG14.out hb); have SM015 := Aside0.mk (Kd.S_below SM014.out hb); have SM115 := Aside0.mk (Kd.R_below SM114.out hb); have SM215 := Aside0.mk (Kd.S_below SM214.out hb); clear hb; clear HB14 BX14 FW014 FW114 FW214 BW14 BG14 SM014 SM114 SM214; have hz32 : w15.cell? ⟨gX, 0, none⟩ = some (.slice A0 l0.length c0) := (blk_cell BX15.out 0).trans rfl; have hf32 := blk_frozen BX15.out 0; have hz33 : w15.cell? ⟨gX, 1, none⟩ = some (.slice A1 l1.length c1) := (blk_cell BX15.out 1).trans rfl; have hf33 := blk_frozen BX15.out 1)
    | (go_at_call 18; (with_reducible refine (laws_toDfa.calls k _ _ l0 _ _ l1 m0 m1 _ ?s1 ?s2 ?s3 ?s4 G1.out).mono ?_); (case s1 => exact Kd.C_below HR0.out HB15.out); (case s2 => exact HC0.out); (case s3 => exact Kd.C_below HR1.out HB15.out); (case s4 => exact HC1.out); rintro e w16 ⟨u0, u1, rfl, j0, j1, hb⟩; have HB16 := Aside0.mk (below_step HB15.out hb); have BX16 := Aside0.mk (blk_below BX15.out hb); have FW016 := Aside0.mk (Kd.F_below FW015.out hb); have FW116 := Aside0.mk (Kd.F_below FW115.out hb); have FW216 := Aside0.mk (Kd.F_below FW215.out hb); have BW16 := Aside0.mk (blk_below BW15.out hb); have BG16 := Aside0.mk (blk_below BG15.out hb); have SM016 := Aside0.mk (Kd.S_below SM015.out hb); have SM116 := Aside0.mk (Kd.R_below SM115.out hb); have SM216 := Aside0.mk (Kd.S_below SM215.out hb); clear hb; clear HB15 BX15 FW015 FW115 FW215 BW15 BG15 SM015 SM115 SM215; obtain ⟨Y0, y0, e0⟩ := Kd.R_slice j0; subst e0; obtain ⟨Y1, y1, e1⟩ := Kd.S_slice j1; subst e1; have D0 := Aside0.mk (Kd.R_reads' j0).2.2; have E0 := Aside0.mk (Kd.R_reads' j0).2.1; have D1 := Aside0.mk (Kd.S_reads' j1).2.2; have E1 := Aside0.mk (Kd.S_reads' j1).2.1; clear j0 j1)
    | (go_at_call 19; (with_reducible refine (build_monoid k _ _ m0 _ _ m1 r0 r1 r2 rb _ ?s1 ?s2 ?s3 ?s4 G3.out).mono ?_); (case s1 => exact D0.out); (case s2 => exact E0.out); (case s3 => exact D1.out); (case s4 => exact E1.out); rintro e w17 ⟨u0, u1, u2, O0, O1, O2, rfl, j0, j1, j2, d01, d12, hlt, hb⟩; have HB17 := Aside0.mk (below_step HB16.out hb); have BX17 := Aside0.mk (blk_below BX16.out hb); have FW017 := Aside0.mk (Kd.F_below FW016.out hb); have FW117 := Aside0.mk (Kd.F_below FW116.out hb); have FW217 := Aside0.mk (Kd.F_below FW216.out hb); have BW17 := Aside0.mk (blk_below BW16.out hb); have BG17 := Aside0.mk (blk_below BG16.out hb); have SM017 := Aside0.mk (Kd.S_below SM016.out hb); have SM117 := Aside0.mk (Kd.R_below SM116.out hb); have SM217 := Aside0.mk (Kd.S_below SM216.out hb); have SH017 := Aside0.mk j0; have SH117 := Aside0.mk j1; have SH217 := Aside0.mk j2; have OGb := Aside0.mk hlt; have LG17 := Aside0.mk (show w8.heap.size ≤ w17.heap.size by have q1_ := blk_lt BG17.out; have q2_ := G_gG.out; omega); clear hb j0 j1 j2 d01 d12 hlt D0 E0 D1 E1; clear HB16 BX16 FW016 FW116 FW216 BW16 BG16 SM016 SM116 SM216; obtain ⟨AH0, cH0, e0⟩ := Kd.S_slice SH017.out; subst e0; obtain ⟨AH1, cH1, e1⟩ := Kd.R_slice SH117.out; subst e1; obtain ⟨AH2, cH2, e2⟩ := Kd.S_slice SH217.out; subst e2)
    | ((with_reducible refine gate_dst (N := 12) rfl ?_); refine box_event ?hg (N := 12) ?hd (cs := #[.slice none 0 0, .slice none 0 0, .slice none 0 0]) (t := 34) ?hr ?_; (case hd => rfl); (case hg => rfl); (case hr => first | (go_simp; done) | (go_simp; rfl)); intro gH hg w18 hb_ hb; have HB18 := Aside0.mk (below_step HB17.out hb); have BX18 := Aside0.mk (blk_below BX17.out hb); have FW018 := Aside0.mk (Kd.F_below FW017.out hb); have FW118 := Aside0.mk (Kd.F_below FW117.out hb); have FW218 := Aside0.mk (Kd.F_below FW217.out hb); have BW18 := Aside0.mk (blk_below BW17.out hb); have BG18 := Aside0.mk (blk_below BG17.out hb); have SM018 := Aside0.mk (Kd.S_below SM017.out hb); have SM118 := Aside0.mk (Kd.R_below SM117.out hb); have SM218 := Aside0.mk (Kd.S_below SM217.out hb); have SH018 := Aside0.mk (Kd.S_below SH017.out hb); have SH118 := Aside0.mk (Kd.R_below SH117.out hb); have SH218 := Aside0.mk (Kd.S_below SH217.out hb); have BH18 := Aside0.mk hb_; have G_gH := Aside0.mk (show gH = w17.heap.size from hg); have GEgH := Aside0.mk (show w.heap.size ≤ gH by rw [hg]; exact below_size HB17.out); have L_gH := Aside0.mk (show gH < w18.heap.size from blk_lt hb_); have SZ18 := Aside0.mk hb.size; have NBBW := Aside0.mk (show gW ≠ gH by rw [hg]; exact Nat.ne_of_lt (blk_lt BW17.out)); have NBBG := Aside0.mk (show gG ≠ gH by rw [hg]; exact Nat.ne_of_lt (blk_lt BG17.out)); clear hb_ hb hg; clear HB17 BX17 FW017 FW117 FW217 BW17 BG17 SM017 SM117 SM217 SH017 SH117 SH217; have hz34 : w18.cell? ⟨gH, 0, none⟩ = some (.slice none 0 0) := (blk_cell BH18.out 0).trans rfl; have hf34 := blk_frozen BH18.out 0; have hz35 : w18.cell? ⟨gH, 1, none⟩ = some (.slice none 0 0) := (blk_cell BH18.out 1).trans rfl; have hf35 := blk_frozen BH18.out 1; have hz36 : w18.cell? ⟨gH, 2, none⟩ = some (.slice none 0 0) := (blk_cell BH18.out 2).trans rfl; have hf36 := blk_frozen BH18.out 2; have hz37 : w18.cell? ⟨gW, 0, none⟩ = some (.slice AW0 r0.length cW0) := (blk_cell BW18.out 0).trans rfl; have hf37 := blk_frozen BW18.out 0; have hz38 : w18.cell? ⟨gW, 1, none⟩ = some (.slice AW1 r1.length cW1) := (blk_cell BW18.out 1).trans rfl; have hf38 := blk_frozen BW18.out 1; have hz39 : w18.cell? ⟨gW, 2, none⟩ = some (.slice AW2 r2.length cW2) := (blk_cell BW18.out 2).trans rfl; have hf39 := blk_frozen BW18.out 2; have hnb0 := NBBW.out; have hnb1 := NBBG.out)
    | (go_at_call 20; have KS := (Kept.setCell (Kept.setCell (Kept.setCell (Kept.refl w18 (fun k => k = gH)) (p := ⟨gH, 0, none⟩) (.inl rfl) (.slice AH0 r0.length cH0)) (p := ⟨gH, 1, none⟩) (.inl rfl) (.slice AH1 r1.length cH1)) (p := ⟨gH, 2, none⟩) (.inl rfl) (.slice AH2 r2.length cH2)); (with_reducible refine (laws_eqMonoid.calls k _ _ r0 _ _ r1 _ _ r2 _ _ r0 _ _ r1 _ _ r2 true _ ?s1 ?s2 ?s3 ?s4 ?s5 ?s6 ?s7 ?s8 ?s9 ?s10 ?s11 ?s12 G4.out).mono ?_); (case s1 => exact (Kd.S_reads' (Kd.S_kept SH018.out KS (fun k hk h => by have q_ := OGb.out k (.inl hk); have z1_ := G_gH.out; omega))).2.2); (case s2 => exact (Kd.S_reads' SH018.out).2.1); (case s3 => exact (Kd.R_reads' (Kd.R_kept SH118.out KS (fun k hk h => by have q_ := OGb.out k (.inr (.inl hk)); have z1_ := G_gH.out; omega))).2.2); (case s4 => exact (Kd.R_reads' SH118.out).2.1); (case s5 => exact (Kd.S_reads' (Kd.S_kept SH218.out KS (fun k hk h => by have q_ := OGb.out k (.inr (.inr hk)); have z1_ := G_gH.out; omega))).2.2); (case s6 => exact (Kd.S_reads' SH218.out).2.1); (case s7 => exact Kd.F_now (Kd.F_kept FW018.out KS (fun k hk h => by have z1_ := G_gH.out; have z2_ := LG17.out; have z3_ := LX.out; have z4_ := SZ4.out; have z5_ := G_gW.out; have z6_ := L_gW.out; have z7_ := SZ5.out; have z8_ := SZ6.out; have z9_ := G_gY.out; have z10_ := L_gY.out; have z11_ := SZ7.out; have z12_ := SZ8.out; have z13_ := G_gG.out; have z14_ := L_gG.out; have z15_ := SZ9.out; have z16_ := G_gH.out; have z17_ := L_gH.out; have z18_ := SZ18.out; omega))); (case s8 => exact CW0.out); (case s9 => exact Kd.F_now (Kd.F_kept FW118.out KS (fun k hk h => by have z1_ := G_gH.out; have z2_ := LG17.out; have z3_ := LX.out; have z4_ := SZ4.out; have z5_ := G_gW.out; have z6_ := L_gW.out; have z7_ := SZ5.out; have z8_ := SZ6.out; have z9_ := G_gY.out; have z10_ := L_gY.out; have z11_ := SZ7.out; have z12_ := SZ8.out; have z13_ := G_gG.out; have z14_ := L_gG.out; have z15_ := SZ9.out; have z16_ := G_gH.out; have z17_ := L_gH.out; have z18_ := SZ18.out; omega))); (case s10 => exact CW1.out); (case s11 => exact Kd.F_now (Kd.F_kept FW218.out KS (fun k hk h => by have z1_ := G_gH.out; have z2_ := LG17.out; have z3_ := LX.out; have z4_ := SZ4.out; have z5_ := G_gW.out; have z6_ := L_gW.out; have z7_ := SZ5.out; have z8_ := SZ6.out; have z9_ := G_gY.out; have z10_ := L_gY.out; have z11_ := SZ7.out; have z12_ := SZ8.out; have z13_ := G_gG.out; have z14_ := L_gG.out; have z15_ := SZ9.out; have z16_ := G_gH.out; have z17_ := L_gH.out; have z18_ := SZ18.out; omega))); (case s12 => exact CW2.out); rintro e w19 ⟨rfl, hb⟩; have HB19 := Aside0.mk (below_step (below_set (below_set (below_set HB18.out GEgH.out) GEgH.out) GEgH.out) hb); have BG19 := Aside0.mk (blk_below (blk_kept BG18.out KS (fun h => by have z1_ := NBBG.out; omega)) hb); have SM019 := Aside0.mk (Kd.S_below (Kd.S_kept SM018.out KS (fun k hk h => by have q_ := PGb.out k (.inl hk); have z1_ := G_gH.out; have z2_ := LG17.out; omega)) hb); have SM119 := Aside0.mk (Kd.R_below (Kd.R_kept SM118.out KS (fun k hk h => by have q_ := PGb.out k (.inr (.inl hk)); have z1_ := G_gH.out; have z2_ := LG17.out; omega)) hb); have SM219 := Aside0.mk (Kd.S_below (Kd.S_kept SM218.out KS (fun k hk h => by have q_ := PGb.out k (.inr (.inr hk)); have z1_ := G_gH.out; have z2_ := LG17.out; omega)) hb); clear hb KS; clear HB18 BX18 FW018 FW118 FW218 BW18 BG18 SM018 SM118 SM218 SH018 SH118 SH218; have hz40 : w19.cell? ⟨gG, 0, none⟩ = some (.slice AG0 r0.length cG0) := (blk_cell BG19.out 0).trans rfl; have hf40 := blk_frozen BG19.out 0; have hz41 : w19.cell? ⟨gG, 1, none⟩ = some (.slice AG1 r1.length cG1) := (blk_cell BG19.out 1).trans rfl; have hf41 := blk_frozen BG19.out 1; have hz42 : w19.cell? ⟨gG, 2, none⟩ = some (.slice AG2 r2.length cG2) := (blk_cell BG19.out 2).trans rfl; have hf42 := blk_frozen BG19.out 2)
    | (go_at_call 24; (with_reducible refine (heldMo k _ _ _ _ _ _ _ _ _ p0 p1 p2 1 q_ _ ?s1 ?s2 ?s3 ?s4 ?s5 ?s6 ?s7 ?s8 ?s9 G8.out).mono ?_); (case s1 => exact (Kd.S_reads' SM019.out).1); (case s2 => exact (Kd.S_reads' SM019.out).2.2); (case s3 => exact (Kd.S_reads' SM019.out).2.1); (case s4 => exact (Kd.R_reads' SM119.out).1); (case s5 => exact (Kd.R_reads' SM119.out).2.2); (case s6 => exact (Kd.R_reads' SM119.out).2.1); (case s7 => exact (Kd.S_reads' SM219.out).1); (case s8 => exact (Kd.S_reads' SM219.out).2.2); (case s9 => exact (Kd.S_reads' SM219.out).2.1); rintro e w20 ⟨rfl, hb⟩; have HB20 := Aside0.mk (below_step HB19.out hb); clear hb; clear HB19 BG19 SM019 SM119 SM219))
      go_ret
      exact ⟨rfl, HB20.out⟩
    · rw [if_neg hh] at h
      exact absurd (Option.some.inj h) (by decide)


end Go.Proofs.Ytjmfpaalglbbhaa.Ext


namespace Go.Proofs.Ytjmfpaalglbbhaa.Br
set_option linter.unusedVariables false
set_option linter.unusedSimpArgs false
open Go Go.Proofs.YtjmfpaalglbbhaaW.PrintWords

/-- Whatever reads at type t, with at most n of fuel, is of kind d and well formed. -/
def BrN (P : Program) (n : Nat) (t : TypeId) {α : Type} (d : Kd α) (wf : α → Prop) : Prop :=
  ∀ (H : Type) (enc : TypeId × Value → H) (w : World) (base : Nat) (spare : Nat → Bool) (held : Bool) (m : Nat) (cs : List Value) (x : DataW H × List MemPlace),
    m ≤ n → DataW.trod enc P w base spare held m t cs = some x → ∃ a, d.K w a cs ∧ wf a
def Br (P : Program) (t : TypeId) {α : Type} (d : Kd α) (wf : α → Prop) : Prop := ∀ n, BrN P n t d wf

/-- The same of the fields of a struct, from offset o on. -/
def BF (P : Program) (n : Nat) (fs : List Field) (o : Nat) {α : Type} (d : Kd α) (wf : α → Prop) : Prop :=
  ∀ (H : Type) (enc : TypeId × Value → H) (w : World) (base : Nat) (spare : Nat → Bool) (held : Bool) (m : Nat) (cs : List Value) (xs : List (DataW H × List MemPlace)),
    m ≤ n → cs.length = d.sz → xs.length = fs.length →
    (∀ (i : Nat) (f : Field), fs[i]? = some f → DataW.trod enc P w base spare held m f.type ((cs.drop (f.offset - o)).take (P.cellsOf f.type)) = xs[i]?) → ∃ a, d.K w a cs ∧ wf a

theorem BrN.mono {P : Program} {n m : Nat} {t : TypeId} {α : Type} {d : Kd α} {wf : α → Prop} (h : BrN P n t d wf) (hm : m ≤ n) : BrN P m t d wf :=
  fun H enc w base spare held k cs x hk => h H enc w base spare held k cs x (Nat.le_trans hk hm)
theorem BrN.imp {P : Program} {n : Nat} {t : TypeId} {α : Type} {d : Kd α} {wf wf' : α → Prop} (h : BrN P n t d wf) (hi : ∀ a, wf a → wf' a) : BrN P n t d wf' :=
  fun H enc w base spare held k cs x hk hx => by
    obtain ⟨a, h1, h2⟩ := h H enc w base spare held k cs x hk hx
    exact ⟨a, h1, hi a h2⟩
theorem BrN.zero (P : Program) (t : TypeId) {α : Type} (d : Kd α) (wf : α → Prop) : BrN P 0 t d wf := by
  intro H enc w base spare held m cs x hm hx
  obtain rfl : m = 0 := by omega
  simp [DataW.trod] at hx

theorem br_int {P : Program} {t : TypeId} {k : IntKind} (ht : P.underlying t = some (.int k)) (n : Nat) : BrN P n t (Kd.int k) (fun a => (Lit.int k a).wf = true) := by
  intro H enc w base spare held m cs x _ hx
  obtain ⟨a, rfl, _, hw⟩ := DataW.trod_int ht hx
  exact ⟨a, rfl, hw⟩
theorem br_bool {P : Program} {t : TypeId} (ht : P.underlying t = some .bool) (n : Nat) : BrN P n t Kd.bool (fun _ => True) := by
  intro H enc w base spare held m cs x _ hx
  obtain ⟨a, rfl, _⟩ := DataW.trod_bool ht hx
  exact ⟨a, rfl, trivial⟩
theorem list_of_all {α : Type} {Q : Nat → α → Prop} (n : Nat) (h : ∀ i, i < n → ∃ a, Q i a) : ∃ l : List α, l.length = n ∧ ∀ i a, l[i]? = some a → Q i a := by
  induction n with
  | zero => exact ⟨[], rfl, fun i a h => by simp at h⟩
  | succ n ih =>
    obtain ⟨l, hl, hq⟩ := ih (fun i hi => h i (by omega))
    obtain ⟨a, ha⟩ := h n (by omega)
    refine ⟨l ++ [a], by simp [hl], fun i b hb => ?_⟩
    rcases Nat.lt_or_ge i l.length with hi | hi
    · rw [List.getElem?_append_left hi] at hb
      exact hq i b hb
    · rw [List.getElem?_append_right hi] at hb
      obtain ⟨h0, rfl⟩ : i - l.length = 0 ∧ a = b := by
        rcases Nat.eq_zero_or_pos (i - l.length) with h0 | h0
        · rw [h0] at hb; exact ⟨h0, by simpa using hb⟩
        · rw [List.getElem?_eq_none (by simp; omega)] at hb; simp at hb
      obtain rfl : i = n := by omega
      exact ha

theorem cells_at {w : World} {base : Nat} {a : Addr} {n : Nat} {cs : List Value} (h : w.cells? base a n = some cs) : cs.length = n ∧ ∀ i u, cs[i]? = some u → w.cell? (a.add i) = some u := by
  unfold World.cells? at h
  split at h
  · have hl := mapM_some_length h
    refine ⟨by simpa using hl, fun i u hu => ?_⟩
    have hi : i < n := by
      have := (List.getElem?_eq_some_iff.1 hu).1
      simp at hl
      omega
    have := mapM_some_get h i i (by simp [hi])
    rw [this, hu]
  · simp at h

theorem br_slice {P : Program} {t e : TypeId} {α : Type} {d : Kd α} {wf : α → Prop} {n : Nat} (ht : P.underlying t = some (.slice e)) (hs : P.cellsOf e = d.sz) (h : BrN P n e d wf) :
    BrN P (n + 1) t (Kd.slice e d) (fun l => l.length ≤ 9223372036854775807 ∧ ∀ a ∈ l, wf a) := by
  intro H enc w base spare held m cs x hm hx
  rcases DataW.trod_slice ht hx with ⟨rfl, _⟩ | ⟨a, len, cap, elems, rest, k, rfl, rfl, _, _, hl, hc, he, hg, _, _⟩
  · exact ⟨[], ⟨none, 0, rfl, Nat.le_refl _, Kd.C_nil d w⟩, by simp, by simp⟩
  · have hq : ∀ i, i < len → ∃ b, (∃ c, c.length = d.sz ∧ d.K w b c ∧ ∀ j u, c[j]? = some u → w.cell? (a.add (i * d.sz + j)) = some u) ∧ wf b := by
      intro i hi
      have g := hg i hi
      rw [List.getElem?_eq_getElem (by omega)] at g
      obtain ⟨c, hc1, hc2⟩ := Option.bind_eq_some_iff.1 g
      obtain ⟨b, hb, hw⟩ := h H enc w base spare held k c _ (by omega) hc2
      obtain ⟨h1, h2⟩ := cells_at hc1
      refine ⟨b, ⟨c, by rw [h1, hs], hb, fun j u hu => ?_⟩, hw⟩
      have := h2 j u hu
      rw [Addr.add_add, hs] at this
      exact this
    obtain ⟨l, hl1, hl2⟩ := list_of_all len hq
    have hlen : len ≤ 9223372036854775807 := by simp only [maxLen] at hc; omega
    refine ⟨l, ⟨some a, cap, by rw [hl1], by omega, rfl, by omega, fun _ => ⟨a, rfl, fun j p hp => (hl2 j p hp).1⟩⟩, by omega, fun b hb => ?_⟩
    obtain ⟨i, hi, rfl⟩ := List.mem_iff_getElem.1 hb
    exact (hl2 i _ (List.getElem?_eq_getElem hi)).2
theorem br_slice' {P : Program} {t e : TypeId} {α : Type} {d : Kd α} {wf : α → Prop} (ht : P.underlying t = some (.slice e)) (hs : P.cellsOf e = d.sz) (h : ∀ n, BrN P n e d wf) (n : Nat) :
    BrN P n t (Kd.slice e d) (fun l => l.length ≤ 9223372036854775807 ∧ ∀ a ∈ l, wf a) := (br_slice ht hs (h n)).mono (Nat.le_succ n)

theorem bf_one {P : Program} {n o : Nat} {f : Field} {α : Type} {d : Kd α} {wf : α → Prop} (ho : f.offset = o) (hs : P.cellsOf f.type = d.sz) (h : BrN P n f.type d wf) : BF P n [f] o d wf := by
  intro H enc w base spare held m cs xs hm hl hx hf
  have g := hf 0 f rfl
  rw [ho, Nat.sub_self, List.drop_zero, hs, ← hl, List.take_length, List.getElem?_eq_getElem (by simp at hx; omega)] at g
  exact h H enc w base spare held m cs _ hm g
theorem bf_cons {P : Program} {n o : Nat} {f : Field} {fs : List Field} {α β : Type} {d : Kd α} {d' : Kd β} {wf : α → Prop} {wf' : β → Prop} (ho : f.offset = o) (hs : P.cellsOf f.type = d.sz) (h : BrN P n f.type d wf)
    (hfs : BF P n fs (o + d.sz) d' wf') (hle : ∀ g ∈ fs, o + d.sz ≤ g.offset) : BF P n (f :: fs) o (Kd.pair d d') (fun x => wf x.1 ∧ wf' x.2) := by
  intro H enc w base spare held m cs xs hm hl hx hf
  have hl' : cs.length = d.sz + d'.sz := hl
  have g := hf 0 f rfl
  rw [ho, Nat.sub_self, List.drop_zero, hs, List.getElem?_eq_getElem (by simp at hx; omega)] at g
  obtain ⟨a, ha, hwa⟩ := h H enc w base spare held m _ _ hm g
  cases xs with
  | nil => simp at hx
  | cons y ys =>
    obtain ⟨b, hb, hwb⟩ := hfs H enc w base spare held m (cs.drop d.sz) ys hm (by rw [List.length_drop]; omega) (by simpa using hx) (fun i q hq => by
      have g2 := hf (i + 1) q (by simpa using hq)
      have hm : q ∈ fs := List.mem_of_getElem? hq
      have := hle q hm
      rw [List.drop_drop, show d.sz + (q.offset - (o + d.sz)) = q.offset - o by omega]
      simpa using g2)
    exact ⟨(a, b), ⟨cs.take d.sz, cs.drop d.sz, (List.take_append_drop _ _).symm, ha, hb⟩, hwa, hwb⟩
theorem br_struct {P : Program} {t : TypeId} {fs : Array Field} {α : Type} {d : Kd α} {wf : α → Prop} {n : Nat} (ht : P.underlying t = some (.struct fs)) (hs : P.cellsOf t = d.sz) (h : BF P n fs.toList 0 d wf) : BrN P (n + 1) t d wf := by
  intro H enc w base spare held m cs x hm hx
  obtain ⟨xs, k, rfl, _, hl, hxs, hf⟩ := DataW.trod_struct ht hx
  exact h H enc w base spare held k cs xs (by omega) (by rw [hl, hs]) (by simpa using hxs) (fun i f hi => by simpa using hf i f (by simpa using hi))
theorem br_struct' {P : Program} {t : TypeId} {fs : Array Field} {α : Type} {d : Kd α} {wf : α → Prop} (ht : P.underlying t = some (.struct fs)) (hs : P.cellsOf t = d.sz) (h : ∀ n, BF P n fs.toList 0 d wf) (n : Nat) : BrN P n t d wf :=
  (br_struct ht hs (h n)).mono (Nat.le_succ n)
theorem arr_of {xs : Array Value} {l : List Value} (h : xs.toList = l) : xs = l.toArray := by rw [← h]

end Go.Proofs.Ytjmfpaalglbbhaa.Br


namespace Go.Proofs.Ytjmfpaalglbbhaa.Pure
open Go Go.RowKit Go.Proofs.Ytjmfpaalglbbhaa.Br Go.Proofs.YtjmfpaalglbbhaaW.PrintWords Go.Proofs.YtjmfpaalglbbhaaW.PrintLast Go.Proofs.Ytjmfpaalglbbhaa.A Go.Proofs.Ytjmfpaalglbbhaa.Ext
set_option linter.unusedVariables false
def FnExactBuildMonoid.Pure : Prop := ∀ (l0_0 : (List Bool)) (l0_1 : (List (List Int))), ((l0_0 : (List Bool)).length ≤ 9223372036854775807 ∧ ∀ a ∈ l0_0, True) → ((l0_1 : (List (List Int))).length ≤ 9223372036854775807 ∧ ∀ a ∈ l0_1, (a : (List Int)).length ≤ 9223372036854775807 ∧ ∀ b ∈ a, (Lit.int .i64 b).wf = true) → ∃ k, laws_FnExactBuildMonoid.f k l0_0 l0_1 = some true
end Go.Proofs.Ytjmfpaalglbbhaa.Pure

namespace Go.Proofs.Ytjmfpaalglbbhaa.F
set_option linter.unusedVariables false
set_option linter.unusedSimpArgs false
open Go.RowKit Go.Proofs.YtjmfpaalglbbhaaW.PrintWords Go.Proofs.Ytjmfpaalglbbhaa.Pl Go.Proofs.Ytjmfpaalglbbhaa.A

theorem szIntS_eq (l : List Int) (a : Int) (ha : -1 ≤ a) (ha' : a ≤ 1048576) (hl : l.length ≤ 9223372036854775807) :
    ∃ t, laws_szIntS.f l a = some t ∧ (t = -1 ∨ (0 ≤ t ∧ t = a - l.length)) := by
  unfold laws_szIntS.f
  rw [w64_sub ha ha' hl]
  by_cases h1 : a - l.length < 0
  · exact ⟨-1, by rw [if_pos h1], .inl rfl⟩
  · rw [if_neg h1]; exact ⟨_, rfl, .inr ⟨by omega, rfl⟩⟩
theorem set_next (l : List Int) (i n : Nat) (hn : l.length = n) (hi : i < n) : (l.take i ++ List.replicate (n - i) 0).set i (rd l (i : Int)) = l.take (i + 1) ++ List.replicate (n - (i + 1)) 0 := by
  have hl : (l.take i).length = i := by rw [List.length_take]; omega
  have e : rd l (i : Int) = l[i] := by simp [rd, show i < l.length by omega]
  rw [List.set_append_right _ _ (by omega), hl, Nat.sub_self, show n - i = (n - (i + 1)) + 1 by omega, List.replicate_succ, List.set_cons_zero, List.take_succ_eq_append_getElem (by omega), e, List.append_assoc]
  rfl
theorem toIntS_ev (l : List Int) (hl : l.length ≤ 35184372088832) : Evt (fun k => laws_toIntS.f k l) l := by
  simp only [laws_toIntS.f]
  refine Evt.pos (by omega) (Evt.pos (by omega) ?_)
  rw [Int.toNat_natCast]
  have h : ∀ d i : Nat, i + d = l.length → Evt (fun k => laws_toIntS.l0 k l (l.take i ++ List.replicate (l.length - i) 0) (i : Int)) l := by
    intro d
    induction d with
    | zero =>
      intro i hi
      refine Evt.step ?_
      simp only [laws_toIntS.l0]
      refine Evt.neg (by omega) (Evt.const ?_)
      obtain rfl : i = l.length := by omega
      simp
    | succ d ih =>
      intro i hi
      refine Evt.step ?_
      simp only [laws_toIntS.l0]
      rw [w64s (by omega), Int.toNat_natCast, set_next l i l.length rfl (by omega)]
      exact Evt.pos (by omega) (Evt.pos (by omega) (Evt.pos (by simp; omega) (ih (i + 1) (by omega))))
  simpa using h l.length 0 (by omega)
theorem eqIntS_ev (l l' : List Int) (hl : l.length ≤ 9223372036854775807) : Evt (fun k => laws_eqIntS.f k l l') (decide (l = l')) := by
  simp only [laws_eqIntS.f]
  by_cases he : l.length = l'.length
  · refine Evt.pos (by omega) ?_
    have h := Evt.up (fun k i => laws_eqIntS.l0 k l l' i) l.length (fun i => decide (l.drop i = l'.drop i)) ?_ ?_
    · simpa using h
    · refine Evt.step ?_
      simp only [laws_eqIntS.l0]
      refine Evt.neg (by omega) (Evt.const ?_)
      rw [List.drop_of_length_le (Nat.le_refl _), List.drop_of_length_le (by omega)]
      rfl
    · intro i hi h
      refine Evt.step ?_
      simp only [laws_eqIntS.l0]
      have hi' : i < l'.length := by omega
      refine Evt.pos (by omega) (Evt.pos (by omega) (Evt.pos (by omega) ?_))
      rw [List.drop_eq_getElem_cons hi, List.drop_eq_getElem_cons hi', w64s (by omega)]
      have e1 : rd l (i : Int) = l[i] := by simp [rd, hi]
      have e2 : rd l' (i : Int) = l'[i] := by simp [rd, hi']
      rw [e1, e2]
      by_cases hc : l[i] = l'[i]
      · exact Evt.pos hc (h.cast (by rw [hc]; simp only [List.cons.injEq, true_and]))
      · exact Evt.neg hc (Evt.const (by rw [decide_eq_false (fun e => hc (List.cons.inj e).1)]))
  · refine Evt.neg (by omega) (Evt.const ?_)
    have : l ≠ l' := fun e => he (by rw [e])
    simp [this]

end Go.Proofs.Ytjmfpaalglbbhaa.F


namespace Go.Proofs.Ytjmfpaalglbbhaa.F
set_option linter.unusedVariables false
set_option linter.unusedSimpArgs false
open Go.RowKit Go.Proofs.YtjmfpaalglbbhaaW.PrintWords Go.Proofs.Ytjmfpaalglbbhaa.Pl Go.Proofs.Ytjmfpaalglbbhaa.A

theorem rows_at (l : List (List Int)) (i : Nat) (h : i < l.length) : rd_L1 l (i : Int) = l[i] := by simp [rd_L1, h]
/-- A table that weighing lets through. -/
def RowsLe (l : List (List Int)) (b : Nat) : Prop := l.length ≤ b ∧ ∀ x ∈ l, x.length ≤ b
theorem szIntSS_ev (l : List (List Int)) (a : Int) (ha : 0 ≤ a) (ha' : a ≤ 1048576) (hl : l.length ≤ 9223372036854775807) (hw : ∀ x ∈ l, x.length ≤ 9223372036854775807) :
    ∃ t, Evt (fun k => laws_szIntSS.f k l a) t ∧ (t = -1 ∨ (0 ≤ t ∧ t ≤ a ∧ RowsLe l 1048576)) := by
  simp only [laws_szIntSS.f]
  rw [w64_sub (by omega) ha' hl]
  by_cases h1 : a - l.length < 0
  · exact ⟨-1, Evt.pos h1 (Evt.ret _), .inl rfl⟩
  have h : ∀ d i : Nat, i + d = l.length → ∀ b : Int, 0 ≤ b → b ≤ 1048576 → ∃ t, Evt (fun k => laws_szIntSS.l0 k l b (i : Int)) t ∧ (t = -1 ∨ (0 ≤ t ∧ t ≤ b ∧ ∀ x ∈ l.drop i, x.length ≤ 1048576)) := by
    intro d
    induction d with
    | zero =>
      intro i hi b hb hb'
      refine ⟨b, Evt.step ?_, .inr ⟨hb, Int.le_refl _, ?_⟩⟩
      · simp only [laws_szIntSS.l0]
        exact Evt.neg (by omega) (Evt.ret _)
      · rw [List.drop_of_length_le (by omega)]
        intro x hx
        cases hx
    | succ d ih =>
      intro i hi b hb hb'
      have hi' : i < l.length := by omega
      obtain ⟨t, ht, hc⟩ := szIntS_eq l[i] b (by omega) hb' (hw _ (List.getElem_mem hi'))
      by_cases h2 : t < 0
      · refine ⟨-1, Evt.step ?_, .inl rfl⟩
        simp only [laws_szIntSS.l0]
        rw [rows_at l i hi']
        exact Evt.pos (by omega) (Evt.pos (by omega) (Evt.bindc ht (Evt.pos h2 (Evt.ret _))))
      · have hc' : 0 ≤ t ∧ t = b - l[i].length := hc.elim (fun e => absurd (show t < 0 by omega) h2) id
        obtain ⟨t', ht', hc2⟩ := ih (i + 1) (by omega) t (by omega) (by omega)
        refine ⟨t', Evt.step ?_, ?_⟩
        · simp only [laws_szIntSS.l0]
          rw [rows_at l i hi', w64s (by omega)]
          exact Evt.pos (by omega) (Evt.pos (by omega) (Evt.bindc ht (Evt.neg h2 ht')))
        · rcases hc2 with h3 | ⟨h3, h4, h5⟩
          · exact .inl h3
          · refine .inr ⟨h3, by omega, ?_⟩
            rw [List.drop_eq_getElem_cons hi']
            intro x hx
            rcases List.mem_cons.1 hx with rfl | hx
            · omega
            · exact h5 x hx
  obtain ⟨t, ht, hc⟩ := h l.length 0 (by omega) (a - l.length) (by omega) (by omega)
  refine ⟨t, Evt.neg h1 ht, ?_⟩
  rcases hc with hc | ⟨h2, h3, h4⟩
  · exact .inl hc
  · exact .inr ⟨h2, by omega, by omega, by simpa using h4⟩
theorem set_nextR (l : List (List Int)) (i n : Nat) (hn : l.length = n) (hi : i < n) : (l.take i ++ List.replicate (n - i) []).set i l[i] = l.take (i + 1) ++ List.replicate (n - (i + 1)) [] := by
  have hl : (l.take i).length = i := by rw [List.length_take]; omega
  rw [List.set_append_right _ _ (by omega), hl, Nat.sub_self, show n - i = (n - (i + 1)) + 1 by omega, List.replicate_succ, List.set_cons_zero, List.take_succ_eq_append_getElem (by omega), List.append_assoc]
  rfl
theorem toIntSS_ev (l : List (List Int)) (hl : RowsLe l 1048576) : Evt (fun k => laws_toIntSS.f k l) l := by
  have hn := hl.1
  simp only [laws_toIntSS.f]
  refine Evt.pos (by omega) (Evt.pos (by omega) ?_)
  rw [Int.toNat_natCast]
  have h : ∀ d i : Nat, i + d = l.length → Evt (fun k => laws_toIntSS.l0 k l (l.take i ++ List.replicate (l.length - i) []) (i : Int)) l := by
    intro d
    induction d with
    | zero =>
      intro i hi
      refine Evt.step ?_
      simp only [laws_toIntSS.l0]
      refine Evt.neg (by omega) (Evt.const ?_)
      obtain rfl : i = l.length := by omega
      simp
    | succ d ih =>
      intro i hi
      have hi' : i < l.length := by omega
      have hx := hl.2 _ (List.getElem_mem hi')
      refine Evt.step ?_
      simp only [laws_toIntSS.l0]
      rw [rows_at l i hi']
      refine Evt.pos (by omega) (Evt.pos (by omega) (Evt.bind (toIntS_ev _ (by omega)) (Evt.pos (by simp; omega) ?_)))
      rw [Int.toNat_natCast, set_nextR l i l.length rfl hi', w64s (by omega)]
      exact ih (i + 1) (by omega)
  simpa using h l.length 0 (by omega)
theorem eqIntSS_ev (l l' : List (List Int)) (hl : l.length ≤ 9223372036854775807) (hw : ∀ x ∈ l, x.length ≤ 9223372036854775807) : Evt (fun k => laws_eqIntSS.f k l l') (decide (l = l')) := by
  simp only [laws_eqIntSS.f]
  by_cases he : l.length = l'.length
  · refine Evt.pos (by omega) ?_
    have h := Evt.up (fun k i => laws_eqIntSS.l0 k l l' i) l.length (fun i => decide (l.drop i = l'.drop i)) ?_ ?_
    · simpa using h
    · refine Evt.step ?_
      simp only [laws_eqIntSS.l0]
      refine Evt.neg (by omega) (Evt.const ?_)
      rw [List.drop_of_length_le (Nat.le_refl _), List.drop_of_length_le (by omega)]
      rfl
    · intro i hi h
      refine Evt.step ?_
      simp only [laws_eqIntSS.l0]
      have hi' : i < l'.length := by omega
      rw [rows_at l i hi, rows_at l' i hi']
      refine Evt.pos (by omega) (Evt.pos (by omega) (Evt.pos (by omega) (Evt.bind (eqIntS_ev _ _ (hw _ (List.getElem_mem hi))) ?_)))
      rw [List.drop_eq_getElem_cons hi, List.drop_eq_getElem_cons hi', w64s (by omega)]
      by_cases hc : l[i] = l'[i]
      · exact Evt.pos (by simp [hc]) (h.cast (by rw [hc]; simp only [List.cons.injEq, true_and]))
      · exact Evt.neg (by simp [hc]) (Evt.const (by rw [decide_eq_false (fun e => hc (List.cons.inj e).1)]))
  · refine Evt.neg (by omega) (Evt.const ?_)
    have : l ≠ l' := fun e => he (by rw [e])
    simp [this]

end Go.Proofs.Ytjmfpaalglbbhaa.F


namespace Go.Proofs.Ytjmfpaalglbbhaa.F
set_option linter.unusedVariables false
set_option linter.unusedSimpArgs false
open Go Go.RowKit Go.Proofs.YtjmfpaalglbbhaaW.PrintWords Go.Proofs.Ytjmfpaalglbbhaa.Pl Go.Proofs.Ytjmfpaalglbbhaa.A Go.Proofs.Ytjmfpaalglbbhaa.Ext

theorem df_l1In (a lo hi : Int) : spec_l1In.f a lo hi = some (decide (lo ≤ a ∧ a ≤ hi)) := by
  unfold spec_l1In.f
  by_cases h : a ≥ lo
  · rw [if_pos h]
    congr 1
    exact decide_eq_decide.2 ⟨fun h' => ⟨h, h'⟩, fun h' => h'.2⟩
  · rw [if_neg h]
    congr 1
    exact (decide_eq_false (fun h' => h h'.1)).symm
theorem spec_IsValidDfa_ev (A : List Bool) (P : List (List Int)) (hA : A.length ≤ 9223372036854775807) (hw : ∀ r ∈ P, r.length ≤ 9223372036854775807) : Evt (fun k => spec_IsValidDfa.f k A P) (dfaB A P) := by
  simp only [spec_IsValidDfa.f]
  unfold dfaB
  have hbad : Evt (fun k => spec_IsValidDfa.j0 k (A.length : Int) true A P) false := by
    refine Evt.step ?_
    simp only [spec_IsValidDfa.j0]
    exact Evt.pos trivial (Evt.ret _)
  by_cases h1 : 1 ≤ A.length ∧ A.length ≤ 40
  · refine Evt.bindc (df_l1In _ _ _) (Evt.pos (by simp; omega) ?_)
    by_cases h2 : P.length = A.length
    · rw [show ((P.length : Int) != (A.length : Int)) = false by rw [h2]; exact bne_self_eq_false _]
      refine Evt.step ?_
      simp only [spec_IsValidDfa.j0]
      refine Evt.neg (by decide) ?_
      have hh := Evt.up (fun k i => spec_IsValidDfa.l0 k (A.length : Int) i A P) A.length (fun i => (P.drop i).all (dfRow A.length)) ?_ ?_
      · exact hh.cast (by simp [h1, h2])
      · refine Evt.step ?_
        simp only [spec_IsValidDfa.l0]
        rw [List.drop_of_length_le (by omega)]
        exact Evt.neg (by omega) (Evt.ret _)
      · intro i hi hn
        have hi' : i < P.length := by omega
        have hrow : rd_L1 P (i : Int) = P[i] := by simp [rd_L1, hi']
        have hlen := hw _ (List.getElem_mem hi')
        refine Evt.step ?_
        simp only [spec_IsValidDfa.l0]
        rw [List.drop_eq_getElem_cons hi', List.all_cons, hrow]
        refine Evt.pos (by omega) (Evt.pos (by omega) (Evt.pos (by omega) ?_))
        by_cases h3 : P[i].length = 3
        · refine Evt.pos (by omega) ?_
          have hin := Evt.up (fun k j => spec_IsValidDfa.l1 k (A.length : Int) (i : Int) j A P) P[i].length (fun j => (P[i].drop j).all (dfIn A.length) && (P.drop (i + 1)).all (dfRow A.length)) ?_ ?_
          · exact hin.cast (by simp [dfRow, h3])
          · refine Evt.step ?_
            simp only [spec_IsValidDfa.l1]
            rw [hrow, w64s (i := i) (by omega), List.drop_of_length_le (Nat.le_refl P[i].length)]
            exact Evt.pos (by omega) (Evt.pos (by omega) (Evt.neg (by omega) (hn.cast (by simp))))
          · intro j hj hnj
            have hrd : rd P[i] (j : Int) = P[i][j] := by simp [rd, hj]
            refine Evt.step ?_
            simp only [spec_IsValidDfa.l1]
            rw [hrow, hrd, w64s (i := j) (by omega), w64 (x := (A.length : Int) - 1) (by omega) (by omega), List.drop_eq_getElem_cons hj, List.all_cons]
            refine Evt.pos (by omega) (Evt.pos (by omega) (Evt.pos (by omega) (Evt.pos (by omega) (Evt.bindc (df_l1In _ _ _) ?_))))
            have e : dfIn A.length P[i][j] = decide (0 ≤ P[i][j] ∧ P[i][j] ≤ (A.length : Int) - 1) := by
              unfold dfIn
              by_cases q1 : 0 ≤ P[i][j] <;> by_cases q2 : P[i][j] ≤ (A.length : Int) - 1 <;> simp [q1, q2]
            rw [e]
            by_cases q : 0 ≤ P[i][j] ∧ P[i][j] ≤ (A.length : Int) - 1
            · exact Evt.pos (decide_eq_true q) (hnj.cast (by simp [q]))
            · exact Evt.neg (by simpa using q) ((Evt.ret _).cast (by simp [q]))
        · exact Evt.neg (by omega) ((Evt.ret _).cast (by simp [dfRow, h3]))
    · rw [show ((P.length : Int) != (A.length : Int)) = true from bne_iff_ne.mpr (by omega)]
      exact hbad.cast (by simp [h2])
  · exact Evt.bindc (df_l1In _ _ _) (Evt.neg (by simp; omega) (hbad.cast (by simp [h1])))

end Go.Proofs.Ytjmfpaalglbbhaa.F


namespace Go.Proofs.Ytjmfpaalglbbhaa.F
set_option linter.unusedVariables false
set_option linter.unusedSimpArgs false
open Go Go.RowKit Go.Proofs.YtjmfpaalglbbhaaW.PrintWords Go.Proofs.Ytjmfpaalglbbhaa.Pl Go.Proofs.Ytjmfpaalglbbhaa.A Go.Proofs.Ytjmfpaalglbbhaa.Ext

/-! What a row's number in a table is. -/
theorem numOf_spec {P : List (List Int)} {x : List Int} (h : x ∈ P) : ∃ i : Nat, i < P.length ∧ numOf P x = (i : Int) ∧ P.getD i [] = x ∧ ∀ j, j < i → P.getD j [] ≠ x := by
  unfold numOf idxN
  cases hf : (List.range P.length).find? (fun i => decide (x = P.getD i [])) with
  | none =>
    obtain ⟨i, hi, e⟩ := List.getElem_of_mem h
    have := List.find?_eq_none.1 hf i (List.mem_range.2 hi)
    exact absurd (by simp [hi, e]) this
  | some i =>
    obtain ⟨h1, h2, h3⟩ := List.find?_range_eq_some.1 hf
    refine ⟨i, List.mem_range.1 h2, rfl, (of_decide_eq_true h1).symm, fun j hj e => ?_⟩
    have := h3 j hj
    rw [decide_eq_true e.symm] at this
    exact absurd this (by decide)
theorem numOf_none {P : List (List Int)} {x : List Int} (h : x ∉ P) : numOf P x = -1 := by
  refine idxN_miss _ _ (fun j hj => decide_eq_false (fun e => h ?_))
  rw [e, List.getD_eq_getElem?_getD, List.getElem?_eq_getElem hj]
  exact List.getElem_mem hj
theorem numOf_neg {P : List (List Int)} {x : List Int} : numOf P x < 0 ↔ x ∉ P := by
  constructor
  · intro h hm
    obtain ⟨i, _, e, _⟩ := numOf_spec hm
    omega
  · intro h
    rw [numOf_none h]
    omega
theorem numOf_append {P t : List (List Int)} {x : List Int} (h : x ∈ P) : numOf (P ++ t) x = numOf P x := by
  obtain ⟨i, hi, e, h1, h2⟩ := numOf_spec h
  have hg : ∀ j, j < P.length → (P ++ t).getD j [] = P.getD j [] := fun j hj => by
    rw [List.getD_eq_getElem?_getD, List.getD_eq_getElem?_getD, List.getElem?_append_left hj]
  rw [e]
  exact idxN_hit _ _ i (by rw [List.length_append]; omega) (fun j hj => decide_eq_false (fun q => h2 j hj (by rw [← hg j (by omega)]; exact q.symm))) (decide_eq_true (by rw [hg i hi, h1]))
theorem find_ev (P : List (List Int)) (x : List Int) (hP : P.length ≤ 1000000) (hw : ∀ r ∈ P, r.length ≤ 1000000) : Evt (fun k => spec_l13Find.f k P x) (numOf P x) := by
  simp only [spec_l13Find.f]
  have h : ∀ d j : Nat, j + d = P.length → (∀ i, i < j → P.getD i [] ≠ x) → Evt (fun k => spec_l13Find.l0 k P x (j : Int)) (numOf P x) := by
    intro d
    induction d with
    | zero =>
      intro j hj hn
      refine Evt.step ?_
      simp only [spec_l13Find.l0]
      refine Evt.neg (by omega) ((Evt.ret _).cast ?_)
      exact (idxN_miss _ _ (fun i hi => decide_eq_false (fun e => hn i (by omega) e.symm))).symm
    | succ d ih =>
      intro j hj hn
      refine Evt.step ?_
      simp only [spec_l13Find.l0]
      have hm : j < P.length := by omega
      rw [rows_at P j hm, w64s (by omega)]
      have hg : P.getD j [] = P[j] := by rw [List.getD_eq_getElem?_getD, List.getElem?_eq_getElem hm]; rfl
      have hl := hw _ (List.getElem_mem hm)
      refine Evt.pos (by omega) (Evt.pos (by omega) (Evt.bind (l5Ints_ev P[j] x (by omega)) ?_))
      by_cases e : P[j] = x
      · refine Evt.pos (decide_eq_true e) ((Evt.ret _).cast ?_)
        exact (idxN_hit _ _ j hm (fun i hi => decide_eq_false (fun q => hn i hi q.symm)) (decide_eq_true (by rw [hg, e]))).symm
      · refine Evt.neg (by simp [e]) (ih (j + 1) (by omega) (fun i hi => ?_))
        by_cases q : i = j
        · rw [q, hg]
          exact e
        · exact hn i (by omega)
  exact h P.length 0 (by omega) (fun i hi => absurd hi (Nat.not_lt_zero _))

/-- A map of n states into n states. -/
def GoodR (n : Nat) (r : List Int) : Prop := r.length = n ∧ ∀ q ∈ r, 0 ≤ q ∧ q < (n : Int)
/-- First x, then y. -/
def aft (x y : List Int) : List Int := x.map (fun q => rd y q)
def colX (X : List (List Int)) (c : Nat) : List Int := X.map (fun r => rd r (c : Int))
theorem rd_in (l : List Int) (q : Int) (h0 : 0 ≤ q) (h1 : q < (l.length : Int)) : rd l q ∈ l := by
  unfold rd
  rw [List.getD_eq_getElem?_getD, List.getElem?_eq_getElem (by omega)]
  exact List.getElem_mem _
theorem rows_in (l : List (List Int)) (q : Int) (h0 : 0 ≤ q) (h1 : q < (l.length : Int)) : rd_L1 l q ∈ l := by
  unfold rd_L1
  rw [List.getD_eq_getElem?_getD, List.getElem?_eq_getElem (by omega)]
  exact List.getElem_mem _
theorem aft_good {n : Nat} {x y : List Int} (hx : GoodR n x) (hy : GoodR n y) : GoodR n (aft x y) := by
  refine ⟨by rw [aft, List.length_map]; exact hx.1, fun q hq => ?_⟩
  obtain ⟨p, hp, rfl⟩ := List.mem_map.1 hq
  have := hx.2 p hp
  exact hy.2 _ (rd_in y p this.1 (by rw [hy.1]; exact this.2))
/-- An automaton's table. -/
structure DfaX (n : Nat) (X : List (List Int)) : Prop where
  len : X.length = n
  lo : 1 ≤ n
  hi : n ≤ 40
  row : ∀ r ∈ X, r.length = 3 ∧ ∀ q ∈ r, 0 ≤ q ∧ q < (n : Int)
theorem dfaX_of {A : List Bool} {X : List (List Int)} (h : dfaB A X = true) : DfaX A.length X := by
  unfold dfaB at h
  simp only [Bool.and_eq_true, decide_eq_true_eq, List.all_eq_true] at h
  obtain ⟨h1, h2, h3⟩ := h
  refine ⟨h2, h1.1, h1.2, fun r hr => ?_⟩
  have := h3 r hr
  unfold dfRow at this
  simp only [Bool.and_eq_true, decide_eq_true_eq, List.all_eq_true] at this
  refine ⟨this.1, fun q hq => ?_⟩
  have := this.2 q hq
  unfold dfIn at this
  simp only [Bool.and_eq_true, decide_eq_true_eq] at this
  omega
theorem col_good {n : Nat} {X : List (List Int)} (hX : DfaX n X) (c : Nat) (hc : c < 3) : GoodR n (colX X c) := by
  refine ⟨by rw [colX, List.length_map]; exact hX.len, fun q hq => ?_⟩
  obtain ⟨r, hr, rfl⟩ := List.mem_map.1 hq
  have := hX.row r hr
  exact this.2 _ (rd_in r _ (by omega) (by rw [this.1]; omega))
theorem rd_col {X : List (List Int)} (c : Nat) (q : Int) (h0 : 0 ≤ q) (h1 : q < (X.length : Int)) : rd (colX X c) q = rd (rd_L1 X q) (c : Int) := by
  conv => lhs; unfold rd
  unfold rd_L1 colX
  have h : q.toNat < X.length := by omega
  simp [List.getD_eq_getElem?_getD, List.getElem?_eq_getElem h]

theorem after_ev {n : Nat} (x y : List Int) (hn : n ≤ 40) (hx : GoodR n x) (hy : y.length = n) : Evt (fun k => spec_l13After.f k x y) (aft x y) := by
  simp only [spec_l13After.f]
  have h : ∀ d j : Nat, j + d = x.length → Evt (fun k => spec_l13After.l0 k x y ((x.take j).map (fun q => rd y q)) (j : Int)) (aft x y) := by
    intro d
    induction d with
    | zero =>
      intro j hj
      refine Evt.step ?_
      simp only [spec_l13After.l0]
      refine Evt.neg (by omega) ((Evt.ret _).cast ?_)
      rw [List.take_of_length_le (by omega)]
      rfl
    | succ d ih =>
      intro j hj
      have hm : j < x.length := by omega
      refine Evt.step ?_
      simp only [spec_l13After.l0]
      have hq := hx.2 _ (List.getElem_mem hm)
      have hl := hx.1
      rw [rd_at x j hm, w64s (by omega)]
      have h1 := ih (j + 1) (by omega)
      rw [List.take_succ_eq_append_getElem hm, List.map_append] at h1
      refine Evt.pos (by omega) (Evt.pos (by omega) (Evt.pos (by omega) (Evt.pos (by omega) (Evt.pos ?_ h1))))
      rw [List.length_map, List.length_take]
      omega
  exact h x.length 0 (by omega)

theorem letters_ev {n : Nat} (A : List Bool) (X : List (List Int)) (hX : DfaX n X) : Evt (fun k => spec_l13Letters.f k A X) [colX X 0, colX X 1, colX X 2] := by
  simp only [spec_l13Letters.f]
  have hlen := hX.len
  have hhi := hX.hi
  have hin : ∀ (acc : List (List Int)) (c : Nat) (r : List (List Int)), c < 3 → acc.length < 3 → Evt (fun k => spec_l13Letters.l0 k (acc ++ [colX X c]) ((c + 1 : Nat) : Int) A X) r → Evt (fun k => spec_l13Letters.l1 k acc (c : Int) [] 0 A X) r := by
    intro acc c r hc hacc hr
    have h : ∀ d j : Nat, j + d = X.length → Evt (fun k => spec_l13Letters.l1 k acc (c : Int) ((X.take j).map (fun r => rd r (c : Int))) (j : Int) A X) r := by
      intro d
      induction d with
      | zero =>
        intro j hj
        refine Evt.step ?_
        simp only [spec_l13Letters.l1]
        rw [List.take_of_length_le (by omega), w64s (i := c) (by omega)]
        exact Evt.neg (by omega) (Evt.pos (by omega) hr)
      | succ d ih =>
        intro j hj
        have hm : j < X.length := by omega
        have h3 := (hX.row _ (List.getElem_mem hm)).1
        have h1 := ih (j + 1) (by omega)
        rw [List.take_succ_eq_append_getElem hm, List.map_append] at h1
        refine Evt.step ?_
        simp only [spec_l13Letters.l1]
        rw [rows_at X j hm, w64s (by omega)]
        refine Evt.pos (by omega) (Evt.pos (by omega) (Evt.pos (by omega) (Evt.pos (by omega) (Evt.pos ?_ h1))))
        rw [List.length_map, List.length_take]
        omega
    exact h X.length 0 (by omega)
  refine Evt.step ?_
  simp only [spec_l13Letters.l0]
  refine Evt.pos (by omega) (hin [] 0 _ (by omega) (by simp) (Evt.step ?_))
  simp only [spec_l13Letters.l0]
  refine Evt.pos (by omega) (hin _ 1 _ (by omega) (by simp) (Evt.step ?_))
  simp only [spec_l13Letters.l0]
  refine Evt.pos (by omega) (hin _ 2 _ (by omega) (by simp) (Evt.step ?_))
  simp only [spec_l13Letters.l0]
  exact Evt.neg (by omega) (Evt.ret _)

/-! The table of products. -/
def tabRow (P : List (List Int)) (x : List Int) : List Int := P.map (fun y => numOf P (aft x y))
section
variable {n : Nat} {P : List (List Int)} {L : List Int} (hn : n ≤ 40) (hP : P.length ≤ 30) (hG : ∀ r ∈ P, GoodR n r)
include hn hP hG
theorem spec_tab (D : List (List Int)) (a : Nat) (ha : a + D.length ≤ 60) (hh : a < P.length) {r : List (List Int) × List Int × List (List Int) × Bool} (hr : Evt (fun k => spec_BuildMonoid.l4 k ((a + 1 : Nat) : Int) P L (D ++ [tabRow P P[a]])) r) : Evt (fun k => spec_BuildMonoid.l5 k (a : Int) [] 0 P L D) r := by
  have h : ∀ d j : Nat, j + d = P.length → Evt (fun k => spec_BuildMonoid.l5 k (a : Int) ((P.take j).map (fun y => numOf P (aft P[a] y))) (j : Int) P L D) r := by
    intro d
    induction d with
    | zero =>
      intro j hj
      refine Evt.step ?_
      simp only [spec_BuildMonoid.l5]
      rw [List.take_of_length_le (by omega), w64s (i := a) (by omega)]
      exact Evt.neg (by omega) (Evt.pos (by omega) hr)
    | succ d ih =>
      intro j hj
      have hm : j < P.length := by omega
      have h1 := ih (j + 1) (by omega)
      rw [List.take_succ_eq_append_getElem hm, List.map_append] at h1
      refine Evt.step ?_
      simp only [spec_BuildMonoid.l5]
      rw [rows_at P j hm, rows_at P a hh, w64s (i := j) (by omega)]
      refine Evt.pos (by omega) (Evt.pos (by omega) (Evt.pos (by omega) (Evt.pos (by omega) (Evt.bind (after_ev P[a] P[j] hn (hG _ (List.getElem_mem hh)) (hG _ (List.getElem_mem hm)).1) (Evt.bind (find_ev P _ (by omega) (fun r hr => by have := (hG r hr).1; omega)) (Evt.pos ?_ h1))))))
      rw [List.length_map, List.length_take]
      omega
  exact h P.length 0 (by omega)
theorem spec_tabs : ∀ (d a : Nat), a + d = P.length → Evt (fun k => spec_BuildMonoid.l4 k (a : Int) P L ((P.take a).map (tabRow P))) (P, L, P.map (tabRow P), true) := by
  intro d
  induction d with
  | zero =>
    intro a ha
    refine Evt.step ?_
    simp only [spec_BuildMonoid.l4]
    rw [List.take_of_length_le (by omega)]
    exact Evt.neg (by omega) (Evt.ret _)
  | succ d ih =>
    intro a ha
    have hm : a < P.length := by omega
    have h1 := ih (a + 1) (by omega)
    rw [List.take_succ_eq_append_getElem hm, List.map_append] at h1
    refine Evt.step ?_
    simp only [spec_BuildMonoid.l4]
    exact Evt.pos (by omega) (spec_tab hn hP hG _ a (by rw [List.length_map, List.length_take]; omega) hm h1)
theorem impl_cell (D : List (List Int)) (a b : Nat) (row : List Int) (hb : b < P.length) (hrow : row.length ≤ 60) (x : List Int) (hx : GoodR n x) {r : BmR} (hr : Evt (fun k => impl_BuildMonoid.l6 k P L D (a : Int) x (row ++ [numOf P (aft x P[b])]) ((b + 1 : Nat) : Int)) r) : Evt (fun k => impl_BuildMonoid.l7 k P L D (a : Int) x row (b : Int) P[b] [] 0) r := by
  have h : ∀ d j : Nat, j + d = x.length → Evt (fun k => impl_BuildMonoid.l7 k P L D (a : Int) x row (b : Int) P[b] ((x.take j).map (fun q => rd P[b] q)) (j : Int)) r := by
    intro d
    induction d with
    | zero =>
      intro j hj
      refine Evt.step ?_
      simp only [impl_BuildMonoid.l7]
      rw [List.take_of_length_le (by omega), w64s (i := b) (by omega)]
      exact Evt.neg (by omega) (Evt.pos (by omega) hr)
    | succ d ih =>
      intro j hj
      have hm : j < x.length := by omega
      have hq := hx.2 _ (List.getElem_mem hm)
      have hl := hx.1
      have hy := (hG _ (List.getElem_mem hb)).1
      have h1 := ih (j + 1) (by omega)
      rw [List.take_succ_eq_append_getElem hm, List.map_append] at h1
      refine Evt.step ?_
      simp only [impl_BuildMonoid.l7]
      rw [rd_at x j hm, w64s (i := j) (by omega)]
      refine Evt.pos (by omega) (Evt.pos (by omega) (Evt.pos (by omega) (Evt.pos (by omega) (Evt.pos ?_ h1))))
      rw [List.length_map, List.length_take]
      omega
  exact h x.length 0 (by omega)
theorem impl_row (D : List (List Int)) (a : Nat) (ha : a < P.length) (hD : D.length ≤ 60) {r : BmR} (hr : Evt (fun k => impl_BuildMonoid.l5 k P L (D ++ [tabRow P P[a]]) ((a + 1 : Nat) : Int)) r) : Evt (fun k => impl_BuildMonoid.l6 k P L D (a : Int) P[a] [] 0) r := by
  have h : ∀ d j : Nat, j + d = P.length → Evt (fun k => impl_BuildMonoid.l6 k P L D (a : Int) P[a] ((P.take j).map (fun y => numOf P (aft P[a] y))) (j : Int)) r := by
    intro d
    induction d with
    | zero =>
      intro j hj
      refine Evt.step ?_
      simp only [impl_BuildMonoid.l6]
      rw [List.take_of_length_le (by omega), w64s (i := a) (by omega)]
      exact Evt.neg (by omega) (Evt.pos (by omega) hr)
    | succ d ih =>
      intro j hj
      have hm : j < P.length := by omega
      have h1 := ih (j + 1) (by omega)
      rw [List.take_succ_eq_append_getElem hm, List.map_append] at h1
      refine Evt.step ?_
      simp only [impl_BuildMonoid.l6]
      rw [rows_at P j hm]
      exact Evt.pos (by omega) (Evt.pos (by omega) (impl_cell hn hP hG D a j _ hm (by rw [List.length_map, List.length_take]; omega) P[a] (hG _ (List.getElem_mem ha)) h1))
  exact h P.length 0 (by omega)
theorem impl_tabs : ∀ (d a : Nat), a + d = P.length → Evt (fun k => impl_BuildMonoid.l5 k P L ((P.take a).map (tabRow P)) (a : Int)) (P, L, P.map (tabRow P), true) := by
  intro d
  induction d with
  | zero =>
    intro a ha
    refine Evt.step ?_
    simp only [impl_BuildMonoid.l5]
    rw [List.take_of_length_le (by omega)]
    exact Evt.neg (by omega) (Evt.ret _)
  | succ d ih =>
    intro a ha
    have hm : a < P.length := by omega
    have h1 := ih (a + 1) (by omega)
    rw [List.take_succ_eq_append_getElem hm, List.map_append] at h1
    refine Evt.step ?_
    simp only [impl_BuildMonoid.l5]
    rw [rows_at P a hm]
    exact Evt.pos (by omega) (Evt.pos (by omega) (impl_row hn hP hG _ a hm (by rw [List.length_map, List.length_take]; omega) h1))
end

/-! The rounds over the maps. -/
theorem if_len (i : Nat) (L : List Int) (x : Int) (b : Nat) (h : L.length ≤ b) : (if i = 0 then L ++ [x] else L).length ≤ b + 1 := by
  by_cases q : i = 0
  · rw [if_pos q, List.length_append, List.length_singleton]; omega
  · rw [if_neg q]; omega
def addM (P : List (List Int)) (r : List Int) : List (List Int) := if numOf P r < 0 then P ++ [r] else P
theorem addM_mem (P : List (List Int)) (r : List Int) : r ∈ addM P r := by
  unfold addM
  by_cases h : numOf P r < 0
  · rw [if_pos h]; simp
  · rw [if_neg h]
    exact Decidable.byContradiction (fun q => h (numOf_neg.2 q))
theorem addM_ext (P : List (List Int)) (r : List Int) : ∃ t, addM P r = P ++ t ∧ t.length ≤ 1 ∧ ∀ x ∈ t, x = r := by
  unfold addM
  by_cases h : numOf P r < 0
  · exact ⟨[r], by rw [if_pos h], by simp, by simp⟩
  · exact ⟨[], by rw [if_neg h, List.append_nil], by simp, by simp⟩
theorem addM_good {n : Nat} {P : List (List Int)} {r : List Int} (hP : ∀ x ∈ P, GoodR n x) (hr : GoodR n r) : ∀ x ∈ addM P r, GoodR n x := by
  obtain ⟨t, e, _, ht⟩ := addM_ext P r
  rw [e]
  intro x hx
  rcases List.mem_append.1 hx with h | h
  · exact hP x h
  · rw [ht x h]; exact hr
theorem addM_len (P : List (List Int)) (r : List Int) : P.length ≤ (addM P r).length ∧ (addM P r).length ≤ P.length + 1 := by
  obtain ⟨t, e, h1, _⟩ := addM_ext P r
  rw [e, List.length_append]
  omega
theorem addM_at (P : List (List Int)) (r : List Int) (i : Nat) (h : i < P.length) : rd_L1 (addM P r) (i : Int) = rd_L1 P (i : Int) := by
  obtain ⟨t, e, _, _⟩ := addM_ext P r
  rw [e, rows_at _ i (by rw [List.length_append]; omega), rows_at P i h, List.getElem_append_left h]
theorem addM_num (P : List (List Int)) (r : List Int) {x : List Int} (h : x ∈ P) : numOf (addM P r) x = numOf P x := by
  obtain ⟨t, e, _, _⟩ := addM_ext P r
  rw [e]
  exact numOf_append h
theorem addM_sub (P : List (List Int)) (r : List Int) {x : List Int} (h : x ∈ P) : x ∈ addM P r := by
  obtain ⟨t, e, _, _⟩ := addM_ext P r
  rw [e]
  exact List.mem_append_left _ h

section
variable {n : Nat} {X : List (List Int)} (hX : DfaX n X)
include hX
/-- One letter of a round, in the program. -/
theorem impl_step (P : List (List Int)) (L : List Int) (i c : Nat) (hP : P.length ≤ 30) (hi : i < P.length) (hc : c < 3) (hL : L.length ≤ 60) (hg : GoodR n (rd_L1 P (i : Int))) {q : BmR}
    (hbig : 30 < (addM P (aft (rd_L1 P (i : Int)) (colX X c))).length → q = ([], [], [], false))
    (hr : (addM P (aft (rd_L1 P (i : Int)) (colX X c))).length ≤ 30 → Evt (fun k => impl_BuildMonoid.l2 k X (addM P (aft (rd_L1 P (i : Int)) (colX X c))) (if i = 0 then L ++ [numOf (addM P (aft (rd_L1 P (i : Int)) (colX X c))) (aft (rd_L1 P (i : Int)) (colX X c))] else L) (i : Int) ((c + 1 : Nat) : Int)) q) :
    Evt (fun k => impl_BuildMonoid.l2 k X P L (i : Int) (c : Int)) q := by
  have hlen := hX.len
  have hhi := hX.hi
  refine Evt.step ?_
  simp only [impl_BuildMonoid.l2]
  refine Evt.pos (by omega) (Evt.pos (by omega) (Evt.pos (by omega) ?_))
  generalize rd_L1 P (i : Int) = row at *
  have hl := hg.1
  have h : ∀ d j : Nat, j + d = row.length → Evt (fun k => impl_BuildMonoid.l3 k X P L (i : Int) (c : Int) ((row.take j).map (fun q => rd (colX X c) q)) row (j : Int)) q := by
    intro d
    induction d with
    | zero =>
      intro j hj
      refine Evt.step ?_
      simp only [impl_BuildMonoid.l3]
      rw [List.take_of_length_le (by omega), w64s (i := c) (by omega)]
      refine Evt.neg (by omega) ?_
      rw [show List.map (fun q => rd (colX X c) q) row = aft row (colX X c) from rfl]
      generalize aft row (colX X c) = nx at *
      unfold addM at hbig hr
      by_cases h0 : numOf P nx < 0
      · rw [if_pos h0] at hbig hr
        rw [List.length_append, List.length_singleton] at hbig hr
        refine Evt.pos h0 (Evt.pos (by omega) ?_)
        by_cases h1 : 30 < P.length + 1
        · exact Evt.pos (by omega) ((Evt.ret _).cast (hbig h1).symm)
        · have hr := hr (by omega)
          refine Evt.neg (by omega) ?_
          by_cases h2 : i = 0
          · rw [if_pos h2] at hr
            exact Evt.pos (by omega) (Evt.pos (by omega) hr)
          · rw [if_neg h2] at hr
            exact Evt.neg (by omega) hr
      · rw [if_neg h0] at hbig hr
        have hr := hr (by omega)
        refine Evt.neg h0 ?_
        by_cases h2 : i = 0
        · rw [if_pos h2] at hr
          exact Evt.pos (by omega) (Evt.pos (by omega) hr)
        · rw [if_neg h2] at hr
          exact Evt.neg (by omega) hr
    | succ d ih =>
      intro j hj
      have hm : j < row.length := by omega
      have hq := hg.2 _ (List.getElem_mem hm)
      have h1 := ih (j + 1) (by omega)
      rw [List.take_succ_eq_append_getElem hm, List.map_append, List.map_singleton, rd_col c _ hq.1 (by omega)] at h1
      have h3 := (hX.row _ (rows_in X row[j] hq.1 (by omega))).1
      refine Evt.step ?_
      simp only [impl_BuildMonoid.l3]
      rw [rd_at row j hm, w64s (i := j) (by omega)]
      refine Evt.pos (by omega) (Evt.pos (by omega) (Evt.pos (by omega) (Evt.pos (by omega) (Evt.pos (by omega) (Evt.pos (by omega) (Evt.pos ?_ h1))))))
      rw [List.length_map, List.length_take]
      omega
  exact h row.length 0 (by omega)
/-- One letter of a round, in the reference. -/
theorem spec_step (P : List (List Int)) (i c : Nat) (hP : P.length ≤ 60) (hi : i < P.length) (hc : c < 3) (hG : ∀ r ∈ P, GoodR n r) {q : BmR}
    (hr : Evt (fun k => spec_BuildMonoid.l2 k [colX X 0, colX X 1, colX X 2] (i : Int) ((c + 1 : Nat) : Int) (addM P (aft (rd_L1 P (i : Int)) (colX X c)))) q) :
    Evt (fun k => spec_BuildMonoid.l2 k [colX X 0, colX X 1, colX X 2] (i : Int) (c : Int) P) q := by
  have hg : GoodR n (rd_L1 P (i : Int)) := hG _ (rows_in P _ (by omega) (by omega))
  have hcol : rd_L1 [colX X 0, colX X 1, colX X 2] (c : Int) = colX X c := by
    rcases (by omega : c = 0 ∨ c = 1 ∨ c = 2) with rfl | rfl | rfl <;> rfl
  have hhi := hX.hi
  refine Evt.step ?_
  simp only [spec_BuildMonoid.l2]
  rw [hcol, w64s (i := c) (by omega)]
  refine Evt.pos (by simp; omega) (Evt.pos (by omega) (Evt.pos (by omega) (Evt.pos (by omega) (Evt.bind (after_ev _ _ hX.hi hg (col_good hX c hc).1) (Evt.bind (find_ev P _ (by omega) (fun r hr => by have := (hG r hr).1; omega)) ?_)))))
  unfold addM at hr
  by_cases h0 : numOf P (aft (rd_L1 P (i : Int)) (colX X c)) < 0
  · rw [if_pos h0] at hr
    exact Evt.pos h0 (Evt.pos (by omega) hr)
  · rw [if_neg h0] at hr
    exact Evt.neg h0 hr

/-- What both answer, and how large it is. -/
def BmOk (q : BmR) : Prop := RowsLe q.1 1048576 ∧ q.2.1.length ≤ 1048576 ∧ RowsLe q.2.2.1 1048576
omit hX in
theorem bmOk_no : BmOk ([], [], [], false) := ⟨⟨by simp, by simp⟩, by simp, ⟨by simp, by simp⟩⟩

/-- Behind the rounds: the letters' numbers and the products. -/
theorem bm_end (P : List (List Int)) (hP : P.length ≤ 30) (hG : ∀ r ∈ P, GoodR n r) (L : List Int) (hL : L = [numOf P (colX X 0), numOf P (colX X 1), numOf P (colX X 2)]) :
    ∃ q, Evt (fun k => impl_BuildMonoid.l5 k P L [] 0) q ∧ Evt (fun k => spec_BuildMonoid.l3 k [colX X 0, colX X 1, colX X 2] 0 P []) q ∧ BmOk q := by
  have hhi := hX.hi
  have hfind : ∀ x, Evt (fun k => spec_l13Find.f k P x) (numOf P x) := fun x => find_ev P x (by omega) (fun r hr => by have := (hG r hr).1; omega)
  refine ⟨(P, L, P.map (tabRow P), true), impl_tabs hhi hP hG P.length 0 (by omega), ?_, ?_⟩
  · subst hL
    have h := spec_tabs (L := [numOf P (colX X 0), numOf P (colX X 1), numOf P (colX X 2)]) hhi hP hG P.length 0 (by omega)
    refine Evt.step ?_
    simp only [spec_BuildMonoid.l3]
    refine Evt.pos (by simp) (Evt.pos (by omega) (Evt.bind (hfind _) (Evt.pos (by simp) (Evt.step ?_))))
    simp only [spec_BuildMonoid.l3]
    refine Evt.pos (by simp [w64_a]) (Evt.pos (by simp [w64_a]) (Evt.bind (hfind _) (Evt.pos (by simp) (Evt.step ?_))))
    simp only [spec_BuildMonoid.l3]
    refine Evt.pos (by simp [w64_a, w64_b]) (Evt.pos (by simp [w64_a, w64_b]) (Evt.bind (hfind _) (Evt.pos (by simp) (Evt.step ?_))))
    simp only [spec_BuildMonoid.l3]
    refine Evt.neg (by simp [w64_a, w64_b, w64_c]) ?_
    rw [w64_1, w64_2]
    exact h
  · refine ⟨⟨by dsimp only; omega, fun x hx => by have := (hG x hx).1; omega⟩, by rw [hL]; simp, ⟨by dsimp only; rw [List.length_map]; omega, fun x hx => ?_⟩⟩
    obtain ⟨y, hy, rfl⟩ := List.mem_map.1 hx
    rw [tabRow, List.length_map]
    omega

/-- The rounds, from the i-th on. -/
theorem bm_rounds : ∀ (d i : Nat) (P : List (List Int)) (L : List Int), i + d = 31 → P.length ≤ 30 → 1 ≤ P.length → i ≤ P.length → (∀ r ∈ P, GoodR n r) →
    (i = 0 → L = [] ∧ ∀ x, GoodR n x → aft (rd_L1 P 0) x = x) → (0 < i → (colX X 0 ∈ P ∧ colX X 1 ∈ P ∧ colX X 2 ∈ P) ∧ L = [numOf P (colX X 0), numOf P (colX X 1), numOf P (colX X 2)]) →
    ∃ q, Evt (fun k => impl_BuildMonoid.l1 k X P L (i : Int)) q ∧ Evt (fun k => spec_BuildMonoid.l1 k [colX X 0, colX X 1, colX X 2] (i : Int) P) q ∧ BmOk q := by
  intro d
  induction d with
  | zero =>
    intro i P L hi hP h1 hle
    omega
  | succ d ih =>
    intro i P L hid hP h1 hle hG h0 hp
    by_cases hi : i < P.length
    · have hg : GoodR n (rd_L1 P (i : Int)) := hG _ (rows_in P _ (by omega) (by omega))
      generalize hrow : rd_L1 P (i : Int) = row at hg
      have g0 := aft_good hg (col_good hX 0 (by omega))
      have g1 := aft_good hg (col_good hX 1 (by omega))
      have g2 := aft_good hg (col_good hX 2 (by omega))
      generalize e0 : aft row (colX X 0) = n0 at *
      generalize e1 : aft row (colX X 1) = n1 at *
      generalize e2 : aft row (colX X 2) = n2 at *
      have a1 := addM_len P n0
      have G1 := addM_good hG g0
      have r1 : rd_L1 (addM P n0) (i : Int) = row := by rw [addM_at P n0 i hi, hrow]
      have a2 := addM_len (addM P n0) n1
      have G2 := addM_good G1 g1
      have r2 : rd_L1 (addM (addM P n0) n1) (i : Int) = row := by rw [addM_at _ n1 i (by omega), r1]
      have a3 := addM_len (addM (addM P n0) n1) n2
      have G3 := addM_good G2 g2
      have s0 := fun q => spec_step (q := q) hX P i 0 (by omega) hi (by omega) hG
      have s1 := fun q => spec_step (q := q) hX (addM P n0) i 1 (by omega) (by omega) (by omega) G1
      have s2 := fun q => spec_step (q := q) hX (addM (addM P n0) n1) i 2 (by omega) (by omega) (by omega) G2
      have i0 := fun q => impl_step (q := q) hX P L i 0 hP hi (by omega)
      have i1 := fun q L' => impl_step (q := q) hX (addM P n0) L' i 1
      have i2 := fun q L' => impl_step (q := q) hX (addM (addM P n0) n1) L' i 2
      simp only [hrow, e0] at s0 i0
      simp only [r1, e1] at s1
      simp only [r1, e1] at i1
      simp only [r2, e2] at s2
      simp only [r2, e2] at i2
      have hL : L.length ≤ 3 := by
        by_cases q : i = 0
        · rw [(h0 q).1]; simp
        · rw [(hp (by omega)).2]; simp
      have sgo : ∀ q, Evt (fun k => spec_BuildMonoid.l2 k [colX X 0, colX X 1, colX X 2] (i : Int) ((3 : Nat) : Int) (addM (addM (addM P n0) n1) n2)) q → Evt (fun k => spec_BuildMonoid.l1 k [colX X 0, colX X 1, colX X 2] (i : Int) P) q := by
        intro q hq
        refine Evt.step ?_
        simp only [spec_BuildMonoid.l1]
        exact Evt.pos (by omega) (s0 q (s1 q (s2 q hq)))
      have igo : ∀ q, Evt (fun k => impl_BuildMonoid.l2 k X P L (i : Int) ((0 : Nat) : Int)) q → Evt (fun k => impl_BuildMonoid.l1 k X P L (i : Int)) q := by
        intro q hq
        refine Evt.step ?_
        simp only [impl_BuildMonoid.l1]
        exact Evt.pos (by omega) hq
      by_cases big : 30 < (addM (addM (addM P n0) n1) n2).length
      · refine ⟨([], [], [], false), igo _ (i0 _ (by omega) hg (fun _ => rfl) (fun b1 => i1 _ _ b1 (by omega) (by omega) (by have := if_len i L (numOf (addM P n0) n0) 3 hL; omega) hg (fun _ => rfl) (fun b2 => i2 _ _ b2 (by omega) (by omega) (by have := if_len i _ (numOf (addM (addM P n0) n1) n1) 4 (if_len i L (numOf (addM P n0) n0) 3 hL); omega) hg (fun _ => rfl) (fun b3 => by omega)))), sgo _ (Evt.step ?_), bmOk_no⟩
        simp only [spec_BuildMonoid.l2]
        exact Evt.neg (by simp) (Evt.pos (by omega) (Evt.ret _))
      · have m0 : n0 ∈ addM (addM (addM P n0) n1) n2 := addM_sub _ _ (addM_sub _ _ (addM_mem _ _))
        have m1 : n1 ∈ addM (addM (addM P n0) n1) n2 := addM_sub _ _ (addM_mem _ _)
        have m2 : n2 ∈ addM (addM (addM P n0) n1) n2 := addM_mem _ _
        have u0 : numOf (addM (addM (addM P n0) n1) n2) n0 = numOf (addM P n0) n0 := by rw [addM_num _ _ (addM_sub _ _ (addM_mem _ _)), addM_num _ _ (addM_mem _ _)]
        have u1 : numOf (addM (addM (addM P n0) n1) n2) n1 = numOf (addM (addM P n0) n1) n1 := by rw [addM_num _ _ (addM_mem _ _)]
        have up : ∀ x, x ∈ P → x ∈ addM (addM (addM P n0) n1) n2 ∧ numOf (addM (addM (addM P n0) n1) n2) x = numOf P x := fun x hx => ⟨addM_sub _ _ (addM_sub _ _ (addM_sub _ _ hx)), by rw [addM_num _ _ (addM_sub _ _ (addM_sub _ _ hx)), addM_num _ _ (addM_sub _ _ hx), addM_num _ _ hx]⟩
        have key : ∃ L' : List Int, (∀ q, Evt (fun k => impl_BuildMonoid.l2 k X (addM (addM (addM P n0) n1) n2) L' (i : Int) ((3 : Nat) : Int)) q → Evt (fun k => impl_BuildMonoid.l1 k X P L (i : Int)) q) ∧ (colX X 0 ∈ addM (addM (addM P n0) n1) n2 ∧ colX X 1 ∈ addM (addM (addM P n0) n1) n2 ∧ colX X 2 ∈ addM (addM (addM P n0) n1) n2) ∧ L' = [numOf (addM (addM (addM P n0) n1) n2) (colX X 0), numOf (addM (addM (addM P n0) n1) n2) (colX X 1), numOf (addM (addM (addM P n0) n1) n2) (colX X 2)] := by
          by_cases q0 : i = 0
          · obtain ⟨hl0, hid0⟩ := h0 q0
            subst q0
            rw [show ((0 : Nat) : Int) = 0 from rfl] at hrow
            rw [hrow] at hid0
            rw [hid0 _ (col_good hX 0 (by omega))] at e0
            rw [hid0 _ (col_good hX 1 (by omega))] at e1
            rw [hid0 _ (col_good hX 2 (by omega))] at e2
            rw [e0, e1, e2]
            refine ⟨[numOf (addM P n0) n0, numOf (addM (addM P n0) n1) n1, numOf (addM (addM (addM P n0) n1) n2) n2], fun q hq => ?_, ⟨m0, m1, m2⟩, by rw [u0, u1]⟩
            subst hl0
            refine igo _ (i0 _ (by simp) hg (fun b => by omega) (fun _ => i1 _ _ (by omega) (by omega) (by omega) (by simp) hg (fun b => by omega) (fun _ => i2 _ _ (by omega) (by omega) (by omega) (by simp) hg (fun b => by omega) (fun _ => ?_))))
            simpa using hq
          · obtain ⟨hm, hl⟩ := hp (by omega)
            refine ⟨L, fun q hq => ?_, ⟨(up _ hm.1).1, (up _ hm.2.1).1, (up _ hm.2.2).1⟩, by rw [(up _ hm.1).2, (up _ hm.2.1).2, (up _ hm.2.2).2, hl]⟩
            refine igo _ (i0 _ (by omega) hg (fun b => by omega) (fun _ => i1 _ _ (by omega) (by omega) (by omega) (by simp [q0]; omega) hg (fun b => by omega) (fun _ => i2 _ _ (by omega) (by omega) (by omega) (by simp [q0]; omega) hg (fun b => by omega) (fun _ => ?_))))
            simpa [q0] using hq
        obtain ⟨L', k1, k2, k3⟩ := key
        obtain ⟨q, hq1, hq2, hq3⟩ := ih (i + 1) _ L' (by omega) (by omega) (by omega) (by omega) G3 (fun h => by omega) (fun _ => ⟨k2, k3⟩)
        refine ⟨q, k1 q (Evt.step ?_), sgo q (Evt.step ?_), hq3⟩
        · simp only [impl_BuildMonoid.l2]
          rw [w64s (i := i) (by omega)]
          exact Evt.neg (by omega) hq1
        · simp only [spec_BuildMonoid.l2]
          rw [w64s (i := i) (by omega)]
          exact Evt.neg (by simp) (Evt.neg (by omega) hq2)
    · obtain ⟨q, hq1, hq2, hq3⟩ := bm_end hX P hP hG L (hp (by omega)).2
      refine ⟨q, Evt.step ?_, Evt.step ?_, hq3⟩
      · simp only [impl_BuildMonoid.l1]
        exact Evt.neg (by omega) hq1
      · simp only [spec_BuildMonoid.l1]
        exact Evt.neg (by omega) hq2
end

/-- Both build the same monoid. -/
theorem buildMonoid_ev (A : List Bool) (X : List (List Int)) (hA : A.length ≤ 1048576) (hX : RowsLe X 1048576) : ∃ q, Evt (fun k => impl_BuildMonoid.f k A X) q ∧ Evt (fun k => spec_BuildMonoid.f k A X) q ∧ BmOk q := by
  simp only [impl_BuildMonoid.f, spec_BuildMonoid.f]
  have hv := spec_IsValidDfa_ev A X (by omega) (fun r hr => by have := hX.2 r hr; omega)
  by_cases hd : dfaB A X = true
  · have hx := dfaX_of hd
    have hhi := hx.hi
    have hlo := hx.lo
    have hid : ∀ j : Nat, (List.range j).length = j := fun j => List.length_range
    obtain ⟨idn, hidn⟩ : ∃ idn : List Int, idn = List.map (fun j : Nat => (j : Int)) (List.range A.length) := ⟨_, rfl⟩
    have hidl : idn.length = A.length := by simp [hidn]
    have hgood : GoodR A.length idn := by
      refine ⟨hidl, fun q hq => ?_⟩
      rw [hidn] at hq
      obtain ⟨j, hj, rfl⟩ := List.mem_map.1 hq
      have := List.mem_range.1 hj
      omega
    have haft : ∀ x, GoodR A.length x → aft idn x = x := by
      intro x hg
      refine List.ext_getElem (by simp [aft, hidn, hg.1]) (fun j h1 h2 => ?_)
      simp [aft, hidn, rd, h2]
    have hsucc : ∀ j, j < A.length → (idn.take j) ++ [(j : Int)] = idn.take (j + 1) := by
      intro j hj
      rw [List.take_succ_eq_append_getElem (by omega)]
      simp [hidn]
    obtain ⟨q, h1, h2, h3⟩ := bm_rounds hx 31 0 [idn] [] rfl (by simp) (by simp) (by omega) (by simpa using hgood) (fun _ => ⟨rfl, haft⟩) (fun h => by omega)
    refine ⟨q, Evt.pos hd ?_, Evt.bind hv (Evt.pos hd ?_), h3⟩
    · have h : ∀ d j : Nat, j + d = A.length → Evt (fun k => impl_BuildMonoid.l0 k (A.length : Int) X (idn.take j) (j : Int)) q := by
        intro d
        induction d with
        | zero =>
          intro j hj
          refine Evt.step ?_
          simp only [impl_BuildMonoid.l0]
          rw [List.take_of_length_le (by omega)]
          exact Evt.neg (by omega) h1
        | succ d ih =>
          intro j hj
          refine Evt.step ?_
          simp only [impl_BuildMonoid.l0]
          rw [hsucc j (by omega), w64s (by omega)]
          exact Evt.pos (by omega) (Evt.pos (by rw [List.length_take]; omega) (ih (j + 1) (by omega)))
      exact h A.length 0 (by omega)
    · have h : ∀ d j : Nat, j + d = A.length → Evt (fun k => spec_BuildMonoid.l0 k (idn.take j) (j : Int) A X) q := by
        intro d
        induction d with
        | zero =>
          intro j hj
          refine Evt.step ?_
          simp only [spec_BuildMonoid.l0]
          rw [List.take_of_length_le (by omega)]
          exact Evt.neg (by omega) (Evt.bind (letters_ev A X hx) h2)
        | succ d ih =>
          intro j hj
          refine Evt.step ?_
          simp only [spec_BuildMonoid.l0]
          rw [hsucc j (by omega), w64s (by omega)]
          exact Evt.pos (by omega) (Evt.pos (by rw [List.length_take]; omega) (ih (j + 1) (by omega)))
      exact h A.length 0 (by omega)
  · exact ⟨_, Evt.neg hd (Evt.ret _), Evt.bind hv (Evt.neg hd (Evt.ret _)), bmOk_no⟩
end Go.Proofs.Ytjmfpaalglbbhaa.F


namespace Go.Proofs.Ytjmfpaalglbbhaa.Ext
set_option linter.unusedVariables false
set_option linter.unusedSimpArgs false
open Go.RowKit Go.Proofs.YtjmfpaalglbbhaaW.PrintWords Go.Proofs.YtjmfpaalglbbhaaW.PrintLast Go.Proofs.Ytjmfpaalglbbhaa.A Go.Proofs.Ytjmfpaalglbbhaa.F Go.Proofs.Ytjmfpaalglbbhaa.Pl

set_option maxHeartbeats 1000000 in
set_option maxRecDepth 100000 in
theorem rows_clo (A B : Option Addr) (c d : Nat) (xs ys : List Int) (r : Bool) (w : World) (hx : Kd.C (Kd.int .i64) w A xs.length xs) (hc : xs.length ≤ c) (hy : Kd.C (Kd.int .i64) w B ys.length ys) (hd : ys.length ≤ d) (hr : decide (xs = ys) = r) :
    Calls Try.prog 117 #[.slice A xs.length c, .slice B ys.length d] w fun e w' => e = .returned (.bool r) ∧ Drawn0 w w' := by
  obtain ⟨k, hk⟩ := Evt.get ((slEq_ev xs ys hx.2.1).cast hr)
  have HK := Aside0.mk hk
  have HX := Aside0.mk hx
  have HC := Aside0.mk hc
  have HY := Aside0.mk hy
  have HD := Aside0.mk hd
  clear hk hx hc hy hd hr
  go_enter Try.func117, Try.ntmps117
  go_wp2_with (go_at_call 70; refine (slices_Equal_int_int.calls k _ _ xs _ _ ys _ _ HX.out HC.out HY.out HD.out HK.out).mono ?_; rintro e w' ⟨rfl, ⟨nd, rfl⟩⟩)
  go_ret
  exact ⟨rfl, Drawn0.step (Drawn0.refl _) _⟩

theorem take_next {α : Type} [DecidableEq α] {xs ys : List α} (z : α) {i : Nat} (hi : i < xs.length) (hi' : i < ys.length) (h : xs.take i = ys.take i) : (xs.take (i + 1) = ys.take (i + 1)) ↔ xs.getD i z = ys.getD i z := by
  have e1 := List.take_succ_eq_append_getElem hi
  have e2 := List.take_succ_eq_append_getElem hi'
  rw [e1, e2, h, List.append_right_inj]
  simp [List.getD, hi, hi']

-- EXT loop.example/g00582/impl.equalRows
def impl_equalRows.f (xs ys : List (List Int)) : Option Bool := some (decide (xs = ys))
set_option maxHeartbeats 4000000 in
set_option maxRecDepth 100000 in
theorem rows_func (A B : Option Addr) (c d : Nat) (xs ys : List (List Int)) (w : World) (hx : Kd.C (Kd.slice 3 (Kd.int .i64)) w A xs.length xs) (hy : Kd.C (Kd.slice 3 (Kd.int .i64)) w B ys.length ys) :
    Calls Try.prog 116 #[.slice A xs.length c, .slice B ys.length d, .func (.func 117) #[] #[]] w fun e w' => e = .returned (.bool (decide (xs = ys))) ∧ Drawn0 w w' := by
  have eg := enters_of Try.func117 (by kernel_rfl) rfl
  have HM := Aside0.mk hx.2.1
  have HX := Aside0.mk hx
  have HY := Aside0.mk hy
  clear hx hy
  by_cases hl : xs.length = ys.length
  · have c3b0 : ((xs.length : Int) == (ys.length : Int)) = true := by rw [hl]; exact beq_self_eq_true _
    have c3b1 : ((xs.length : Int) != (ys.length : Int)) = false := by rw [hl]; exact bne_self_eq_false _
    have c3b2 : (xs.length == ys.length) = true := by rw [hl]; exact beq_self_eq_true _
    have HL := Aside0.mk hl
    clear hl
    go_enter Try.func116, Try.ntmps116
    go_wp2
    go_loopg [17] xs.length (fun gk v wr => ∃ (x : Int), v = .int .i64 x ∧ Aside0 (0 ≤ x) ∧ Aside0 (x ≤ xs.length) ∧ Aside0 ((xs.length : Int) - x ≤ gk) ∧ Aside0 (xs.take x.toNat = ys.take x.toNat) ∧ Drawn0 w wr)
    case atStart => exact ⟨0, rfl, ⟨by omega⟩, ⟨by omega⟩, ⟨by omega⟩, ⟨by simp⟩, by repeat (first | exact Drawn0.refl _ | apply Drawn0.step)⟩
    case round =>
      try clear c3b0
      try clear c3b1
      try clear c3b2
      obtain ⟨x, rfl, H0, H1, HG, HT, ⟨m1, rfl⟩⟩ := hrel
      by_cases hlt : x < (xs.length : Int)
      · have c4b0 : decide (x < (xs.length : Int)) = true := decide_eq_true hlt
        have hlt2 : x < (ys.length : Int) := by have := HL.out; omega
        obtain ⟨ad, A1, c1, rx, rfl, hx1, hl1, hi1, ERX⟩ := at_rows HX.out x H0.out hlt
        obtain ⟨bd, B1, d1, ry, rfl, hy1, hm1, hj1, ERY⟩ := at_rows HY.out x H0.out hlt2
        have HI := Aside0.mk hi1
        have HJ := Aside0.mk hj1
        have HLI := Aside0.mk hl1
        have HLJ := Aside0.mk hm1
        have hx0 := H0.out
        clear hi1 hj1 hl1 hm1
        by_cases hq : rx = ry
        · have HQ := Aside0.mk (show decide (rx = ry) = true from decide_eq_true hq)
          have HN := Aside0.mk ((take_next [] (i := x.toNat) (by omega) (by omega) HT.out).2 (ERX.out.trans (hq.trans ERY.out.symm)))
          have P4 := Aside0.mk hlt
          have p4 := eq_true hx0
          have q4 := eq_true hlt
          have q5 := eq_true hlt2
          clear hq hlt hlt2 hx0
          go_wp2_with (go_at_call 117; refine (rows_clo _ _ _ _ rx ry true _ ?s1 HLI.out ?s2 HLJ.out HQ.out).mono ?_; (case s1 => repeat (first | (with_reducible exact HI.out) | (with_reducible refine Kd.C_drewN ?_ _) | (with_reducible refine Kd.C_drew ?_))); (case s2 => repeat (first | (with_reducible exact HJ.out) | (with_reducible refine Kd.C_drewN ?_ _) | (with_reducible refine Kd.C_drew ?_))); rintro e w' ⟨rfl, ⟨nd, rfl⟩⟩)
          have hw : wrap64 (x + 1) = x + 1 := by have := P4.out; have := H0.out; have := HM.out; unfold wrap64; omega
          go_roundg (gk - 1)
          case measure => have := HG.out; have := P4.out; omega
          case rel => exact ⟨wrap64 (x + 1), by first | rfl | (simp; done) | (simp [*]; done), ⟨by rw [hw]; have := H0.out; omega⟩, ⟨by rw [hw]; have := P4.out; omega⟩, ⟨by rw [hw]; have := HG.out; omega⟩, ⟨by rw [hw, show (x + 1).toNat = x.toNat + 1 by have := H0.out; omega]; exact HN.out⟩, by repeat (first | exact Drawn0.refl _ | apply Drawn0.step)⟩
        · have HQ := Aside0.mk (show decide (rx = ry) = false from decide_eq_false hq)
          have hne : decide (xs = ys) = false := decide_eq_false (fun e => hq (ERX.out.symm.trans ((by rw [e]) : xs.getD x.toNat [] = ys.getD x.toNat []) |>.trans ERY.out))
          have HNE := Aside0.mk hne
          have p4 := eq_true hx0
          have q4 := eq_true hlt
          have q5 := eq_true hlt2
          clear hq hlt hlt2 hx0 hne
          go_wp2_with (go_at_call 117; refine (rows_clo _ _ _ _ rx ry false _ ?s1 HLI.out ?s2 HLJ.out HQ.out).mono ?_; (case s1 => repeat (first | (with_reducible exact HI.out) | (with_reducible refine Kd.C_drewN ?_ _) | (with_reducible refine Kd.C_drew ?_))); (case s2 => repeat (first | (with_reducible exact HJ.out) | (with_reducible refine Kd.C_drewN ?_ _) | (with_reducible refine Kd.C_drew ?_))); rintro e w' ⟨rfl, ⟨nd, rfl⟩⟩)
          go_ret
          exact ⟨congrArg (fun b => Ending.returned (Value.bool b)) HNE.out.symm, by repeat (first | exact Drawn0.refl _ | apply Drawn0.step)⟩
      · have c4b0 : decide (x < (xs.length : Int)) = false := decide_eq_false hlt
        have hx : x = xs.length := by have := H1.out; omega
        have he : decide (xs = ys) = true := by
          have h := HT.out
          rw [List.take_of_length_le (by omega), List.take_of_length_le (by have := HL.out; omega)] at h
          exact decide_eq_true h
        have HE := Aside0.mk he
        clear he hx hlt
        go_wp2
        go_ret
        exact ⟨congrArg (fun b => Ending.returned (Value.bool b)) HE.out.symm, by repeat (first | exact Drawn0.refl _ | apply Drawn0.step)⟩
  · have c3b0 : ((xs.length : Int) == (ys.length : Int)) = false := beq_eq_false_iff_ne.mpr (by omega)
    have c3b1 : ((xs.length : Int) != (ys.length : Int)) = true := bne_iff_ne.mpr (by omega)
    have c3b2 : (xs.length == ys.length) = false := beq_eq_false_iff_ne.mpr hl
    have HE := Aside0.mk (show decide (xs = ys) = false from decide_eq_false (fun e => hl (by rw [e])))
    clear hl
    go_enter Try.func116, Try.ntmps116
    go_wp2
    go_ret
    exact ⟨congrArg (fun b => Ending.returned (Value.bool b)) HE.out.symm, by repeat (first | exact Drawn0.refl _ | apply Drawn0.step)⟩
set_option maxHeartbeats 1000000 in
set_option maxRecDepth 100000 in
theorem impl_equalRows.calls (A0 : Option Addr) (c0 : Nat) (l0 : List (List Int)) (A1 : Option Addr) (c1 : Nat) (l1 : List (List Int)) (r : Bool) (w : World) (hr0 : Kd.C (Kd.slice 3 (Kd.int .i64)) w A0 l0.length l0) (hc0 : l0.length ≤ c0) (hr1 : Kd.C (Kd.slice 3 (Kd.int .i64)) w A1 l1.length l1) (hc1 : l1.length ≤ c1) (h : impl_equalRows.f l0 l1 = some r) :
    Calls Try.prog 79 #[.slice A0 l0.length c0, .slice A1 l1.length c1] w fun e w' => e = .returned (.bool r) ∧ Drawn0 w w' := by
  obtain rfl := Option.some.inj h
  have H0 := Aside0.mk hr0
  have H1 := Aside0.mk hr1
  clear hr0 hc0 hr1 hc1 h
  go_enter Try.func79, Try.ntmps79
  go_wp2_with (go_at_call 116; refine (rows_func _ _ _ _ l0 l1 _ H0.out H1.out).mono ?_; rintro e w' ⟨rfl, ⟨nd, rfl⟩⟩)
  go_ret
  exact ⟨rfl, by repeat (first | exact Drawn0.refl _ | apply Drawn0.step)⟩

end Go.Proofs.Ytjmfpaalglbbhaa.Ext


namespace Go.Proofs.Ytjmfpaalglbbhaa.F
set_option linter.unusedVariables false
set_option linter.unusedSimpArgs false
open Go.RowKit Go.Proofs.YtjmfpaalglbbhaaW.PrintWords Go.Proofs.Ytjmfpaalglbbhaa.Pl Go.Proofs.Ytjmfpaalglbbhaa.A Go.Proofs.Ytjmfpaalglbbhaa.Ext

/-- Lengths that a machine can hold. -/
def RowsWf (l : List (List Int)) : Prop := l.length ≤ 9223372036854775807 ∧ ∀ x ∈ l, x.length ≤ 9223372036854775807
theorem RowsLe.wf {l : List (List Int)} (h : RowsLe l 1048576) : RowsWf l := ⟨by have := h.1; omega, fun x hx => by have := h.2 x hx; omega⟩
theorem eqMonoid_ev (x : List (List Int)) (y : List Int) (z : List (List Int)) (hx : RowsWf x) (hy : y.length ≤ 9223372036854775807) (hz : RowsWf z) : Evt (fun k => laws_eqMonoid.f k x y z x y z) true := by
  simp only [laws_eqMonoid.f]
  exact Evt.bind (eqIntSS_ev x x hx.1 hx.2) (Evt.pos (by simp) (Evt.bind (eqIntS_ev y y hy) (Evt.pos (by simp) (Evt.bind (eqIntSS_ev z z hz.1 hz.2) (Evt.pos (by simp) (Evt.ret _))))))

end Go.Proofs.Ytjmfpaalglbbhaa.F


namespace Go.Proofs.Ytjmfpaalglbbhaa.A
open Go.RowKit Go.Proofs.Ytjmfpaalglbbhaa.Ext Go.Proofs.YtjmfpaalglbbhaaW.PrintWords Go.Proofs.YtjmfpaalglbbhaaW.PrintLast Go.Proofs.YtjmfpaalglbbhaaW.PrintMore
attribute [local go_sem] max2_int min2_int max_two min_two max_three min_three max_four min_four   -- for this text's walks alone
set_option linter.unusedVariables false
set_option linter.unusedSimpArgs false

/-! ### laws_markText: function 57 -/
def laws_markText.l0 : Nat → Int → ByteArray → Option (ByteArray)
  | 0, _, _ => none
  | k + 1, x0, x3 => if x0 > 0 then ((some (([(wrap64 (48 + (Int.tmod x0 10))) % 256] : List Int) : List Int)).bind fun y57001 => (if (strOfNums y57001).size + x3.size ≤ 9223372036854775807 then (laws_markText.l0 k (wrap64 (Int.tdiv x0 10)) ((strOfNums y57001) ++ x3)) else (none))) else (if 1 + x3.size ≤ 9223372036854775807 then (some ((⟨#[109]⟩ : ByteArray) ++ x3)) else (none))
def laws_markText.f (k : Nat) (a0 : Int) : Option (ByteArray) := if a0 ≤ 0 then (some (⟨#[109, 48]⟩ : ByteArray)) else (laws_markText.l0 k a0 (⟨#[]⟩ : ByteArray))
theorem laws_markText.mono_l : ∀ k, (∀ y0 y1, LeO (laws_markText.l0 k y0 y1) (laws_markText.l0 (k + 1) y0 y1))
  | 0 => fun _ _ r h => by simp [laws_markText.l0] at h
  | k + 1 => by
    have ih0 := laws_markText.mono_l k
    · intro y0 y1
      unfold laws_markText.l0
      repeat' first
      | (with_reducible exact ih0 _ _)
      | (with_reducible exact LeO.refl _)
      | (with_reducible exact LeO.none _)
      | (with_reducible refine LeO.ite ?_ ?_)
      | (with_reducible refine LeO.bind ?_ (fun _ => ?_))
      | exact ih0 _ _
      | exact LeO.none _
      | refine LeO.ite ?_ ?_
      | refine LeO.bind ?_ (fun _ => ?_)
theorem laws_markText.mono : ∀ a0 k, LeO (laws_markText.f k a0) (laws_markText.f (k + 1) a0) := by
  intro a0 k
  have ih0 := laws_markText.mono_l k
  unfold laws_markText.f
  repeat' first
      | (with_reducible exact ih0 _ _)
      | (with_reducible exact LeO.refl _)
      | (with_reducible exact LeO.none _)
      | (with_reducible refine LeO.ite ?_ ?_)
      | (with_reducible refine LeO.bind ?_ (fun _ => ?_))
      | exact ih0 _ _
      | exact LeO.none _
      | refine LeO.ite ?_ ?_
      | refine LeO.bind ?_ (fun _ => ?_)
set_option maxHeartbeats 8000000 in
set_option maxRecDepth 100000 in
theorem laws_markText.calls (k : Nat) (a0 : Int) (r : ByteArray) (w : World) (h : laws_markText.f k a0 = some r) :
    Calls Try.prog 57 #[.int .i64 a0] w fun e w' => e = .returned (.string r) ∧ Below w.heap.size w w' := by
  have HB := Aside0.mk (Below.refl w.heap.size w)
  have H : (if a0 ≤ 0 then (some (⟨#[109, 48]⟩ : ByteArray)) else (laws_markText.l0 k a0 (⟨#[]⟩ : ByteArray))) = some r := h
  clear h
  by_cases c2 : a0 ≤ 0
  · rw [if_pos c2] at H
    have c2b0 : decide (a0 ≤ 0) = true := decide_eq_true c2
    clear c2
    obtain rfl := Option.some.inj H
    go_enter Try.func57, Try.ntmps57
    go_wp2
    go_ret
    exact ⟨by first | rfl | (simp [errW_none, errW_some] <;> rfl) | (simp [*, errW_none, errW_some] <;> rfl), by repeat (first | (with_reducible first | exact HB.out | apply below_alloc | apply pw_below_drewN | apply below_drew1) | exact HB.out)⟩
  · rw [if_neg c2] at H
    have c2b0 : decide (a0 ≤ 0) = false := decide_eq_false c2
    clear c2
    have H' := Aside0.mk H
    clear H
    go_enter Try.func57, Try.ntmps57
    go_wp2
    first | go_loopg [0, 3] k (fun kq v0 v3 w' => ∃ (x0_1 : Int) (x3_1 : ByteArray), v0 = .int .i64 x0_1 ∧ v3 = .string x3_1 ∧ Aside0 (laws_markText.l0 kq x0_1 x3_1 = some r) ∧ Aside0 (kq ≤ k) ∧ Aside0 (Below w.heap.size w w')) | (simp only [Act.put, List.setIfInBounds_toArray, List.set_cons_succ, List.set_cons_zero]; go_loopg [0, 3] k (fun kq v0 v3 w' => ∃ (x0_1 : Int) (x3_1 : ByteArray), v0 = .int .i64 x0_1 ∧ v3 = .string x3_1 ∧ Aside0 (laws_markText.l0 kq x0_1 x3_1 = some r) ∧ Aside0 (kq ≤ k) ∧ Aside0 (Below w.heap.size w w')))
    case atStart => exact ⟨(a0), ((⟨#[]⟩ : ByteArray)), (by first | rfl | (simp; done) | (simp [*]; done)), (by first | rfl | (simp; done) | (simp [*]; done)), H', ⟨Nat.le_refl _⟩, ⟨by repeat (first | (with_reducible first | exact HB.out | apply below_alloc | apply pw_below_drewN | apply below_drew1) | exact HB.out)⟩⟩
    case round =>
      clear H'
      try clear c2
      try clear c2b0
      try clear p2
      obtain ⟨x0_1, x3_1, rfl, rfl, HA, HK1, HB⟩ := hrel
      cases gk with
      | zero => exact absurd HA.out (by simp [laws_markText.l0])
      | succ k1 =>
        have H := HA.out
        clear HA
        simp only [laws_markText.l0] at H
        by_cases c3 : x0_1 > 0
        · rw [if_pos c3] at H
          have c3b0 : decide (0 < x0_1) = true := decide_eq_true c3
          clear c3
          obtain ⟨y57001, hy57001⟩ : ∃ y_ : List Int, y_ = (([(wrap64 (48 + (Int.tmod x0_1 10))) % 256] : List Int)) := ⟨_, rfl⟩
          replace H : (if (strOfNums y57001).size + x3_1.size ≤ 9223372036854775807 then (laws_markText.l0 k1 (wrap64 (Int.tdiv x0_1 10)) ((strOfNums y57001) ++ x3_1)) else (none)) = some r := by first | (rw [hy57001]; with_reducible exact H) | (have H2_ := (Option.bind_some _ _).symm.trans H; rw [hy57001]; with_reducible exact H2_) | (have H2_ := (Option.bind_some _ _).symm.trans H; with_reducible exact H2_) | with_reducible exact H | (rw [hy57001]; exact H) | exact H
          have Ny57001 := Aside0.mk hy57001
          clear hy57001
          by_cases c4 : (strOfNums y57001).size + x3_1.size ≤ 9223372036854775807
          · rw [if_pos c4] at H
            have c4z := c4
            try simp at c4z
            try replace c4z := eq_false (Nat.not_lt.2 c4z)
            have c4b0 := eq_true c4
            have c4b1 : decide ((strOfNums y57001).size + x3_1.size ≤ 9223372036854775807) = true := decide_eq_true c4
            try have c4b2 : (9223372036854775807 < (strOfNums y57001).size + x3_1.size) = False := eq_false (Nat.not_lt.2 c4)
            have H' := Aside0.mk H
            clear H
            go_wp2_with (first | ((with_reducible refine gate_dst (N := 12) rfl ?_); refine Kd.R_lit (Kd.int .u8) _ 5 ?hg (N := 12) ?hd (xs := ([(wrap64 (48 + (Int.tmod x0_1 10))) % 256] : List Int)) (inner := [.int .u8 ((wrap64 (48 + (Int.tmod x0_1 10))) % 256)]) (ok := fun _ => True) (okp := fun _ => True) ?hr ?hp (fun _ hk => hk) trivial (Below.refl _ _) (Nat.le_refl _) (by simp) ?_; (case hd => rfl); (case hg => rfl); (case hr => first | (go_simp; done) | (go_simp; rfl)); (case hp => exact (Reps.one (show Kd.M (Kd.int .u8) _ _ _ ((wrap64 (48 + (Int.tmod x0_1 10))) % 256) [.int .u8 ((wrap64 (48 + (Int.tmod x0_1 10))) % 256)] from rfl) (Reps.none _ _))); intro v57002 w5 ho6 hb hg_ hnew_; clear hg_ hnew_; (first | rw [← Ny57001.out] at ho6 | (simp only [Int.reduceToNat] at ho6; rw [← Ny57001.out] at ho6)); have n0_ := Aside0.mk (Kd.R_lower ho6 (below_size (by repeat (first | (with_reducible first | exact HB.out | apply below_alloc | apply pw_below_drewN | apply below_drew1) | exact HB.out)))); have n1_ := Aside0.mk (below_step (by repeat (first | (with_reducible first | exact HB.out | apply below_alloc | apply pw_below_drewN | apply below_drew1) | exact HB.out)) hb); clear HB; have HO57003 := n0_; have HB := n1_; clear n0_ n1_; clear hb ho6; have hcv7 := own_string (P := Try.prog) Try.underlying56 Try.underlying5 Try.underlying9 (Kd.own_of_R HO57003.out)))
            go_roundg k1
            case measure => have := HK1.out; omega
            case rel => exact ⟨(wrap64 (Int.tdiv x0_1 10)), ((strOfNums y57001) ++ x3_1), (by first | rfl | (simp; done) | (simp [*]; done)), (by first | rfl | (simp; done) | (simp [*]; done)), H', ⟨by have := HK1.out; omega⟩, ⟨by repeat (first | (with_reducible first | exact HB.out | apply below_alloc | apply pw_below_drewN | apply below_drew1) | exact HB.out)⟩⟩
          · rw [if_neg c4] at H
            exact absurd H (by simp)
        · rw [if_neg c3] at H
          have c3b0 : decide (0 < x0_1) = false := decide_eq_false c3
          clear c3
          by_cases c8 : 1 + x3_1.size ≤ 9223372036854775807
          · rw [if_pos c8] at H
            have c8z := c8
            try simp at c8z
            try replace c8z := eq_false (Nat.not_lt.2 c8z)
            have c8b0 := eq_true c8
            have c8b1 : decide (1 + x3_1.size ≤ 9223372036854775807) = true := decide_eq_true c8
            try have c8b2 : (9223372036854775807 < 1 + x3_1.size) = False := eq_false (Nat.not_lt.2 c8)
            obtain rfl := Option.some.inj H
            go_wp2
            go_ret
            exact ⟨by first | rfl | (simp [errW_none, errW_some] <;> rfl) | (simp [*, errW_none, errW_some] <;> rfl), by repeat (first | (with_reducible first | exact HB.out | apply below_alloc | apply pw_below_drewN | apply below_drew1) | exact HB.out)⟩
          · rw [if_neg c8] at H
            exact absurd H (by simp)


end Go.Proofs.Ytjmfpaalglbbhaa.A


namespace Go.Proofs.Ytjmfpaalglbbhaa.Ext
set_option linter.unusedVariables false
set_option linter.unusedSimpArgs false
open Go.RowKit Go.Proofs.YtjmfpaalglbbhaaW.PrintWords Go.Proofs.YtjmfpaalglbbhaaW.PrintLast Go.Proofs.Ytjmfpaalglbbhaa.A

abbrev kSt := k89
abbrev SSt := S89
def rdSt (xs : List SSt) (i : Int) : SSt := rd_T89 xs i

/-- Field 0 or 1 of an element, written. -/
theorem st_fields {W : World} {base : Nat} {P : Nat → Prop} {g n cap : Nat} {xs : List SSt} (h : Kd.S kSt 89 W base P (.slice (some ⟨g, 0, none⟩) n cap) xs) (i : Int) (h0 : 0 ≤ i) (h1 : i < n) :
    W.cell? ⟨g, i.toNat * 3, none⟩ = some (.string (rdSt xs i).f0) ∧ W.cell? ⟨g, i.toNat * 3 + 1, none⟩ = some (.string (rdSt xs i).f1) ∧ W.frozen? ⟨g, i.toNat * 3, none⟩ = false ∧ W.frozen? ⟨g, i.toNat * 3 + 1, none⟩ = false ∧
    (∀ s : ByteArray, Kd.S kSt 89 (W.setCell ⟨g, i.toNat * 3, none⟩ (.string s)) base P (.slice (some ⟨g, 0, none⟩) n cap) (xs.set i.toNat ⟨s, (rdSt xs i).f1, (rdSt xs i).f2⟩) ∧ W.grownBy (W.setCell ⟨g, i.toNat * 3, none⟩ (.string s)) (some g)) ∧
    (∀ s : ByteArray, Kd.S kSt 89 (W.setCell ⟨g, i.toNat * 3 + 1, none⟩ (.string s)) base P (.slice (some ⟨g, 0, none⟩) n cap) (xs.set i.toNat ⟨(rdSt xs i).f0, s, (rdSt xs i).f2⟩) ∧ W.grownBy (W.setCell ⟨g, i.toNat * 3 + 1, none⟩ (.string s)) (some g)) := by
  have h' : Kd.S kSt 89 W base (fun k => P k ∧ ¬ False) (.slice (some ⟨g, 0, none⟩) n cap) xs := Kd.S_mono h (fun k hk => ⟨hk, id⟩)
  obtain ⟨oki, c, hcl, hM, hcc, hfr, hoki, hH⟩ := Kd.S_elem h' z89 i h0 h1
  obtain ⟨v2, rfl, hR⟩ := k89_openM hM
  refine ⟨hcc 0 _ rfl, hcc 1 _ rfl, hfr 0, hfr 1, fun s => ?_, fun s => ?_⟩
  · exact Kd.S_seg (okg := fun _ => False) hH h0 h1 (seg := [.string s]) (j := 0) (show 0 + 1 ≤ 3 by omega) (x' := ⟨s, (rdSt xs i).f1, (rdSt xs i).f2⟩) (okp := oki)
      (k89_mkM _ _ _ (⟨s, (rdSt xs i).f1, (rdSt xs i).f2⟩ : SSt) hR) (fun k hk => .inl hk) (fun k hk => hk.elim)
  · exact Kd.S_seg (okg := fun _ => False) hH h0 h1 (seg := [.string s]) (j := 1) (show 1 + 1 ≤ 3 by omega) (x' := ⟨(rdSt xs i).f0, s, (rdSt xs i).f2⟩) (okp := oki)
      (k89_mkM _ _ _ (⟨(rdSt xs i).f0, s, (rdSt xs i).f2⟩ : SSt) hR) (fun k hk => .inl hk) (fun k hk => hk.elim)

/-- The row of an element, lent. -/
theorem st_row {W : World} {w0 : World} {P : Nat → Prop} {g n cap : Nat} {xs : List SSt} (h : Kd.S kSt 89 W w0.heap.size P (.slice (some ⟨g, 0, none⟩) n cap) xs) (i : Int) (h0 : 0 ≤ i) (h1 : i < n) :
    ∃ A c, W.cell? ⟨g, i.toNat * 3 + 2, none⟩ = some (.slice A (rdSt xs i).f2.length c) ∧ Kd.R (Kd.int .i64) 3 W w0.heap.size (fun k => some k = (Value.slice A (rdSt xs i).f2.length c).ownBlock) (.slice A (rdSt xs i).f2.length c) (rdSt xs i).f2 ∧
      (∀ k, some k = (Value.slice A (rdSt xs i).f2.length c).ownBlock → P k) ∧
      ∀ (W2 : World) (l2 : List Int) (Q : Nat → Prop), Kd.R (Kd.int .i64) 3 W2 w0.heap.size Q (.slice A (rdSt xs i).f2.length c) l2 → Kept W W2 (fun k => some k = (Value.slice A (rdSt xs i).f2.length c).ownBlock) →
        Kd.S kSt 89 W2 w0.heap.size P (.slice (some ⟨g, 0, none⟩) n cap) (xs.set i.toNat ⟨(rdSt xs i).f0, (rdSt xs i).f1, l2⟩) := by
  obtain ⟨oki, c, hcl, hM, hcc, hfr, hoki, hH⟩ := Kd.S_elem h z89 i h0 h1
  obtain ⟨v2, rfl, hR⟩ := k89_openM hM
  have hR' : Kd.R (Kd.int .i64) 3 W w0.heap.size oki v2 (rdSt xs i).f2 := hR
  obtain ⟨A, c, hv⟩ := Kd.R_slice hR'
  subst hv
  refine ⟨A, c, hcc 2 _ rfl, Kd.R_tight rfl hR', fun k hk => (hoki k (hR'.1 k hk.symm)).1, fun W2 l2 Q hr hk => ?_⟩
  refine Kd.H_back (Kd.H_kept hH hk (fun k _ hn hs => hn (hR'.1 k hs.symm))) (k89_mkM _ _ _ (⟨(rdSt xs i).f0, (rdSt xs i).f1, l2⟩ : SSt) (Kd.R_tight rfl hr)) (fun k hk => hR'.1 k hk.symm)

def laws_markStateS.l0 : Nat → List SSt → Int → Int → Option (Int × List SSt)
  | 0, _, _, _ => none
  | k + 1, x0, x1, x5 => if x5 < (x0.length : Int) then (if 0 ≤ x5 then ((laws_markText.f k x1).bind fun t1 => (laws_markText.f k (wrap64 (x1 + 1))).bind fun t2 => (laws_markIntS.f k (rdSt x0 x5).f2 (wrap64 (wrap64 (x1 + 1) + 1))).bind fun bt => laws_markStateS.l0 k (x0.set x5.toNat ⟨t1, t2, bt.2⟩) bt.1 (wrap64 (x5 + 1))) else none) else some (x1, x0)
def laws_markStateS.f (k : Nat) (l0 : List SSt) (a1 : Int) : Option (Int × List SSt) := laws_markStateS.l0 k l0 a1 0

theorem rdSt_set (xs : List SSt) (i : Int) (z : SSt) (h0 : 0 ≤ i) (h1 : i < (xs.length : Int)) : rdSt (xs.set i.toNat z) i = z := by
  unfold rdSt rd_T89
  have h : i.toNat < xs.length := by omega
  simp [List.getD, h]

set_option maxHeartbeats 4000000 in
set_option maxRecDepth 100000 in
theorem laws_markStateS.calls (k : Nat) (P0_ : Nat → Prop) (u9000_ : Value) (l0 : List SSt) (a1 : Int) (r1 : Int) (r2 : List SSt) (w0 w : World) (hB : Below w0.heap.size w0 w) (ho0 : Kd.S kSt 89 w w0.heap.size P0_ u9000_ l0) (h : laws_markStateS.f k l0 a1 = some (r1, r2)) :
    Calls Try.prog 14 #[u9000_, .int .i64 a1] w fun e w' => e = .returned (.int .i64 r1) ∧ Kd.S kSt 89 w' w0.heap.size P0_ u9000_ r2 ∧ Below w0.heap.size w0 w' ∧ Kept w w' P0_ := by
  have hu := Try.underlying89
  have HO0 := Aside0.mk ho0
  have HK := Aside0.mk (Kept.refl w P0_)
  have HB := Aside0.mk hB
  clear hB ho0
  have H' : Aside0 (laws_markStateS.l0 k l0 a1 0 = some (r1, r2)) := ⟨h⟩
  clear h
  go_enter Try.func14, Try.ntmps14
  go_wp2
  first | go_loopg [1, 5] k (fun kq v1 v5 w' => ∃ (x0_1 : List SSt) (x1_1 : Int) (x5_1 : Int), v1 = .int .i64 x1_1 ∧ v5 = .int .i64 x5_1 ∧ Aside0 (laws_markStateS.l0 kq x0_1 x1_1 x5_1 = some (r1, r2)) ∧ Aside0 (kq ≤ k) ∧ Aside0 (Kd.S kSt 89 w' w0.heap.size P0_ u9000_ x0_1) ∧ Aside0 (Kept w w' P0_) ∧ Aside0 (Below w0.heap.size w0 w')) | (simp only [Act.put, List.setIfInBounds_toArray, List.set_cons_succ, List.set_cons_zero]; go_loopg [1, 5] k (fun kq v1 v5 w' => ∃ (x0_1 : List SSt) (x1_1 : Int) (x5_1 : Int), v1 = .int .i64 x1_1 ∧ v5 = .int .i64 x5_1 ∧ Aside0 (laws_markStateS.l0 kq x0_1 x1_1 x5_1 = some (r1, r2)) ∧ Aside0 (kq ≤ k) ∧ Aside0 (Kd.S kSt 89 w' w0.heap.size P0_ u9000_ x0_1) ∧ Aside0 (Kept w w' P0_) ∧ Aside0 (Below w0.heap.size w0 w')))
  case atStart => exact ⟨l0, a1, 0, rfl, rfl, H', ⟨Nat.le_refl _⟩, HO0, HK, HB⟩
  case round =>
    clear H'
    obtain ⟨x0_1, x1_1, x5_1, rfl, rfl, HA, HK1, HO_0, HK, HB⟩ := hrel
    cases gk with
    | zero => exact absurd HA.out (by simp [laws_markStateS.l0])
    | succ k1 =>
      have H := HA.out
      clear HA
      simp only [laws_markStateS.l0] at H
      by_cases c3 : x5_1 < (x0_1.length : Int)
      · rw [if_pos c3] at H
        have c3b0 : decide (x5_1 < (x0_1.length : Int)) = true := decide_eq_true c3
        by_cases c4 : 0 ≤ x5_1
        · rw [if_pos c4] at H
          obtain ⟨t1, A1, H⟩ := Option.bind_eq_some_iff.mp H
          obtain ⟨t2, A2, H⟩ := Option.bind_eq_some_iff.mp H
          obtain ⟨⟨t3, t4⟩, A3, H⟩ := Option.bind_eq_some_iff.mp H
          replace A1 := Aside0.mk A1
          replace A2 := Aside0.mk A2
          replace A3 := Aside0.mk A3
          have H' := Aside0.mk H
          clear H
          obtain ⟨gS, cS, eS, hgS, _, _⟩ := Kd.S_form HO_0.out (by omega)
          subst eS
          have HGS := Aside0.mk hgS
          have HPG := Aside0.mk ((Kd.S_R HO_0.out).1 gS rfl)
          clear hgS
          have Q3 := Aside0.mk c3
          have Q4 := Aside0.mk c4
          replace c3 := eq_true c3
          replace c4 := eq_true c4
          go_wp2_with (first
            | (go_at_call 57; (with_reducible refine (laws_markText.calls k1 x1_1 t1 _ A1.out).mono ?_); rintro e w2 ⟨rfl, hb⟩; obtain ⟨hx0, hx1, hf0, hf1, hs0, hs1⟩ := st_fields (Kd.S_below HO_0.out hb) x5_1 Q4.out Q3.out; have n1 := Aside0.mk (Kept.below HK.out hb); have n2 := Aside0.mk (below_step HB.out hb); have HS0 := Aside0.mk (hs0 t1); clear HK HB hs0 hs1 hb; have HK := n1; have HB := n2; clear n1 n2)
            | ((with_reducible refine gate_store (t := 9) (p := 17) rfl ?_); refine store_event (t := 9) (p := 17) (v := ?vo_1) (w1 := (w2.setCell ⟨gS, x5_1.toNat * 3, none⟩ (.string t1))) ?hg ?ho ?hn ?hr ?_; (case ho => rfl); (case hg => rfl); (case hn => rfl); (case hr => first | (go_simp; done) | (go_simp; rfl)); intro w3 hw; have HS1 : Aside0 (Kd.S kSt 89 w3 w0.heap.size P0_ (.slice (some ⟨gS, 0, none⟩) x0_1.length cS) (x0_1.set x5_1.toNat ⟨t1, (rdSt x0_1 x5_1).f1, (rdSt x0_1 x5_1).f2⟩)) := ⟨by rw [hw]; exact HS0.out.1⟩; have hg : w2.grownBy w3 (some gS) := (by rw [hw]; exact HS0.out.2); have n1 := Aside0.mk (Kept.of_grown hg HK.out (fun k_ e_ => .inl (by injection e_ with e_; subst e_; exact HPG.out))); have n2 := Aside0.mk (show Below w0.heap.size w0 w3 by rw [hw]; exact below_set HB.out HGS.out); clear HK HB hg hw HS0 hx0 hx1 hf0 hf1; have HK := n1; have HB := n2; clear n1 n2)
            | (go_at_call 57; (with_reducible refine (laws_markText.calls k1 (wrap64 (x1_1 + 1)) t2 _ A2.out).mono ?_); rintro e w4 ⟨rfl, hb⟩; obtain ⟨hx0, hx1, hf0, hf1, hs0, hs1⟩ := st_fields (Kd.S_below HS1.out hb) x5_1 Q4.out Q3.out; have n1 := Aside0.mk (Kept.below HK.out hb); have n2 := Aside0.mk (below_step HB.out hb); have HS2 := Aside0.mk (hs1 t2); clear HK HB hs0 hs1 hb HS1; have HK := n1; have HB := n2; clear n1 n2)
            | ((with_reducible refine gate_store (t := 9) (p := 25) rfl ?_); refine store_event (t := 9) (p := 25) (v := ?vo_2) (w1 := (w4.setCell ⟨gS, x5_1.toNat * 3 + 1, none⟩ (.string t2))) ?hg ?ho ?hn ?hr ?_; (case ho => rfl); (case hg => rfl); (case hn => rfl); (case hr => first | (go_simp; done) | (go_simp; rfl)); intro w5 hw; have HS3 : Aside0 (Kd.S kSt 89 w5 w0.heap.size P0_ (.slice (some ⟨gS, 0, none⟩) x0_1.length cS) (x0_1.set x5_1.toNat ⟨t1, t2, (rdSt x0_1 x5_1).f2⟩)) := ⟨by rw [hw]; have h2 := HS2.out.1; rw [rdSt_set _ _ _ Q4.out Q3.out, List.set_set] at h2; exact h2⟩; have hg : w4.grownBy w5 (some gS) := (by rw [hw]; exact HS2.out.2); have n1 := Aside0.mk (Kept.of_grown hg HK.out (fun k_ e_ => .inl (by injection e_ with e_; subst e_; exact HPG.out))); have n2 := Aside0.mk (show Below w0.heap.size w0 w5 by rw [hw]; exact below_set HB.out HGS.out); clear HK HB hg hw HS2 hx0 hx1 hf0 hf1; have HK := n1; have HB := n2; clear n1 n2; obtain ⟨A6, c6, hx6, hr6, hp6, hb6⟩ := st_row HS3.out x5_1 Q4.out Q3.out; have e6 : (rdSt (x0_1.set x5_1.toNat ⟨t1, t2, (rdSt x0_1 x5_1).f2⟩) x5_1) = ⟨t1, t2, (rdSt x0_1 x5_1).f2⟩ := rdSt_set _ _ _ Q4.out Q3.out; rw [e6] at hx6 hr6 hp6 hb6; dsimp only at hx6 hr6 hp6 hb6; have HR6 := Aside0.mk hr6; have HP6 := Aside0.mk hp6; have HB6 := Aside0.mk hb6; clear hr6 hp6 hb6 e6)
            | (go_at_call 58; (with_reducible refine (laws_markIntS.calls k1 _ _ (rdSt x0_1 x5_1).f2 (wrap64 (wrap64 (x1_1 + 1) + 1)) t3 t4 w0 _ HB.out HR6.out A3.out).mono ?_); rintro e w6 ⟨rfl, hy, hb, hkp⟩; have HS4 := Aside0.mk (HB6.out w6 t4 _ hy hkp); have n1 := Aside0.mk (Kept.then_ HK.out hkp (fun k_ hs => .inl (HP6.out k_ hs))); have n2 := Aside0.mk hb; clear HK HB hb hkp hy; have HK := n1; have HB := n2; clear n1 n2))
          go_roundg k1
          case measure => have := HK1.out; omega
          case rel =>
            have h2 := HS4.out
            rw [List.set_set] at h2
            have h3 : (x0_1.set x5_1.toNat ⟨t1, t2, t4⟩).length = x0_1.length := List.length_set
            exact ⟨x0_1.set x5_1.toNat ⟨t1, t2, t4⟩, t3, wrap64 (x5_1 + 1), rfl, rfl, H', ⟨by have := HK1.out; omega⟩, ⟨h2⟩, HK, HB⟩
        · rw [if_neg c4] at H
          exact absurd H (by simp)
      · rw [if_neg c3] at H
        have c3b0 : decide (x5_1 < (x0_1.length : Int)) = false := decide_eq_false c3
        clear c3
        simp only [Option.some.injEq, Prod.mk.injEq] at H
        obtain ⟨rfl, rfl⟩ := H
        obtain ⟨Ao9, co9, eo9⟩ := Kd.S_slice HO_0.out
        subst eo9
        go_wp2
        go_ret
        exact ⟨rfl, HO_0.out, HB.out, HK.out⟩


end Go.Proofs.Ytjmfpaalglbbhaa.Ext


namespace Go.Proofs.Ytjmfpaalglbbhaa.F
set_option linter.unusedVariables false
set_option linter.unusedSimpArgs false
open Go Go.RowKit Go.Proofs.YtjmfpaalglbbhaaW.PrintWords Go.Proofs.YtjmfpaalglbbhaaW.PrintMore Go.Proofs.Ytjmfpaalglbbhaa.Pl Go.Proofs.Ytjmfpaalglbbhaa.A Go.Proofs.Ytjmfpaalglbbhaa.Ext

def mkI : Nat → Int → List Int
  | 0, _ => []
  | n + 1, x => x :: mkI n (x + 1)
theorem set_at {α : Type} (P : List α) (u v : α) (r : List α) : (P ++ u :: r).set P.length v = P ++ v :: r := by
  rw [List.set_append_right _ _ (Nat.le_refl _), Nat.sub_self, List.set_cons_zero]
theorem rd_mid (P : List Int) (u : Int) (r : List Int) : rd (P ++ u :: r) (P.length : Int) = u := by
  unfold rd
  rw [Int.toNat_natCast, List.getD_eq_getElem?_getD, List.getElem?_append_right (Nat.le_refl _), Nat.sub_self]
  rfl
theorem rows_mid (P : List (List Int)) (u : List Int) (r : List (List Int)) : rd_L1 (P ++ u :: r) (P.length : Int) = u := by
  unfold rd_L1
  rw [Int.toNat_natCast, List.getD_eq_getElem?_getD, List.getElem?_append_right (Nat.le_refl _), Nat.sub_self]
  rfl
theorem markI_l (P : List Int) : ∀ (l : List Int) (x : Int) (P : List Int), 0 ≤ x → x + l.length ≤ 4611686018427387904 → l.length + P.length ≤ 4611686018427387904 → Evt (fun k => laws_markIntS.l0 k (P ++ l) x (P.length : Int)) (x + l.length, P ++ mkI l.length x) := by
  intro l
  induction l with
  | nil =>
    intro x P h0 h1 h2
    refine Evt.step ?_
    simp only [laws_markIntS.l0]
    refine Evt.neg (by simp) ?_
    simpa [mkI] using Evt.ret (x, P)
  | cons u l ih =>
    intro x P h0 h1 h2
    rw [List.length_cons] at h1 h2
    refine Evt.step ?_
    simp only [laws_markIntS.l0]
    refine Evt.pos (by rw [List.length_append, List.length_cons]; omega) (Evt.pos (by omega) ?_)
    rw [Int.toNat_natCast, set_at, w64s (by omega), w64 (by omega) (by omega)]
    have h := ih (x + 1) (P ++ [x]) (by omega) (by omega) (by rw [List.length_append, List.length_singleton]; omega)
    rw [List.length_append, List.length_singleton, List.append_assoc, List.append_assoc, List.singleton_append, List.singleton_append] at h
    rw [List.length_cons, mkI]
    refine h.cast ?_
    rw [show x + 1 + (l.length : Int) = x + ((l.length + 1 : Nat) : Int) by omega]
theorem markI_ev (l : List Int) (x : Int) (h0 : 0 ≤ x) (h1 : x + l.length ≤ 4611686018427387904) : Evt (fun k => laws_markIntS.f k l x) (x + l.length, mkI l.length x) := by
  simp only [laws_markIntS.f]
  exact markI_l [] l x [] h0 h1 (by rw [List.length_nil]; omega)
theorem heldI_l : ∀ (n : Nat) (x : Int) (P : List Int), 0 ≤ x → x + n ≤ 4611686018427387904 → n + P.length ≤ 4611686018427387904 → Evt (fun k => laws_heldIntS.l0 k (P ++ mkI n x) x (P.length : Int)) (x + n) := by
  intro n
  induction n with
  | zero =>
    intro x P h0 h1 h2
    refine Evt.step ?_
    simp only [laws_heldIntS.l0, mkI]
    refine Evt.neg (by simp) ?_
    simpa using Evt.ret x
  | succ n ih =>
    intro x P h0 h1 h2
    refine Evt.step ?_
    simp only [laws_heldIntS.l0, mkI]
    refine Evt.pos (by rw [List.length_append, List.length_cons]; omega) (Evt.pos (by omega) (Evt.pos (rd_mid P x _) ?_))
    rw [w64s (by omega), w64 (by omega) (by omega)]
    have h := ih (x + 1) (P ++ [x]) (by omega) (by omega) (by rw [List.length_append, List.length_singleton]; omega)
    rw [List.length_append, List.length_singleton, List.append_assoc, List.singleton_append] at h
    refine h.cast (by omega)
theorem heldI_ev (n : Nat) (x : Int) (h0 : 0 ≤ x) (h1 : x + n ≤ 4611686018427387904) : Evt (fun k => laws_heldIntS.f k (mkI n x) x) (x + n) := by
  simp only [laws_heldIntS.f]
  exact heldI_l n x [] h0 h1 (by rw [List.length_nil]; omega)

/-- A table's marks, and how many there are. -/
def totN : List (List Int) → Nat
  | [] => 0
  | r :: l => r.length + totN l
def mkII : List (List Int) → Int → List (List Int)
  | [], _ => []
  | r :: l, x => mkI r.length x :: mkII l (x + r.length)
theorem totN_le : ∀ (l : List (List Int)) (b : Nat), (∀ r ∈ l, r.length ≤ b) → totN l ≤ l.length * b
  | [], _, _ => Nat.zero_le _
  | r :: l, b, h => by
    have h1 := totN_le l b (fun x hx => h x (List.mem_cons_of_mem _ hx))
    have h2 := h r List.mem_cons_self
    rw [totN, List.length_cons, Nat.succ_mul]
    omega
theorem markII_l : ∀ (l : List (List Int)) (x : Int) (P : List (List Int)), 0 ≤ x → x + totN l + l.length + P.length ≤ 4611686018427387904 → Evt (fun k => laws_markIntSS.l0 k (P ++ l) x (P.length : Int)) (x + totN l, P ++ mkII l x) := by
  intro l
  induction l with
  | nil =>
    intro x P h0 h1
    refine Evt.step ?_
    simp only [laws_markIntSS.l0]
    refine Evt.neg (by simp) ?_
    simpa [mkII, totN] using Evt.ret (x, P)
  | cons u l ih =>
    intro x P h0 h1
    rw [List.length_cons, totN] at h1
    refine Evt.step ?_
    simp only [laws_markIntSS.l0]
    refine Evt.pos (by rw [List.length_append, List.length_cons]; omega) (Evt.pos (by omega) ?_)
    rw [rows_mid]
    refine Evt.bind (markI_ev u x h0 (by omega)) ?_
    rw [Int.toNat_natCast, set_at, w64s (by omega)]
    have h := ih (x + u.length) (P ++ [mkI u.length x]) (by omega) (by rw [List.length_append, List.length_singleton]; omega)
    rw [List.length_append, List.length_singleton, List.append_assoc, List.append_assoc, List.singleton_append, List.singleton_append] at h
    rw [totN, mkII]
    refine h.cast ?_
    rw [show x + (u.length : Int) + (totN l : Int) = x + ((u.length + totN l : Nat) : Int) by omega]
theorem markII_ev (l : List (List Int)) (x : Int) (h0 : 0 ≤ x) (h1 : x + totN l + l.length ≤ 4611686018427387904) : Evt (fun k => laws_markIntSS.f k l x) (x + totN l, mkII l x) := by
  simp only [laws_markIntSS.f]
  exact markII_l l x [] h0 (by simpa using h1)
theorem heldII_l : ∀ (l : List (List Int)) (x : Int) (P : List (List Int)), 0 ≤ x → x + totN l + l.length + P.length ≤ 4611686018427387904 → Evt (fun k => laws_heldIntSS.l0 k (P ++ mkII l x) x (P.length : Int)) (x + totN l) := by
  intro l
  induction l with
  | nil =>
    intro x P h0 h1
    refine Evt.step ?_
    simp only [laws_heldIntSS.l0, mkII]
    refine Evt.neg (by simp) ?_
    simpa [totN] using Evt.ret x
  | cons u l ih =>
    intro x P h0 h1
    rw [List.length_cons, totN] at h1
    refine Evt.step ?_
    simp only [laws_heldIntSS.l0, mkII]
    refine Evt.pos (by rw [List.length_append, List.length_cons]; omega) (Evt.pos (by omega) ?_)
    rw [rows_mid]
    refine Evt.bind (heldI_ev u.length x h0 (by omega)) (Evt.neg (by omega) ?_)
    rw [w64s (by omega)]
    have h := ih (x + u.length) (P ++ [mkI u.length x]) (by omega) (by rw [List.length_append, List.length_singleton]; omega)
    rw [List.length_append, List.length_singleton, List.append_assoc, List.singleton_append] at h
    rw [totN]
    refine h.cast (by omega)
theorem heldII_ev (l : List (List Int)) (x : Int) (h0 : 0 ≤ x) (h1 : x + totN l + l.length ≤ 4611686018427387904) : Evt (fun k => laws_heldIntSS.f k (mkII l x) x) (x + totN l) := by
  simp only [laws_heldIntSS.f]
  exact heldII_l l x [] h0 (by simpa using h1)


end Go.Proofs.Ytjmfpaalglbbhaa.F


namespace Go.Proofs.Ytjmfpaalglbbhaa.F
set_option linter.unusedVariables false
set_option linter.unusedSimpArgs false
open Go Go.RowKit Go.Proofs.YtjmfpaalglbbhaaW.PrintWords Go.Proofs.Ytjmfpaalglbbhaa.Pl Go.Proofs.Ytjmfpaalglbbhaa.A Go.Proofs.Ytjmfpaalglbbhaa.Ext

theorem szBoolS_eq (l : List Bool) (a : Int) (ha : -1 ≤ a) (ha' : a ≤ 1048576) (hl : l.length ≤ 9223372036854775807) :
    ∃ t, laws_szBoolS.f l a = some t ∧ (t = -1 ∨ (0 ≤ t ∧ t = a - l.length)) := by
  unfold laws_szBoolS.f
  rw [w64_sub ha ha' hl]
  by_cases h1 : a - l.length < 0
  · exact ⟨-1, by rw [if_pos h1], .inl rfl⟩
  · rw [if_neg h1]; exact ⟨_, rfl, .inr ⟨by omega, rfl⟩⟩
theorem set_nextB (l : List Bool) (i n : Nat) (hn : l.length = n) (hi : i < n) : (l.take i ++ List.replicate (n - i) false).set i (rdOf false l (i : Int)) = l.take (i + 1) ++ List.replicate (n - (i + 1)) false := by
  have hl : (l.take i).length = i := by rw [List.length_take]; omega
  have e : rdOf false l (i : Int) = l[i] := by simp [rdOf, show i < l.length by omega]
  rw [List.set_append_right _ _ (by omega), hl, Nat.sub_self, show n - i = (n - (i + 1)) + 1 by omega, List.replicate_succ, List.set_cons_zero, List.take_succ_eq_append_getElem (by omega), e, List.append_assoc]
  rfl
theorem toBoolS_ev (l : List Bool) (hl : l.length ≤ 35184372088832) : Evt (fun k => laws_toBoolS.f k l) l := by
  simp only [laws_toBoolS.f]
  refine Evt.pos (by omega) (Evt.pos (by omega) ?_)
  rw [Int.toNat_natCast]
  have h : ∀ d i : Nat, i + d = l.length → Evt (fun k => laws_toBoolS.l0 k l (l.take i ++ List.replicate (l.length - i) false) (i : Int)) l := by
    intro d
    induction d with
    | zero =>
      intro i hi
      refine Evt.step ?_
      simp only [laws_toBoolS.l0]
      refine Evt.neg (by omega) (Evt.const ?_)
      obtain rfl : i = l.length := by omega
      simp
    | succ d ih =>
      intro i hi
      refine Evt.step ?_
      simp only [laws_toBoolS.l0]
      rw [w64s (by omega), Int.toNat_natCast, set_nextB l i l.length rfl (by omega)]
      exact Evt.pos (by omega) (Evt.pos (by omega) (Evt.pos (by simp; omega) (ih (i + 1) (by omega))))
  simpa using h l.length 0 (by omega)
theorem eqBoolS_ev (l : List Bool) (hl : l.length ≤ 9223372036854775807) : Evt (fun k => laws_eqBoolS.f k l l) true := by
  simp only [laws_eqBoolS.f]
  refine Evt.pos trivial ?_
  have h : ∀ d i : Nat, i + d = l.length → Evt (fun k => laws_eqBoolS.l0 k l l (i : Int)) true := by
    intro d
    induction d with
    | zero =>
      intro i hi
      refine Evt.step ?_
      simp only [laws_eqBoolS.l0]
      exact Evt.neg (by omega) (Evt.ret _)
    | succ d ih =>
      intro i hi
      refine Evt.step ?_
      simp only [laws_eqBoolS.l0]
      rw [w64s (by omega)]
      exact Evt.pos (by omega) (Evt.pos (by omega) (Evt.pos (by omega) (Evt.neg (by simp) (ih (i + 1) (by omega)))))
  exact h l.length 0 (by omega)
theorem markBoolS_ok (l : List Bool) (x : Int) (h0 : 0 ≤ x) (h1 : x + l.length ≤ 4611686018427387904) : ∃ l', Evt (fun k => laws_markBoolS.f k l x) (x + l.length, l') := by
  simp only [laws_markBoolS.f]
  have h : ∀ d i : Nat, ∀ (m : List Bool) (y : Int), m.length = l.length → i + d = l.length → y = x + i → ∃ l', Evt (fun k => laws_markBoolS.l0 k m y (i : Int)) (x + l.length, l') := by
    intro d
    induction d with
    | zero =>
      intro i m y hm hi hy
      refine ⟨m, Evt.step ?_⟩
      simp only [laws_markBoolS.l0]
      exact Evt.neg (by omega) ((Evt.ret _).cast (by rw [hy]; congr 1; omega))
    | succ d ih =>
      intro i m y hm hi hy
      obtain ⟨l', hl'⟩ := ih (i + 1) (m.set (i : Int).toNat (Int.tmod y 3 == 0)) (y + 1) (by rw [List.length_set]; exact hm) (by omega) (by omega)
      refine ⟨l', Evt.step ?_⟩
      simp only [laws_markBoolS.l0]
      rw [w64s (by omega), w64 (x := y + 1) (by omega) (by omega)]
      exact Evt.pos (by omega) (Evt.pos (by omega) hl')
  exact h l.length 0 l x rfl (by omega) (by omega)

theorem szDfa_ev (x : List Bool) (y : List (List Int)) (a : Int) (ha : 0 ≤ a) (ha' : a ≤ 1048576) (hx : x.length ≤ 9223372036854775807) (hy : RowsWf y) :
    ∃ t, Evt (fun k => laws_szDfa.f k x y a) t ∧ (t = -1 ∨ (0 ≤ t ∧ t ≤ a ∧ x.length ≤ 1048576 ∧ RowsLe y 1048576)) := by
  simp only [laws_szDfa.f]
  obtain ⟨t, ht, hc⟩ := szBoolS_eq x a (by omega) ha' hx
  rcases hc with rfl | ⟨h0, h1⟩
  · exact ⟨-1, Evt.bindc ht (Evt.pos (by decide) (Evt.ret _)), .inl rfl⟩
  obtain ⟨v, hv, hc⟩ := szIntSS_ev y t (by omega) (by omega) hy.1 hy.2
  rcases hc with rfl | ⟨k0, k1, k2⟩
  · exact ⟨-1, Evt.bindc ht (Evt.neg (by omega) (Evt.bind hv (Evt.pos (by decide) (Evt.ret _)))), .inl rfl⟩
  · exact ⟨v, Evt.bindc ht (Evt.neg (by omega) (Evt.bind hv (Evt.neg (by omega) (Evt.ret _)))), .inr ⟨k0, by omega, by omega, k2⟩⟩
theorem toDfa_ev (x : List Bool) (y : List (List Int)) (hx : x.length ≤ 1048576) (hy : RowsLe y 1048576) : Evt (fun k => laws_toDfa.f k x y) (x, y) := by
  simp only [laws_toDfa.f]
  exact Evt.bind (toBoolS_ev x (by omega)) (Evt.bind (toIntSS_ev y hy) (Evt.ret _))
theorem eqDfa_ev (x : List Bool) (y : List (List Int)) (hx : x.length ≤ 9223372036854775807) (hy : RowsWf y) : Evt (fun k => laws_eqDfa.f k x y x y) true := by
  simp only [laws_eqDfa.f]
  exact Evt.bind (eqBoolS_ev x hx) (Evt.pos rfl (Evt.bind (eqIntSS_ev y y hy.1 hy.2) (Evt.pos (by simp) (Evt.ret _))))
theorem markDfa_ok (x : List Bool) (y : List (List Int)) (hx : x.length ≤ 1048576) (hy : RowsLe y 1048576) : ∃ m, Evt (fun k => laws_markDfa.f k x y 1) m ∧ 0 ≤ m.1 := by
  have t1 := totN_le y 1048576 hy.2
  have l1 := hy.1
  have q1 : y.length * 1048576 ≤ 1048576 * 1048576 := Nat.mul_le_mul_right _ l1
  obtain ⟨l', hl'⟩ := markBoolS_ok x 1 (by omega) (by omega)
  simp only [laws_markDfa.f]
  exact ⟨_, Evt.bind hl' (Evt.bind (markII_ev y _ (by dsimp only; omega) (by dsimp only; omega)) (Evt.ret _)), by dsimp only; omega⟩
/-- A monoid's marks: what was marked is held. -/
theorem markMonoid_ok (x : List (List Int)) (y : List Int) (z : List (List Int)) (hx : RowsLe x 1048576) (hy : y.length ≤ 1048576) (hz : RowsLe z 1048576) : ∃ m, Evt (fun k => laws_markMonoid.f k x y z 1) m ∧ 0 ≤ m.1 ∧ Evt (fun k => laws_heldMonoid.f k m.2.1 m.2.2.1 m.2.2.2 1) m.1 := by
  have t1 := totN_le x 1048576 hx.2
  have t2 := totN_le z 1048576 hz.2
  have l1 := hx.1
  have l2 := hz.1
  have q1 : x.length * 1048576 ≤ 1048576 * 1048576 := Nat.mul_le_mul_right _ l1
  have q2 : z.length * 1048576 ≤ 1048576 * 1048576 := Nat.mul_le_mul_right _ l2
  simp only [laws_markMonoid.f, laws_heldMonoid.f]
  refine ⟨_, Evt.bind (markII_ev x 1 (by omega) (by omega)) (Evt.bind (markI_ev y _ (by omega) (by omega)) (Evt.bind (markII_ev z _ (by omega) (by omega)) (Evt.ret _))), by dsimp only; omega, ?_⟩
  dsimp only
  exact Evt.bind (heldII_ev x 1 (by omega) (by omega)) (Evt.neg (by omega) (Evt.bind (heldI_ev y.length _ (by omega) (by omega)) (Evt.neg (by omega) (Evt.bind (heldII_ev z _ (by omega) (by omega)) (Evt.neg (by omega) (Evt.ret _))))))

end Go.Proofs.Ytjmfpaalglbbhaa.F


namespace Go.Proofs.Ytjmfpaalglbbhaa.Pure
set_option linter.unusedVariables false
set_option linter.unusedSimpArgs false
open Go Go.RowKit Go.Proofs.YtjmfpaalglbbhaaW.PrintWords Go.Proofs.Ytjmfpaalglbbhaa.Pl Go.Proofs.Ytjmfpaalglbbhaa.F Go.Proofs.Ytjmfpaalglbbhaa.A Go.Proofs.Ytjmfpaalglbbhaa.Ext

theorem FnExactBuildMonoid : FnExactBuildMonoid.Pure := by
  intro x y hx hy
  refine Evt.get (g := fun k => laws_FnExactBuildMonoid.f k x y) ?_
  simp only [laws_FnExactBuildMonoid.f]
  obtain ⟨t, ht, hc⟩ := szDfa_ev x y 1048576 (by omega) (by omega) hx.1 ⟨hy.1, fun r hr => (hy.2 r hr).1⟩
  refine Evt.bind ht ?_
  rcases hc with rfl | ⟨h0, _, hx, hy⟩
  · exact Evt.pos (by decide) (Evt.ret _)
  obtain ⟨q, e1, e2, g1, g2, g3⟩ := buildMonoid_ev x y hx hy
  obtain ⟨mk, e3, k3⟩ := markDfa_ok x y hx hy
  obtain ⟨mg, e4, k4, e5⟩ := markMonoid_ok q.1 q.2.1 q.2.2.1 g1 g2 g3
  refine Evt.neg (by omega) (Evt.bind (toDfa_ev x y hx hy) (Evt.bind e2 (Evt.bind e1 (Evt.bind (eqMonoid_ev _ _ _ g1.wf (by omega) g3.wf) (Evt.bind (eqDfa_ev x y (by omega) hy.wf) (Evt.bind e3 (Evt.bind e4 (Evt.bind e5 ?_))))))))
  exact Evt.pos ⟨rfl, rfl, rfl, k3, k4, rfl⟩ (Evt.ret _)

end Go.Proofs.Ytjmfpaalglbbhaa.Pure


namespace Go.Proofs.Ytjmfpaalglbbhaa.fnExactBuildMonoid
open Go.ChangeShapes Go.WideShapes Go.ChangeAt Go.RowKit Go.Proofs.Ytjmfpaalglbbhaa.Br Go.Proofs.YtjmfpaalglbbhaaW.PrintWords Go.Proofs.Ytjmfpaalglbbhaa.A Go.Proofs.Ytjmfpaalglbbhaa.Ext
open Go.ChangeMaps (open_string shut_string)
set_option linter.unusedVariables false
theorem own : ownKnob Try.prog.godebug = none := by kernel_rfl
theorem laidOut : laidOutB Try.prog = true := by kernel_rfl
set_option maxHeartbeats 2000000 in
set_option maxRecDepth 100000 in
theorem lifted (os : Os) (started : os.Started) (H : Type) (enc : TypeId × Value → H) :
    ReturnsInHanded {} Try.checked os 4 .any (Rows.fnExactBuildMonoidSpec.pre6 enc Try.prog Try.f4 Rows.fnExactBuildMonoidRow.domain false) (Rows.fnExactBuildMonoidSpec.post enc Try.prog Try.f4 false true false false) := by
  refine returnsInHanded_of_change_sized (C := Try.checked) own started (by kernel_rfl) Try.func4
    (ChangeSpec.witness6 (enc := enc) (C := Try.checked) false ⟨#[], #[.agg #[.slice none 0 0, .slice none 0 0]], []⟩ 8 (by kernel_rfl) (by kernel_rfl) (by kernel_rfl) (by kernel_rfl)) ?_
  intro W base args ds gs before hval0 hW hcnd hsz0 _
  have hval : ∀ (j : Nat) t v, Try.f4.params[j]? = some t → args[j]? = some v → Value.okWide Try.prog W .any base t v := hval0
  have hW' := hW
  obtain ⟨p, q, hA0, hV, rfl, hfz, hnd⟩ := hW
  have hA : DataW.TrodAll enc Try.prog W 0 (fun _ => true) true Try.f4.params.toList args.toList ds p := hA0
  rw [Try.params4] at hA hval
  obtain ⟨v0, vs0, d0, ds0, p0, q0, hargs, rfl, rfl, h0, r0⟩ := trodAll_cons hA
  obtain ⟨rfl, rfl, rfl⟩ := trodAll_nil r0
  obtain rfl : args = #[v0] := by cases args; simp_all
  obtain ⟨rfl, rfl⟩ := trodVars_none hV
  have k0 := h0
  have lt0 : ∀ x ∈ p0, x.block < W.heap.size := by obtain ⟨m, hm⟩ := k0; exact DataW.trod_lt m _ _ _ hm
  obtain ⟨arr0, rfl, _, _⟩ : ∃ cs, v0 = .agg cs ∧ cs.size = Try.prog.cellsOf 45 ∧ Row.okWide Try.prog W .any base 45 cs := by have z := (hval 0 45 v0 rfl rfl); unfold Value.okWide at z; rw [Try.underlying45] at z; exact z
  obtain ⟨fuel0, hf0⟩ := h0
  obtain ⟨x0, hK0, hw0⟩ := (show ∀ n, BrN Try.prog n 45 _ _ from fun n => (br_struct' Try.underlying45 (show Try.prog.cellsOf 45 = 2 by kernel_rfl) (fun n => (bf_cons rfl (show Try.prog.cellsOf 43 = 1 by kernel_rfl) (br_slice' Try.underlying43 (show Try.prog.cellsOf 4 = 1 by kernel_rfl) (fun n => (br_bool Try.underlying4 n)) n) (bf_one rfl (show Try.prog.cellsOf 24 = 1 by kernel_rfl) (br_slice' Try.underlying24 (show Try.prog.cellsOf 25 = 1 by kernel_rfl) (fun n => (br_slice' Try.underlying25 (show Try.prog.cellsOf 3 = 1 by kernel_rfl) (fun n => (br_int Try.underlying3 n)) n)) n)) (of_decide_eq_true (by kernel_rfl)))) n)) fuel0 H enc W 0 (fun _ => true) true fuel0 _ _ (Nat.le_refl _) hf0
  obtain ⟨l0_0, l0_1⟩ := x0
  replace hw0 := hw0
  obtain ⟨w0_0, w0_1⟩ := hw0
  obtain ⟨cs0, hcs0, hK0⟩ : ∃ cs, (Value.agg arr0).cells.toList = cs ∧ _ := ⟨_, rfl, hK0⟩
  obtain ⟨_, _, rfl, ⟨A0_0, c0_0, rfl, hc0_0, hr0_0⟩, ⟨A0_1, c0_1, rfl, hc0_1, hr0_1⟩⟩ := hK0
  obtain rfl : arr0 = #[.slice A0_0 l0_0.length c0_0, .slice A0_1 l0_1.length c0_1] := arr_of hcs0
  clear hA0 hval0 hsz0
  obtain ⟨k, hp⟩ := Pure.FnExactBuildMonoid l0_0 l0_1 w0_0 w0_1
  refine (laws_FnExactBuildMonoid.calls k _ _ l0_0 _ _ l0_1 true W hr0_0 hc0_0 hr0_1 hc0_1 hp rfl).mono fun e W' ⟨he, bel0⟩ => ?_
  subst he
  have bel : Below W.heap.size W W' := bel0
  exact ⟨_, rfl, _, _, _, [], _, [], hW', trodAll_mk1 (shut_bool Try.underlying4 _), (trodAll_cons_mk (Below.trod laidOut (by kernel_rfl) (of_decide_eq_true (by kernel_rfl)) k0 bel lt0) trodAll_mk0), rfl, bel.frame _, fun h => by cases h⟩
theorem fact0 : (Rows.fnExactBuildMonoidRow.inPlace == Try.pinned.checked.prog.inPlace 4) = true := by kernel_rfl
theorem fact1 : (Rows.fnExactBuildMonoidRow.unfollowed == Try.pinned.checked.prog.unfollowed 4) = true := by kernel_rfl
theorem fact2 : (Rows.fnExactBuildMonoidRow.recurses == Try.pinned.checked.prog.recurses 4) = true := by kernel_rfl
theorem fact3 : (Rows.fnExactBuildMonoidRow.named == Try.pinned.checked.prog.varsNamed 4) = true := by kernel_rfl
theorem facts : joinedFacts Try.pinned.checked.prog 4 Try.f4 Rows.fnExactBuildMonoidSpec Rows.fnExactBuildMonoidRow = true := by
  unfold joinedFacts
  rw [fact0, fact1, fact2, fact3]
  kernel_rfl
theorem known : Try.pinned.checked.prog.funcNamed Rows.fnExactBuildMonoidRow.func = some 4 := by kernel_rfl
theorem inst : Try.f4.isInstance Try.pinned.checked.prog Rows.fnExactBuildMonoidRow.origin Rows.fnExactBuildMonoidRow.targs := of_decide_eq_true (by kernel_rfl)
theorem wrap : Try.f4.isWrapper Try.pinned.checked.prog Rows.fnExactBuildMonoidRow.wrapper Rows.fnExactBuildMonoidRow.mainSum := by unfold Func.isWrapper; first | (rw [if_pos (by decide +kernel)]; kernel_rfl) | (rw [if_neg (by decide +kernel)]; exact ⟨rfl, rfl⟩)
theorem over : Rows.fnExactBuildMonoidRow.holds Try.pinned (OpenSpec.ofChange Rows.fnExactBuildMonoidSpec) :=
  OpenClaim.holds_of_wide 4 Try.f4 rfl rfl rfl rfl rfl rfl rfl ⟨rfl, rfl, rfl, rfl, rfl⟩ rfl rfl rfl rfl rfl known Try.func4 facts inst wrap
    (fun os started H enc _ => lifted os started H enc)
theorem proved : Rows.FnExactBuildMonoidSaid := over
#print axioms proved
end Go.Proofs.Ytjmfpaalglbbhaa.fnExactBuildMonoid
namespace Go.Proofs.Ytjmfpaalglbbhaa
/-- The row, under a short name, for the claim. -/
theorem fnExactBuildMonoid_holds : Rows.FnExactBuildMonoidSaid := fnExactBuildMonoid.proved
end Go.Proofs.Ytjmfpaalglbbhaa
