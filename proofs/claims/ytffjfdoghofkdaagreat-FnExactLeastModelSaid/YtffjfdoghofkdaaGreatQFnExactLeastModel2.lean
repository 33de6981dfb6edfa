/- FnExactLeastModel: what its proof needs, put together by this session's program wip/merge.py out of the texts that wip/xp.py printed and of this session's own. -/
import Derived.Test.YtffjfdoghofkdaaGreatQFnExactLeastModel1
import Derived.Test.YtffjfdoghofkdaaGreatProg
import Derived.Shelf.Abstract
import Derived.Deep.LoopGhost
import Derived.Deep.QuietTactic
import Derived.Deep.RegionHeld3
import Derived.BigQuiet
import Derived.Below
import Derived.Outline
set_option linter.unusedVariables false
set_option linter.unusedSimpArgs false
set_option linter.unusedSectionVars false
set_option maxHeartbeats 8000000
set_option maxRecDepth 100000
namespace Go.Proofs.YtffjfdoghofkdaaGreat.A
open Go.RowKit YtffjfdoghofkdaaGreat.Ext YtffjfdoghofkdaaGreatW.PrintWords YtffjfdoghofkdaaGreatW.PrintLast YtffjfdoghofkdaaGreatW.PrintMore
attribute [local go_sem] max2_int min2_int max_two min_two max_three min_three max_four min_four
def laws_szProblem.f (k:Nat) (l0_0:List (S103)) (a1:Int):Option (Int):=(laws_szConstraintS.f k l0_0 a1).bind fun t19002=>(if t19002 < 0 then (some (-1)) else (some t19002))
theorem laws_szProblem.mono:∀ a0 a1 k,LeO (laws_szProblem.f k a0 a1) (laws_szProblem.f (k+1) a0 a1):=by
 intro a0 a1 k
 unfold laws_szProblem.f
 repeat' first
  | with_reducible first|exact laws_szConstraintS.mono _ _ _|exact LeO.refl _|exact LeO.none _|refine LeO.ite ?_ ?_|refine LeO.bind ?_ (fun _=>?_)
theorem laws_szProblem.calls (k:Nat) (A0_0:Option Addr) (c0_0:Nat) (l0_0:List (S103)) (a1:Int) (r:Int) (w:World) (hr0_0:Kd.C k103 w A0_0 l0_0.length l0_0) (hc0_0:l0_0.length≤c0_0) (h:laws_szProblem.f k l0_0 a1=some r) :
   Calls Tryz.prog 19 #[.agg #[.slice A0_0 l0_0.length c0_0],.int .i64 a1] w fun e w'=>e = .returned (.int .i64 r)∧Below w.heap.size w w':=by
 have hu42:=Tryz.underlying42
 have HR0_0:=zk hr0_0
 have HC0_0:=zk hc0_0
 clear hr0_0 hc0_0
 have HB:=zk (Below.refl w.heap.size w)
 have H:((laws_szConstraintS.f k l0_0 a1).bind fun t19002=>(if t19002 < 0 then (some (-1)) else (some t19002)))=some r:=h
 clear h
 replace H:=zo H
 obtain ⟨t19002,A30,H⟩:=H
 replace H:(if t19002 < 0 then (some (-1)) else (some t19002))=some r:=H
 have A3:=zk A30
 clear A30
 by_cases c4:t19002 < 0
 rw [if_pos c4] at H
 have c4b0:decide (t19002 < 0)=true:=decide_eq_true c4
 rotate_left
 rw [if_neg c4] at H
 have c4b0:decide (t19002 < 0)=false:=decide_eq_false c4
 rotate_left
 all_goals
  clear c4
  obtain rfl:=zi H
  go_enter Tryz.func19,Tryz.ntmps19
  go_wp2_with (first|((with_reducible refine gate_dst (N:=2) rfl ?_);refine zE (N:=2) (cs:=#[.slice A0_0 l0_0.length c0_0]) (t:=42) ?_;intro gb19001 hg w8 hbox hb;have n0_:=zk (below_step za4 hb);have n1_:=zk (hbox);have n2_:=zk (zs (w:=w) hg za4);have n3_:=zk (zs (w:=w) hg za4);clear HB;have HB:=n0_;have BK19001:=n1_;have GW19001:=n2_;have GE19001:=n3_;clear n0_ n1_ n2_ n3_;clear hb hbox hg;obtain ⟨hcz9_0,hfz9_0⟩:=blk1 BK19001.out)|((with_reducible refine gate_callee (f:=55) rfl ?_);refine goesL_ (some 8) rfl rfl Tryz.func55 (by kernel_rfl) rfl #[.slice A0_0 l0_0.length c0_0,.int .i64 a1] rfl za5 ?_;(with_reducible refine (laws_szConstraintS.calls k _ _ l0_0 a1 t19002 _ ?side1 ?side2 A3.out).mono ?_);(case side1=>repeat (first|exact (Kd.C_below HR0_0.out HB.out)|(with_reducible refine Kd.C_alloc ?_ _)|(with_reducible refine Kd.C_drewN ?_ _)|(with_reducible refine Kd.C_drew ?_)));(case side2=>exact HC0_0.out);rintro e w10 ⟨rfl,hb⟩;refine ⟨_,rfl,?_⟩;have n0_:=zk (zb BK19001.out hb);have n1_:=zk (below_step za4 hb);clear BK19001;clear HB;have BK19001:=n0_;have HB:=n1_;clear n0_ n1_;(try clear hb);(try clear hb2);(try clear hk);(try clear hi)))
  go_ret
  exact ⟨za7,za4⟩
def laws_toProblem.f (k:Nat) (l0_0:List (S103)):Option ((List (S67))):=(laws_toConstraintS.f k l0_0).bind fun t21004=>(some t21004)
theorem laws_toProblem.mono:∀ a0 k,LeO (laws_toProblem.f k a0) (laws_toProblem.f (k+1) a0):=by
 intro a0 k
 unfold laws_toProblem.f
 repeat' first
  | with_reducible first|exact laws_toConstraintS.mono _ _|exact LeO.refl _|exact LeO.none _|refine LeO.ite ?_ ?_|refine LeO.bind ?_ (fun _=>?_)
theorem laws_toProblem.calls (k:Nat) (A0_0:Option Addr) (c0_0:Nat) (l0_0:List (S103)) (r:List (S67)) (w:World) (hr0_0:Kd.C k103 w A0_0 l0_0.length l0_0) (hc0_0:l0_0.length≤c0_0) (h:laws_toProblem.f k l0_0=some r) :
  Calls Tryz.prog 21 #[.agg #[.slice A0_0 l0_0.length c0_0]] w fun e w'=>∃ v0_:Value,e = .returned (.agg #[v0_])∧Kd.R k67 67 w' w.heap.size (fun _=>True) v0_ r∧Below w.heap.size w w':=by
 have hu42:=Tryz.underlying42
 have hu26:=Tryz.underlying26
 have HR0_0:=zk hr0_0
 have HC0_0:=zk hc0_0
 clear hr0_0 hc0_0
 have HB:=zk (Below.refl w.heap.size w)
 have H:((laws_toConstraintS.f k l0_0).bind fun t21004=>(some t21004))=some r:=h
 clear h
 replace H:=zo H
 obtain ⟨t21004,A20,H⟩:=H
 replace H:(some t21004)=some r:=H
 have A2:=zk A20
 clear A20
 obtain rfl:=zi H
 go_enter Tryz.func21,Tryz.ntmps21
 go_wp2_with (first|((with_reducible refine gate_dst (N:=1) rfl ?_);refine zE (N:=1) (cs:=#[.slice A0_0 l0_0.length c0_0]) (t:=42) ?_;intro gb21001 hg w3 hbox hb;have n0_:=zk (below_step za4 hb);have n1_:=zk (hbox);have n2_:=zk (zs (w:=w) hg za4);have n3_:=zk (zs (w:=w) hg za4);clear HB;have HB:=n0_;have BK21001:=n1_;have GW21001:=n2_;have GE21001:=n3_;clear n0_ n1_ n2_ n3_;clear hb hbox hg)|((with_reducible refine gate_dst (N:=2) rfl ?_);refine zE (N:=2) (cs:=#[.slice none 0 0]) (t:=26) ?_;intro gb21002 hg w4 hbox hb;have n0_:=zk (zb BK21001.out hb);have n1_:=zk (below_step za4 hb);have n2_:=zk (hbox);have n3_:=zk (zs (w:=w) hg za4);have n4_:=zk (zs (w:=w) hg za4);have n5_:=zk ((by rw [hg];exact Nat.ne_of_lt (zl BK21001.out):gb21001 ≠ gb21002));have n6_:=zk ((by rw [hg];exact Nat.ne_of_gt (zl BK21001.out):gb21002 ≠ gb21001));clear BK21001;clear HB;have BK21001:=n0_;have HB:=n1_;have BK21002:=n2_;have GW21002:=n3_;have GE21002:=n4_;have NB21001_21002:=n5_;have NB21002_21001:=n6_;clear n0_ n1_ n2_ n3_ n4_ n5_ n6_;clear hb hbox hg)|((with_reducible refine gate_dst (N:=3) rfl ?_);refine zE (N:=3) (cs:=#[.slice none 0 0]) (t:=26) ?_;intro gb21003 hg w5 hbox hb;have n0_:=zk (zb BK21001.out hb);have n1_:=zk (zb BK21002.out hb);have n2_:=zk (below_step za4 hb);have n3_:=zk (hbox);have n4_:=zk (zs (w:=w) hg za4);have n5_:=zk (zs (w:=w) hg za4);have n6_:=zk ((by rw [hg];exact Nat.ne_of_lt (zl BK21001.out):gb21001 ≠ gb21003));have n7_:=zk ((by rw [hg];exact Nat.ne_of_gt (zl BK21001.out):gb21003 ≠ gb21001));have n8_:=zk ((by rw [hg];exact Nat.ne_of_lt (zl BK21002.out):gb21002 ≠ gb21003));have n9_:=zk ((by rw [hg];exact Nat.ne_of_gt (zl BK21002.out):gb21003 ≠ gb21002));clear BK21001;clear BK21002;clear HB;have BK21001:=n0_;have BK21002:=n1_;have HB:=n2_;have BK21003:=n3_;have GW21003:=n4_;have GE21003:=n5_;have NB21001_21003:=n6_;have NB21003_21001:=n7_;have NB21002_21003:=n8_;have NB21003_21002:=n9_;clear n0_ n1_ n2_ n3_ n4_ n5_ n6_ n7_ n8_ n9_;clear hb hbox hg;have hnb6:=NB21001_21002.out;have hnc6:=NB21002_21001.out;have hnb7:=NB21001_21003.out;have hnc7:=NB21003_21001.out;obtain ⟨hcz8_0,hfz8_0⟩:=blk1 BK21001.out)|((with_reducible refine gate_callee (f:=56) rfl ?_);refine goesL_ (some 6) rfl rfl Tryz.func56 (by kernel_rfl) rfl #[.slice A0_0 l0_0.length c0_0] rfl za5 ?_;(with_reducible refine (laws_toConstraintS.calls k _ _ l0_0 t21004 _ ?side1 ?side2 A2.out).mono ?_);(case side1=>repeat (first|exact (Kd.C_below HR0_0.out HB.out)|(with_reducible refine Kd.C_alloc ?_ _)|(with_reducible refine Kd.C_drewN ?_ _)|(with_reducible refine Kd.C_drew ?_)));(case side2=>exact HC0_0.out);rintro e w9 ⟨v21005,rfl,ho0,hb⟩;refine ⟨_,rfl,?_⟩;have n0_:=zk (Kd.R_lower ho0 (below_size za4));have n1_:=zk (zb BK21001.out hb);have n2_:=zk (zb BK21002.out hb);have n3_:=zk (zb BK21003.out hb);have n4_:=zk (below_step za4 hb);clear BK21001;clear BK21002;clear BK21003;clear HB;have HO21006:=n0_;have BK21001:=n1_;have BK21002:=n2_;have BK21003:=n3_;have HB:=n4_;clear n0_ n1_ n2_ n3_ n4_;(try clear hb);(try clear hb2);(try clear hk);(try clear hi);(try clear ho0);obtain ⟨Ao10,co10,eo10⟩:=Kd.R_slice HO21006.out;subst eo10;have hnb11:=NB21003_21002.out;have hnc11:=NB21002_21003.out;obtain ⟨hcz12_0,hfz12_0⟩:=blk1 BK21003.out;obtain ⟨hcz13_0,hfz13_0⟩:=blk1 BK21002.out))
 refine bodyPost_ret (results_cell_row rfl _ _ gb21002 26 #[.slice Ao10 t21004.length co10] (0,0) _ rfl (by (with_reducible repeat (first|refine blk_drewN ?_ _|refine blk_drew ?_|refine blk_alloc ?_ _));refine blk_put (cs:=#[.slice none 0 0]) ?_ 0 _ rfl;(with_reducible repeat (first|refine blk_drewN ?_ _|refine blk_drew ?_|refine blk_alloc ?_ _));refine blk_far ?_ NB21002_21003.out _;(with_reducible repeat (first|refine blk_drewN ?_ _|refine blk_drew ?_|refine blk_alloc ?_ _));exact BK21002.out) Tryz.underlying26 rfl (by kernel_rfl)) rfl ?_
 exact ⟨_,za7,by (with_reducible repeat (first|apply Kd.R_alloc|apply Kd.R_drewN|apply Kd.R_drew));exact Kd.R_mono (Kd.R_far (p:=⟨gb21002,0,none⟩) (Kd.R_far (p:=⟨gb21003,0,none⟩) (Kd.R_types (Kd.R_types HO21006.out BK21003.out (by decide)) BK21002.out (by decide)) (fun _ hk=>hk.1.2) (.slice Ao10 t21004.length co10)) (fun _ hk=>hk.2) (.slice Ao10 t21004.length co10)) (fun _ hk=>trivial),za4⟩
def laws_eqProblem.f (k:Nat) (l0_0:List (S67)) (l1_0:List (S67)):Option (Bool):=(laws_eqConstraintS.f k l0_0 l1_0).bind fun t23003=>(if t23003=true then (some true) else (some false))
theorem laws_eqProblem.mono:∀ a0 a1 k,LeO (laws_eqProblem.f k a0 a1) (laws_eqProblem.f (k+1) a0 a1):=by
 intro a0 a1 k
 unfold laws_eqProblem.f
 repeat' first
  | with_reducible first|exact laws_eqConstraintS.mono _ _ _|exact LeO.refl _|exact LeO.none _|refine LeO.ite ?_ ?_|refine LeO.bind ?_ (fun _=>?_)
theorem laws_eqProblem.calls (k:Nat) (A0_0:Option Addr) (c0_0:Nat) (l0_0:List (S67)) (A1_0:Option Addr) (c1_0:Nat) (l1_0:List (S67)) (r:Bool) (w:World) (hr0_0:Kd.C k67 w A0_0 l0_0.length l0_0) (hc0_0:l0_0.length≤c0_0) (hr1_0:Kd.C k67 w A1_0 l1_0.length l1_0) (hc1_0:l1_0.length≤c1_0) (h:laws_eqProblem.f k l0_0 l1_0=some r) :
   Calls Tryz.prog 23 #[.agg #[.slice A0_0 l0_0.length c0_0],.agg #[.slice A1_0 l1_0.length c1_0]] w fun e w'=>e = .returned (.bool r)∧Below w.heap.size w w':=by
 have hu26:=Tryz.underlying26
 have HR0_0:=zk hr0_0
 have HC0_0:=zk hc0_0
 clear hr0_0 hc0_0
 have HR1_0:=zk hr1_0
 have HC1_0:=zk hc1_0
 clear hr1_0 hc1_0
 have HB:=zk (Below.refl w.heap.size w)
 have H:((laws_eqConstraintS.f k l0_0 l1_0).bind fun t23003=>(if t23003=true then (some true) else (some false)))=some r:=h
 clear h
 replace H:=zo H
 obtain ⟨t23003,A30,H⟩:=H
 replace H:(if t23003=true then (some true) else (some false))=some r:=H
 have A3:=zk A30
 clear A30
 by_cases c4:t23003=true
 subst c4
 have H1:(some true)=some r:=by rw [if_pos rfl] at H;exact H
 rotate_left
 replace c4:=Bool.eq_false_iff.mpr c4
 subst c4
 have H1:(some false)=some r:=by rw [if_neg (show ¬ (false=true) by decide)] at H;exact H
 rotate_left
 all_goals
  clear H
  have H:=H1
  clear H1
  obtain rfl:=zi H
  go_enter Tryz.func23,Tryz.ntmps23
  go_wp2_with (first|((with_reducible refine gate_dst (N:=2) rfl ?_);refine zE (N:=2) (cs:=#[.slice A0_0 l0_0.length c0_0]) (t:=26) ?_;intro gb23001 hg w11 hbox hb;have n0_:=zk (below_step za4 hb);have n1_:=zk (hbox);have n2_:=zk (zs (w:=w) hg za4);have n3_:=zk (zs (w:=w) hg za4);clear HB;have HB:=n0_;have BK23001:=n1_;have GW23001:=n2_;have GE23001:=n3_;clear n0_ n1_ n2_ n3_;clear hb hbox hg)|((with_reducible refine gate_dst (N:=3) rfl ?_);refine zE (N:=3) (cs:=#[.slice A1_0 l1_0.length c1_0]) (t:=26) ?_;intro gb23002 hg w12 hbox hb;have n0_:=zk (zb BK23001.out hb);have n1_:=zk (below_step za4 hb);have n2_:=zk (hbox);have n3_:=zk (zs (w:=w) hg za4);have n4_:=zk (zs (w:=w) hg za4);have n5_:=zk ((by rw [hg];exact Nat.ne_of_lt (zl BK23001.out):gb23001 ≠ gb23002));have n6_:=zk ((by rw [hg];exact Nat.ne_of_gt (zl BK23001.out):gb23002 ≠ gb23001));clear BK23001;clear HB;have BK23001:=n0_;have HB:=n1_;have BK23002:=n2_;have GW23002:=n3_;have GE23002:=n4_;have NB23001_23002:=n5_;have NB23002_23001:=n6_;clear n0_ n1_ n2_ n3_ n4_ n5_ n6_;clear hb hbox hg;have hnb13:=NB23001_23002.out;have hnc13:=NB23002_23001.out;obtain ⟨hcz14_0,hfz14_0⟩:=blk1 BK23001.out;obtain ⟨hcz15_0,hfz15_0⟩:=blk1 BK23002.out)|((with_reducible refine gate_callee (f:=57) rfl ?_);refine goesL_ (some 9) rfl rfl Tryz.func57 (by kernel_rfl) rfl #[.slice A0_0 l0_0.length c0_0,.slice A1_0 l1_0.length c1_0] rfl za5 ?_;(with_reducible refine (laws_eqConstraintS.calls k _ _ l0_0 _ _ l1_0 _ _ ?side1 ?side2 ?side3 ?side4 A3.out).mono ?_);(case side1=>repeat (first|exact (Kd.C_below HR0_0.out HB.out)|(with_reducible refine Kd.C_alloc ?_ _)|(with_reducible refine Kd.C_drewN ?_ _)|(with_reducible refine Kd.C_drew ?_)));(case side2=>exact HC0_0.out);(case side3=>repeat (first|exact (Kd.C_below HR1_0.out HB.out)|(with_reducible refine Kd.C_alloc ?_ _)|(with_reducible refine Kd.C_drewN ?_ _)|(with_reducible refine Kd.C_drew ?_)));(case side4=>exact HC1_0.out);rintro e w16 ⟨rfl,hb⟩;refine ⟨_,rfl,?_⟩;have n0_:=zk (zb BK23001.out hb);have n1_:=zk (zb BK23002.out hb);have n2_:=zk (below_step za4 hb);clear BK23001;clear BK23002;clear HB;have BK23001:=n0_;have BK23002:=n1_;have HB:=n2_;clear n0_ n1_ n2_;(try clear hb);(try clear hb2);(try clear hk);(try clear hi)))
  go_ret
  exact ⟨za7,za4⟩
def spec_l1Max.f (a0:Int) (a1:Int):Option (Int):=if a0 > a1 then (some a0) else (some a1)
theorem spec_l1Max.calls (a0:Int) (a1:Int) (r:Int) (w:World) (h:spec_l1Max.f a0 a1=some r) :
   Calls Tryz.prog 139 #[.int .i64 a0,.int .i64 a1] w fun e w'=>e = .returned (.int .i64 r)∧Drawn0 w w':=by
 have H:(if a0 > a1 then (some a0) else (some a1))=some r:=h
 clear h
 by_cases c3:a0 > a1
 rw [if_pos c3] at H
 have c3b0:decide (a1 < a0)=true:=decide_eq_true c3
 rotate_left
 rw [if_neg c3] at H
 have c3b0:decide (a1 < a0)=false:=decide_eq_false c3
 rotate_left
 all_goals
  clear c3
  obtain rfl:=zi H
  go_enter Tryz.func139,Tryz.ntmps139
  go_wp2
  go_ret
  exact ⟨za8,za11⟩
def spec_l1In.f (a0:Int) (a1:Int) (a2:Int):Option (Bool):=if a0 ≥ a1 then (some (decide (a0≤a2))) else (some false)
theorem spec_l1In.calls (a0:Int) (a1:Int) (a2:Int) (r:Bool) (w:World) (h:spec_l1In.f a0 a1 a2=some r) :
   Calls Tryz.prog 101 #[.int .i64 a0,.int .i64 a1,.int .i64 a2] w fun e w'=>e = .returned (.bool r)∧Drawn0 w w':=by
 have H:(if a0 ≥ a1 then (some (decide (a0≤a2))) else (some false))=some r:=h
 clear h
 by_cases c4:a0 ≥ a1
 rw [if_pos c4] at H
 have c4b0:decide (a1≤a0)=true:=decide_eq_true c4
 rotate_left
 rw [if_neg c4] at H
 have c4b0:decide (a1≤a0)=false:=decide_eq_false c4
 rotate_left
 all_goals
  clear c4
  obtain rfl:=zi H
  go_enter Tryz.func101,Tryz.ntmps101
  go_wp2
  go_ret
  exact ⟨za8,za11⟩
def spec_l1Min.f (a0:Int) (a1:Int):Option (Int):=if a0 < a1 then (some a0) else (some a1)
theorem spec_l1Min.calls (a0:Int) (a1:Int) (r:Int) (w:World) (h:spec_l1Min.f a0 a1=some r) :
   Calls Tryz.prog 37 #[.int .i64 a0,.int .i64 a1] w fun e w'=>e = .returned (.int .i64 r)∧Drawn0 w w':=by
 have H:(if a0 < a1 then (some a0) else (some a1))=some r:=h
 clear h
 by_cases c3:a0 < a1
 rw [if_pos c3] at H
 have c3b0:decide (a0 < a1)=true:=decide_eq_true c3
 rotate_left
 rw [if_neg c3] at H
 have c3b0:decide (a0 < a1)=false:=decide_eq_false c3
 rotate_left
 all_goals
  clear c3
  obtain rfl:=zi H
  go_enter Tryz.func37,Tryz.ntmps37
  go_wp2
  go_ret
  exact ⟨za8,za11⟩
def spec_LetterIndex.l0:Nat→Int→Int→Option (Int)
 | 0,_,_=>none
 | k+1,x0,x3=>if x3 < 3 then (if 0≤x3 then (if (bt (⟨#[97,98,99]⟩:ByteArray) x3)=x0 then (some x3) else (spec_LetterIndex.l0 k x0 (wrap64 (x3+1)))) else (none)) else (some (-1))
def spec_LetterIndex.f (k:Nat) (a0:Int):Option (Int):=spec_LetterIndex.l0 k a0 0
theorem spec_LetterIndex.mono_l:∀ k,(∀ y0 y1,LeO (spec_LetterIndex.l0 k y0 y1) (spec_LetterIndex.l0 (k+1) y0 y1))
 | 0=>fun _ _ r h=>by simp [spec_LetterIndex.l0] at h
 | k+1=>by
  have ih0:=spec_LetterIndex.mono_l k
  ·intro y0 y1
   unfold spec_LetterIndex.l0
   repeat' first
   | with_reducible first|exact ih0 _ _|exact LeO.refl _|exact LeO.none _|refine LeO.ite ?_ ?_|refine LeO.bind ?_ (fun _=>?_)
theorem spec_LetterIndex.mono:∀ a0 k,LeO (spec_LetterIndex.f k a0) (spec_LetterIndex.f (k+1) a0):=by
 intro a0 k
 have ih0:=spec_LetterIndex.mono_l k
 unfold spec_LetterIndex.f
 repeat' first
  | with_reducible first|exact ih0 _ _|exact LeO.refl _|exact LeO.none _|refine LeO.ite ?_ ?_|refine LeO.bind ?_ (fun _=>?_)
theorem spec_LetterIndex.calls (k:Nat) (a0:Int) (r:Int) (w:World) (h:spec_LetterIndex.f k a0=some r) :
   Calls Tryz.prog 117 #[.int .u8 a0] w fun e w'=>e = .returned (.int .i64 r)∧Drawn0 w w':=by
 have H:(spec_LetterIndex.l0 k a0 0)=some r:=h
 clear h
 have H':=zk H
 clear H
 go_enter Tryz.func117,Tryz.ntmps117
 go_wp2
 first|go_loopg [3] k (fun kq v3 w'=>∃ (x3_1:Int),v3 = .int .i64 x3_1∧Aside0 (spec_LetterIndex.l0 kq a0 x3_1=some r)∧Aside0 (kq≤k)∧Drawn0 w w')|(simp only [Act.put,zt,zv,zu];go_loopg [3] k (fun kq v3 w'=>∃ (x3_1:Int),v3 = .int .i64 x3_1∧Aside0 (spec_LetterIndex.l0 kq a0 x3_1=some r)∧Aside0 (kq≤k)∧Drawn0 w w'))
 case atStart=>exact ⟨(0),za8,H',⟨Nat.le_refl _⟩,za11⟩
 case round =>
  clear H'
  obtain ⟨x3_1,rfl,HA,HK1,⟨m1,rfl⟩⟩:=hrel
  cases gk with
  | zero=>exact absurd HA.out (by simp [spec_LetterIndex.l0])
  | succ k1 =>
   have H:=HA.out
   clear HA
   simp only [spec_LetterIndex.l0] at H
   by_cases c2:x3_1 < 3
   rw [if_pos c2] at H
   have c2b0:decide (x3_1 < 3)=true:=decide_eq_true c2
   clear c2
   by_cases c3:0≤x3_1
   rw [if_pos c3] at H
   have c3b0:decide (0≤x3_1)=true:=decide_eq_true c3
   clear c3
   by_cases c5:(bt (⟨#[97,98,99]⟩:ByteArray) x3_1)=a0
   ·rw [if_pos c5] at H
    have c5b0:((bt (⟨#[97,98,99]⟩:ByteArray) x3_1) == a0)=true:=beq_iff_eq.mpr c5
    have c5b1:((bt (⟨#[97,98,99]⟩:ByteArray) x3_1) != a0)=false:=bne_eq_false_iff_eq.mpr c5
    clear c5
    obtain rfl:=zi H
    have p4:0≤(x3_1:Int):=of_decide_eq_true za9
    have q4:x3_1 < (3:Int):=of_decide_eq_true za9
    have hx4:=bt_at (⟨#[97,98,99]⟩:ByteArray) x3_1
    replace p4:=eq_true p4
    replace q4:=eq_true q4
    go_wp2
    go_ret
    exact ⟨za8,za11⟩
   ·rw [if_neg c5] at H
    have c5b0:((bt (⟨#[97,98,99]⟩:ByteArray) x3_1) == a0)=false:=beq_eq_false_iff_ne.mpr c5
    have c5b1:((bt (⟨#[97,98,99]⟩:ByteArray) x3_1) != a0)=true:=bne_iff_ne.mpr c5
    have H':=zk H
    clear H
    have p4:0≤(x3_1:Int):=of_decide_eq_true za9
    have q4:x3_1 < (3:Int):=of_decide_eq_true za9
    have hx4:=bt_at (⟨#[97,98,99]⟩:ByteArray) x3_1
    replace p4:=eq_true p4
    replace q4:=eq_true q4
    go_wp2
    go_roundg k1
    case measure=>have:=HK1.out;omega
    case rel=>exact ⟨(wrap64 (x3_1+1)),za8,H',⟨za17⟩,za11⟩
   ·rw [if_neg c3] at H
    exact absurd H (by simp)
   ·rw [if_neg c2] at H
    have c2b0:decide (x3_1 < 3)=false:=decide_eq_false c2
    clear c2
    obtain rfl:=zi H
    go_wp2
    go_ret
    exact ⟨za8,za11⟩
def spec_IsWord.l0:Nat→ByteArray→Int→Option (Bool)
 | 0,_,_=>none
 | k+1,x0,x3=>if x3 < (x0.size:Int) then (if 0≤x3 then ((spec_LetterIndex.f k (bt x0 x3)).bind fun t84001=>(if t84001 < 0 then (some false) else (spec_IsWord.l0 k x0 (wrap64 (x3+1))))) else (none)) else (some (decide ((x0.size:Int)≤30)))
def spec_IsWord.f (k:Nat) (a0:ByteArray):Option (Bool):=spec_IsWord.l0 k a0 0
theorem spec_IsWord.mono_l:∀ k,(∀ y0 y1,LeO (spec_IsWord.l0 k y0 y1) (spec_IsWord.l0 (k+1) y0 y1))
 | 0=>fun _ _ r h=>by simp [spec_IsWord.l0] at h
 | k+1=>by
  have ih0:=spec_IsWord.mono_l k
  ·intro y0 y1
   unfold spec_IsWord.l0
   repeat' first
   | with_reducible first|exact ih0 _ _|exact spec_LetterIndex.mono _ _|exact LeO.refl _|exact LeO.none _|refine LeO.ite ?_ ?_|refine LeO.bind ?_ (fun _=>?_)
theorem spec_IsWord.mono:∀ a0 k,LeO (spec_IsWord.f k a0) (spec_IsWord.f (k+1) a0):=by
 intro a0 k
 have ih0:=spec_IsWord.mono_l k
 unfold spec_IsWord.f
 repeat' first
  | with_reducible first|exact ih0 _ _|exact spec_LetterIndex.mono _ _|exact LeO.refl _|exact LeO.none _|refine LeO.ite ?_ ?_|refine LeO.bind ?_ (fun _=>?_)
theorem spec_IsWord.calls (k:Nat) (a0:ByteArray) (r:Bool) (w:World) (h:spec_IsWord.f k a0=some r) :
   Calls Tryz.prog 84 #[.string a0] w fun e w'=>e = .returned (.bool r)∧Drawn0 w w':=by
 have H:(spec_IsWord.l0 k a0 0)=some r:=h
 clear h
 have H':=zk H
 clear H
 go_enter Tryz.func84,Tryz.ntmps84
 go_wp2
 first|go_loopg [3] k (fun kq v3 w'=>∃ (x3_1:Int),v3 = .int .i64 x3_1∧Aside0 (spec_IsWord.l0 kq a0 x3_1=some r)∧Aside0 (kq≤k)∧Drawn0 w w')|(simp only [Act.put,zt,zv,zu];go_loopg [3] k (fun kq v3 w'=>∃ (x3_1:Int),v3 = .int .i64 x3_1∧Aside0 (spec_IsWord.l0 kq a0 x3_1=some r)∧Aside0 (kq≤k)∧Drawn0 w w'))
 case atStart=>exact ⟨(0),za8,H',⟨Nat.le_refl _⟩,za11⟩
 case round =>
  clear H'
  obtain ⟨x3_1,rfl,HA,HK1,⟨m1,rfl⟩⟩:=hrel
  cases gk with
  | zero=>exact absurd HA.out (by simp [spec_IsWord.l0])
  | succ k1 =>
   have H:=HA.out
   clear HA
   simp only [spec_IsWord.l0] at H
   by_cases c2:x3_1 < (a0.size:Int)
   rw [if_pos c2] at H
   have c2b0:decide (x3_1 < (a0.size:Int))=true:=decide_eq_true c2
   clear c2
   by_cases c3:0≤x3_1
   rw [if_pos c3] at H
   have c3b0:decide (0≤x3_1)=true:=decide_eq_true c3
   clear c3
   replace H:=zo H
   obtain ⟨t84001,A50,H⟩:=H
   replace H:(if t84001 < 0 then (some false) else (spec_IsWord.l0 k1 a0 (wrap64 (x3_1+1))))=some r:=H
   have A5:=zk A50
   clear A50
   by_cases c6:t84001 < 0
   rw [if_pos c6] at H
   have c6b0:decide (t84001 < 0)=true:=decide_eq_true c6
   clear c6
   obtain rfl:=zi H
   have fin0_:=zk trivial
   rotate_left
   rw [if_neg c6] at H
   have c6b0:decide (t84001 < 0)=false:=decide_eq_false c6
   clear c6
   have H':=zk H
   clear H
   have fin1_:=zk trivial
   rotate_left
   · rw [if_neg c3] at H
     exact absurd H (by simp)
   · rw [if_neg c2] at H
     have c2b0:decide (x3_1 < (a0.size:Int))=false:=decide_eq_false c2
     clear c2
     obtain rfl:=zi H
     go_wp2
     go_ret
     exact ⟨za8,za11⟩
   all_goals
    have p4:0≤(x3_1:Int):=of_decide_eq_true za9
    have q4:x3_1 < (a0.size:Int):=of_decide_eq_true za9
    have hx4:=bt_at a0 x3_1
    replace p4:=eq_true p4
    replace q4:=eq_true q4
    go_wp2_with (((with_reducible refine gate_callee (f:=117) rfl ?_);refine goesL_ (some 13) rfl rfl Tryz.func117 (by kernel_rfl) rfl #[.int .u8 (bt a0 x3_1)] rfl za5 ?_;(with_reducible refine (spec_LetterIndex.calls k1 (bt a0 x3_1) t84001 _ A5.out).mono ?_);rintro e w' ⟨rfl,⟨nd,rfl⟩⟩;refine ⟨_,rfl,?_⟩))
    first
    | (
      clear fin0_
      go_ret
      exact ⟨za8,za11⟩)
    | (
      clear fin1_
      go_roundg k1
      case measure=>have:=HK1.out;omega
      case rel=>exact ⟨(wrap64 (x3_1+1)),za8,H',⟨za17⟩,za11⟩)
mutual
def spec_WordsOfLength.l0:Nat→Int→List ByteArray→Int→Option (List ByteArray)
 | 0,_,_,_=>none
 | k+1,x0,x3,x4=>if x4 < x0 then (spec_WordsOfLength.l1 k x0 x3 x4 (([]:List ByteArray)) 0) else (some x3)
def spec_WordsOfLength.l1:Nat→Int→List ByteArray→Int→List ByteArray→Int→Option (List ByteArray)
 | 0,_,_,_,_,_=>none
 | k+1,x0,x3,x4,x5,x6=>if x6 < (x3.length:Int) then (spec_WordsOfLength.l2 k x0 x3 x4 x5 x6 0) else (spec_WordsOfLength.l0 k x0 x5 (wrap64 (x4+1)))
def spec_WordsOfLength.l2:Nat→Int→List ByteArray→Int→List ByteArray→Int→Int→Option (List ByteArray)
 | 0,_,_,_,_,_,_=>none
 | k+1,x0,x3,x4,x5,x6,x7=>if x7 < 3 then (if 0≤x6 then (if x6 < (x3.length:Int) then (if 0≤x7 then (if x7≤(wrap64 (x7+1)) then (if (wrap64 (x7+1))≤3 then (if (rdOf ByteArray.empty x3 x6).size+((⟨#[97,98,99]⟩:ByteArray).extract (x7:Int).toNat ((wrap64 (x7+1)):Int).toNat).size≤9223372036854775807 then (if x5.length < 8796093022208 then (spec_WordsOfLength.l2 k x0 x3 x4 (x5 ++ [(rdOf ByteArray.empty x3 x6) ++ ((⟨#[97,98,99]⟩:ByteArray).extract (x7:Int).toNat ((wrap64 (x7+1)):Int).toNat)]) x6 (wrap64 (x7+1))) else (none)) else (none)) else (none)) else (none)) else (none)) else (none)) else (none)) else (spec_WordsOfLength.l1 k x0 x3 x4 x5 (wrap64 (x6+1)))
end
def spec_WordsOfLength.f (k:Nat) (a0:Int):Option (List ByteArray):=(spec_l1In.f a0 0 5).bind fun t70001=>(if t70001=true then (spec_WordsOfLength.l0 k a0 (([(⟨#[]⟩:ByteArray)]:List ByteArray)) 0) else (some (([]:List ByteArray))))
theorem spec_WordsOfLength.mono_l:∀ k,(∀ y0 y1 y2,LeO (spec_WordsOfLength.l0 k y0 y1 y2) (spec_WordsOfLength.l0 (k+1) y0 y1 y2))∧(∀ y0 y1 y2 y3 y4,LeO (spec_WordsOfLength.l1 k y0 y1 y2 y3 y4) (spec_WordsOfLength.l1 (k+1) y0 y1 y2 y3 y4))∧(∀ y0 y1 y2 y3 y4 y5,LeO (spec_WordsOfLength.l2 k y0 y1 y2 y3 y4 y5) (spec_WordsOfLength.l2 (k+1) y0 y1 y2 y3 y4 y5))
 | 0=>⟨fun _ _ _ r h=>by simp [spec_WordsOfLength.l0] at h,fun _ _ _ _ _ r h=>by simp [spec_WordsOfLength.l1] at h,fun _ _ _ _ _ _ r h=>by simp [spec_WordsOfLength.l2] at h⟩
 | k+1=>by
  obtain ⟨ih0,ih1,ih2⟩:=spec_WordsOfLength.mono_l k
  refine ⟨?_,?_,?_⟩
  ·intro y0 y1 y2
   unfold spec_WordsOfLength.l0
   repeat' first
   | with_reducible first|exact ih0 _ _ _|exact ih1 _ _ _ _ _|exact ih2 _ _ _ _ _ _|exact LeO.refl _|exact LeO.none _|refine LeO.ite ?_ ?_|refine LeO.bind ?_ (fun _=>?_)
  ·intro y0 y1 y2 y3 y4
   unfold spec_WordsOfLength.l1
   repeat' first
   | with_reducible first|exact ih0 _ _ _|exact ih1 _ _ _ _ _|exact ih2 _ _ _ _ _ _|exact LeO.refl _|exact LeO.none _|refine LeO.ite ?_ ?_|refine LeO.bind ?_ (fun _=>?_)
  ·intro y0 y1 y2 y3 y4 y5
   unfold spec_WordsOfLength.l2
   repeat' first
   | with_reducible first|exact ih0 _ _ _|exact ih1 _ _ _ _ _|exact ih2 _ _ _ _ _ _|exact LeO.refl _|exact LeO.none _|refine LeO.ite ?_ ?_|refine LeO.bind ?_ (fun _=>?_)
theorem spec_WordsOfLength.mono:∀ a0 k,LeO (spec_WordsOfLength.f k a0) (spec_WordsOfLength.f (k+1) a0):=by
 intro a0 k
 obtain ⟨ih0,ih1,ih2⟩:=spec_WordsOfLength.mono_l k
 unfold spec_WordsOfLength.f
 repeat' first
  | with_reducible first|exact ih0 _ _ _|exact ih1 _ _ _ _ _|exact ih2 _ _ _ _ _ _|exact LeO.refl _|exact LeO.none _|refine LeO.ite ?_ ?_|refine LeO.bind ?_ (fun _=>?_)
def spec_WordsOfLength.T14:Bool × List (List Nat × List Nat):=(true,[([],[]),([],[]),([],[]),([1,2],[1,2]),([3],[3]),([],[]),([],[]),([6],[6]),([5,7],[5,7]),([4,8],[4,8]),([9],[9]),([0,10],[0,10]),([11,11,0,1,2,3,4,5,6,7,8,9,10,11],[0,11])])
def spec_WordsOfLength.B14:List Nat:=[0,0,0,6,14,0,0,64,224,510,1022,2047,4095]
theorem spec_WordsOfLength.tab14:rtab .any (opsOf Tryz.f70 14)=spec_WordsOfLength.T14:=by kernel_rfl
theorem spec_WordsOfLength.bits14:waitsOk spec_WordsOfLength.T14.2 spec_WordsOfLength.B14=true:=by kernel_rfl
theorem spec_WordsOfLength.calls (k:Nat) (a0:Int) (r:List ByteArray) (w:World) (h:spec_WordsOfLength.f k a0=some r) :
  Calls Tryz.prog 70 #[.int .i64 a0] w fun e w'=>∃ v0_:Value,e = .returned (v0_)∧Kd.R Kd.string 9 w' w.heap.size (fun _=>True) v0_ r∧Below w.heap.size w w':=by
 have HB:=zk (Below.refl w.heap.size w)
 have H:((spec_l1In.f a0 0 5).bind fun t70001=>(if t70001=true then (spec_WordsOfLength.l0 k a0 (([(⟨#[]⟩:ByteArray)]:List ByteArray)) 0) else (some (([]:List ByteArray)))))=some r:=h
 clear h
 replace H:=zo H
 obtain ⟨t70001,A20,H⟩:=H
 replace H:(if t70001=true then (spec_WordsOfLength.l0 k a0 (([(⟨#[]⟩:ByteArray)]:List ByteArray)) 0) else (some (([]:List ByteArray))))=some r:=H
 have A2:=zk A20
 clear A20
 by_cases c3:t70001=true
 ·subst c3
  have H1:(spec_WordsOfLength.l0 k a0 (([(⟨#[]⟩:ByteArray)]:List ByteArray)) 0)=some r:=by rw [if_pos rfl] at H;exact H
  clear H
  have H:=H1
  clear H1
  obtain ⟨y70005,hy70005⟩:∃ y_:List ByteArray,y_=(([(⟨#[]⟩:ByteArray)]:List ByteArray)):=⟨_,rfl⟩
  replace H:(spec_WordsOfLength.l0 k a0 y70005 0)=some r:=by first|(rw [hy70005];with_reducible exact H)|(have H2_:=(Option.bind_some _ _).symm.trans H;rw [hy70005];with_reducible exact H2_)|(have H2_:=(Option.bind_some _ _).symm.trans H;with_reducible exact H2_)|with_reducible exact H|(rw [hy70005];exact H)|exact H
  have Ny70005:=zk hy70005
  clear hy70005
  have H':=zk H
  clear H
  go_enter Tryz.func70,Tryz.ntmps70
  go_wp2_with (first|((with_reducible refine gate_callee (f:=101) rfl ?_);refine goesL_ (some 9) rfl rfl Tryz.func101 (by kernel_rfl) rfl #[.int .i64 a0,.int .i64 0,.int .i64 5] rfl za5 ?_;(with_reducible refine (spec_l1In.calls a0 0 5 _ _ A2.out).mono ?_);rintro e w' ⟨rfl,⟨nd,rfl⟩⟩;refine ⟨_,rfl,?_⟩)|((with_reducible refine gate_dst (N:=12) rfl ?_);refine Kd.R_lit Kd.string _ 9 ?hg (N:=12) ?hd (xs:=([(⟨#[]⟩:ByteArray)]:List ByteArray)) (inner:=[.string (⟨#[]⟩:ByteArray)]) (ok:=fun _=>True) (okp:=fun _=>True) ?hr ?hp (fun _ hk=>hk) trivial (Below.refl _ _) (Nat.le_refl _) (by simp) ?_;(case hd=>rfl);(case hg=>rfl);(case hr=>first|(go_simp;done)|(go_simp;rfl));(case hp=>exact (Reps.one (show Kd.M Kd.string _ _ _ (⟨#[]⟩:ByteArray) [.string (⟨#[]⟩:ByteArray)] from rfl) (Reps.none _ _)));intro v70006 w4 ho5 hb hg_ hnew_;clear hg_ hnew_;(first|rw [← Ny70005.out] at ho5|(simp only [Int.reduceToNat] at ho5;rw [← Ny70005.out] at ho5));have n0_:=zk (Kd.R_lower ho5 (below_size za4));have n1_:=zk (below_step za4 hb);clear HB;have HO70007:=n0_;have HB:=n1_;clear n0_ n1_;clear hb ho5))
  first|go_loopg [3,4] k (fun kq v3 v4 w'=>∃ (x3_1:List ByteArray) (x4_1:Int),v4 = .int .i64 x4_1∧Aside0 (spec_WordsOfLength.l0 kq a0 x3_1 x4_1=some r)∧Aside0 (kq≤k)∧Aside0 (Kd.R Kd.string 9 w' w.heap.size (fun _=>True) v3 x3_1)∧Aside0 (Below w.heap.size w w'))|(simp only [Act.put,zt,zv,zu];go_loopg [3,4] k (fun kq v3 v4 w'=>∃ (x3_1:List ByteArray) (x4_1:Int),v4 = .int .i64 x4_1∧Aside0 (spec_WordsOfLength.l0 kq a0 x3_1 x4_1=some r)∧Aside0 (kq≤k)∧Aside0 (Kd.R Kd.string 9 w' w.heap.size (fun _=>True) v3 x3_1)∧Aside0 (Below w.heap.size w w')))
  case atStart=>exact ⟨(y70005),(0),za8,H',⟨Nat.le_refl _⟩,⟨za1 HO70007.out⟩,⟨za4⟩⟩
  case round =>
   clear H'
   try clear c3
   obtain ⟨x3_1,x4_1,rfl,HA,HK1,HO_3,HB⟩:=hrel
   cases gk with
   | zero=>exact absurd HA.out (by simp [spec_WordsOfLength.l0])
   | succ k1 =>
    have H:=HA.out
    clear HA
    simp only [spec_WordsOfLength.l0] at H
    by_cases c6:x4_1 < a0
    ·rw [if_pos c6] at H
     have c6b0:decide (x4_1 < a0)=true:=decide_eq_true c6
     clear c6
     obtain ⟨y70008,hy70008⟩:∃ y_:List ByteArray,y_=(([]:List ByteArray)):=⟨_,rfl⟩
     replace H:(spec_WordsOfLength.l1 k1 a0 x3_1 x4_1 y70008 0)=some r:=by first|(rw [hy70008];with_reducible exact H)|(have H2_:=(Option.bind_some _ _).symm.trans H;rw [hy70008];with_reducible exact H2_)|(have H2_:=(Option.bind_some _ _).symm.trans H;with_reducible exact H2_)|with_reducible exact H|(rw [hy70008];exact H)|exact H
     have Ny70008:=zk hy70008
     clear hy70008
     have H':=zk H
     clear H
     go_wp2_with (first|((with_reducible refine gate_dst (N:=18) rfl ?_);refine Kd.R_lit Kd.string _ 9 ?hg (N:=18) ?hd (xs:=([]:List ByteArray)) (inner:=[]) (ok:=fun _=>True) (okp:=fun _=>True) ?hr ?hp (fun _ hk=>hk) trivial (Below.refl _ _) (Nat.le_refl _) (by simp) ?_;(case hd=>rfl);(case hg=>rfl);(case hr=>first|(go_simp;done)|(go_simp;rfl));(case hp=>exact (Reps.none _ _));intro v70009 w7 ho8 hb hg_ hnew_;clear hg_ hnew_;(first|rw [← Ny70008.out] at ho8|(simp only [Int.reduceToNat] at ho8;rw [← Ny70008.out] at ho8));have n0_:=zk (Kd.R_elder' (za1 HO_3.out) (Kd.R_base ho8) hb);have n1_:=zk (Kd.R_lower (Kd.R_new' ho8 (Kd.R_lt (za1 HO_3.out))) (below_size za4));have n2_:=zk (below_step za4 hb);clear HO_3;clear HB;have HO_3:=n0_;have HO70010:=n1_;have HB:=n2_;clear n0_ n1_ n2_;clear hb ho8))
     first|go_loopg [5,6] k1 (fun kq v5 v6 w'=>∃ (x5_2:List ByteArray) (x6_2:Int),v6 = .int .i64 x6_2∧Aside0 (spec_WordsOfLength.l1 kq a0 x3_1 x4_1 x5_2 x6_2=some r)∧Aside0 (kq≤k1)∧Aside0 (Kd.R Kd.string 9 w' w.heap.size (fun k_=>some k_ ≠ (v5:Value).ownBlock) u3 x3_1)∧Aside0 (Kd.R Kd.string 9 w' w.heap.size (fun k_=>some k_ ≠ (u3:Value).ownBlock) v5 x5_2)∧Aside0 (Below w.heap.size w w'))|(simp only [Act.put,zt,zv,zu];go_loopg [5,6] k1 (fun kq v5 v6 w'=>∃ (x5_2:List ByteArray) (x6_2:Int),v6 = .int .i64 x6_2∧Aside0 (spec_WordsOfLength.l1 kq a0 x3_1 x4_1 x5_2 x6_2=some r)∧Aside0 (kq≤k1)∧Aside0 (Kd.R Kd.string 9 w' w.heap.size (fun k_=>some k_ ≠ (v5:Value).ownBlock) u3 x3_1)∧Aside0 (Kd.R Kd.string 9 w' w.heap.size (fun k_=>some k_ ≠ (u3:Value).ownBlock) v5 x5_2)∧Aside0 (Below w.heap.size w w')))
     case atStart=>exact ⟨(y70008),(0),za8,H',⟨Nat.le_refl _⟩,⟨za30⟩,⟨by (with_reducible repeat (first|apply Kd.R_alloc|apply Kd.R_drewN|apply Kd.R_drew));exact Kd.R_mono HO70010.out (fun _ hk=>hk.2)⟩,⟨za4⟩⟩
     case round =>
      clear H'
      try clear c3
      try clear c6
      try clear c6b0
      obtain ⟨x5_2,x6_2,rfl,HA,HK2,HO_3,HO_5,HB⟩:=hrel
      cases gk with
      | zero=>exact absurd HA.out (by simp [spec_WordsOfLength.l1])
      | succ k2 =>
       have H:=HA.out
       clear HA
       simp only [spec_WordsOfLength.l1] at H
       by_cases c9:x6_2 < (x3_1.length:Int)
       ·rw [if_pos c9] at H
        have c9b0:decide (x6_2 < (x3_1.length:Int))=true:=decide_eq_true c9
        clear c9
        have H':=zk H
        clear H
        obtain ⟨Ao10,co10,eo10⟩:=Kd.R_slice HO_3.out
        subst eo10
        go_wp2
        first|go_loopg [5,7] k2 (fun kq v5 v7 w'=>∃ (x5_3:List ByteArray) (x7_3:Int),v7 = .int .i64 x7_3∧Aside0 (spec_WordsOfLength.l2 kq a0 x3_1 x4_1 x5_3 x6_2 x7_3=some r)∧Aside0 (kq≤k2)∧Aside0 (Kd.R Kd.string 9 w' w.heap.size (fun k_=>some k_ ≠ (v5:Value).ownBlock) (.slice Ao10 x3_1.length co10) x3_1)∧Aside0 (Kd.R Kd.string 9 w' w.heap.size (fun k_=>some k_ ≠ ((.slice Ao10 x3_1.length co10):Value).ownBlock) v5 x5_3)∧Aside0 (Below w.heap.size w w'))|(simp only [Act.put,zt,zv,zu];go_loopg [5,7] k2 (fun kq v5 v7 w'=>∃ (x5_3:List ByteArray) (x7_3:Int),v7 = .int .i64 x7_3∧Aside0 (spec_WordsOfLength.l2 kq a0 x3_1 x4_1 x5_3 x6_2 x7_3=some r)∧Aside0 (kq≤k2)∧Aside0 (Kd.R Kd.string 9 w' w.heap.size (fun k_=>some k_ ≠ (v5:Value).ownBlock) (.slice Ao10 x3_1.length co10) x3_1)∧Aside0 (Kd.R Kd.string 9 w' w.heap.size (fun k_=>some k_ ≠ ((.slice Ao10 x3_1.length co10):Value).ownBlock) v5 x5_3)∧Aside0 (Below w.heap.size w w')))
        case atStart=>exact ⟨(x5_2),(0),za8,H',⟨Nat.le_refl _⟩,⟨za1 HO_3.out⟩,⟨za1 HO_5.out⟩,⟨za4⟩⟩
        case round =>
         clear H'
         try clear c3
         try clear c6
         try clear c6b0
         try clear c9
         try clear c9b0
         obtain ⟨x5_3,x7_3,rfl,HA,HK3,HO_3,HO_5,HB⟩:=hrel
         cases gk with
         | zero=>exact absurd HA.out (by simp [spec_WordsOfLength.l2])
         | succ k3 =>
          have H:=HA.out
          clear HA
          simp only [spec_WordsOfLength.l2] at H
          by_cases c11:x7_3 < 3
          rw [if_pos c11] at H
          have c11b0:decide (x7_3 < 3)=true:=decide_eq_true c11
          clear c11
          by_cases c12:0≤x6_2
          rw [if_pos c12] at H
          have c12b0:decide (0≤x6_2)=true:=decide_eq_true c12
          clear c12
          by_cases c13:x6_2 < (x3_1.length:Int)
          rw [if_pos c13] at H
          have c13b0:decide (x6_2 < (x3_1.length:Int))=true:=decide_eq_true c13
          clear c13
          by_cases c14:0≤x7_3
          rw [if_pos c14] at H
          have c14b0:=eq_true c14
          have c14b1:decide (0≤x7_3)=true:=decide_eq_true c14
          clear c14
          by_cases c15:x7_3≤(wrap64 (x7_3+1))
          rw [if_pos c15] at H
          have c15b0:=eq_true c15
          have c15b1:decide (x7_3≤(wrap64 (x7_3+1)))=true:=decide_eq_true c15
          by_cases c16:(wrap64 (x7_3+1))≤3
          rw [if_pos c16] at H
          have c16b0:=eq_true c16
          have c16b1:decide ((wrap64 (x7_3+1))≤3)=true:=decide_eq_true c16
          by_cases c17:(rdOf ByteArray.empty x3_1 x6_2).size+((⟨#[97,98,99]⟩:ByteArray).extract (x7_3:Int).toNat ((wrap64 (x7_3+1)):Int).toNat).size≤9223372036854775807
          rw [if_pos c17] at H
          have c17z:=c17
          try simp at c17z
          try replace c17z:=eq_false (Nat.not_lt.2 c17z)
          have c17b0:=eq_true c17
          have c17b1:decide ((rdOf ByteArray.empty x3_1 x6_2).size+((⟨#[97,98,99]⟩:ByteArray).extract (x7_3:Int).toNat ((wrap64 (x7_3+1)):Int).toNat).size≤9223372036854775807)=true:=decide_eq_true c17
          try have c17b2:(9223372036854775807 < (rdOf ByteArray.empty x3_1 x6_2).size+((⟨#[97,98,99]⟩:ByteArray).extract (x7_3:Int).toNat ((wrap64 (x7_3+1)):Int).toNat).size)=False:=eq_false (Nat.not_lt.2 c17)
          by_cases c18:x5_3.length < 8796093022208
          ·rw [if_pos c18] at H
           have LMc18:=zk c18
           clear c18
           obtain ⟨y70012,hy70012⟩:∃ y_:List ByteArray,y_=(x5_3 ++ [(rdOf ByteArray.empty x3_1 x6_2) ++ ((⟨#[97,98,99]⟩:ByteArray).extract (x7_3:Int).toNat ((wrap64 (x7_3+1)):Int).toNat)]):=⟨_,rfl⟩
           replace H:(spec_WordsOfLength.l2 k3 a0 x3_1 x4_1 y70012 x6_2 (wrap64 (x7_3+1)))=some r:=by first|(rw [hy70012];with_reducible exact H)|(have H2_:=(Option.bind_some _ _).symm.trans H;rw [hy70012];with_reducible exact H2_)|(have H2_:=(Option.bind_some _ _).symm.trans H;with_reducible exact H2_)|with_reducible exact H|(rw [hy70012];exact H)|exact H
           have Ny70012:=zk hy70012
           clear hy70012
           have H':=zk H
           clear H
           try go_wp2
           have n0_:=zk (Kd.R_drew HO_3.out)
           have n1_:=zk (Kd.R_drew HO_5.out)
           have n2_:=zk (below_drew1 HB.out)
           clear HO_3
           clear HO_5
           clear HB
           have HO_3:=n0_
           have HO_5:=n1_
           have HB:=n2_
           clear n0_ n1_ n2_
           have p70011:0≤(x6_2:Int):=of_decide_eq_true za9
           have q70011:x6_2 < (x3_1.length:Int):=of_decide_eq_true za9
           obtain ⟨ad70011,e70011,hx70011_0⟩:=Kd.at_string (Kd.R_reads' HO_3.out).2.2 x6_2 p70011 q70011
           cases e70011
           replace p70011:=eq_true p70011
           replace q70011:=eq_true q70011
           refine start_ (n:=13) (S:=fun w'=>w'.cell? (ad70011.add (x6_2).toNat)=some (.string (rdOf ByteArray.empty x3_1 x6_2))) (ds:=[10,11]) #[false,false,false,false,false,false,false,false,false,false,false,false,false] (by kernel_rfl) rfl rfl (hx70011_0) (fun hHeld=>?_);refine with_tabW spec_WordsOfLength.tab14 spec_WordsOfLength.bits14 (fun HT_ HW_=>?_)
           generalize wr.drew=w19 at HO_3 HO_5 HB hx70011_0 hHeld ⊢
           refine pure_ (i:=0) (N:=some 29) (v:=?_) (a':=?_) #[true,false,false,false,false,false,false,false,false,false,false,false,false] rfl rfl (any_of HT_.out (by kernel_rfl)) (fun _ _ _ h=>h) (Or.inl ⟨by rfl,?_⟩) ?_ ?_
           rotate_left
           ·intro w'
            go_simp
            first|with_reducible rfl|(rw [if_neg (by omega)];done)|(rw [if_neg za6];done)
           rotate_left
           ·simp only [Act.put,zt,zu,zv,i64_w,i32_w]
            rfl
           refine pure_ (i:=1) (N:=some 30) (v:=?_) (a':=?_) #[true,true,false,false,false,false,false,false,false,false,false,false,false] rfl rfl (any_of HT_.out (by kernel_rfl)) (fun _ _ _ h=>h) (Or.inl ⟨by rfl,?_⟩) ?_ ?_
           rotate_left
           ·intro w'
            go_simp
            first|with_reducible rfl|(rw [if_neg (by omega)];done)|(rw [if_neg za6];done)
           rotate_left
           ·simp only [Act.put,zt,zu,zv,i64_w,i32_w]
            rfl
           refine pure_ (i:=2) (N:=some 31) (v:=?_) (a':=?_) #[true,true,true,false,false,false,false,false,false,false,false,false,false] rfl rfl (any_of HT_.out (by kernel_rfl)) (fun _ _ _ h=>h) (Or.inl ⟨by rfl,?_⟩) ?_ ?_
           rotate_left
           ·intro w'
            go_simp
            first|with_reducible rfl|(rw [if_neg (by omega)];done)|(rw [if_neg za6];done)
           rotate_left
           ·simp only [Act.put,zt,zu,zv,i64_w,i32_w]
            rfl
           refine pure_ (i:=3) (N:=some 32) (v:=?_) (a':=?_) #[true,true,true,true,false,false,false,false,false,false,false,false,false] rfl rfl (any_of HT_.out (by kernel_rfl)) (fun _ _ _ h=>h) (Or.inl ⟨by rfl,?_⟩) ?_ ?_
           rotate_left
           ·intro w'
            go_simp
            first|with_reducible rfl|(rw [if_neg (by omega)];done)|(rw [if_neg za6];done)
           rotate_left
           ·simp only [Act.put,zt,zu,zv,i64_w,i32_w]
            rfl
           refine pure_ (i:=5) (N:=some 34) (v:=?_) (a':=?_) #[true,true,true,true,false,true,false,false,false,false,false,false,false] rfl rfl (any_of HT_.out (by kernel_rfl)) (fun _ _ _ h=>h) (Or.inl ⟨by rfl,?_⟩) ?_ ?_
           rotate_left
           ·intro w'
            go_simp
            first|with_reducible rfl|(rw [if_neg (by omega)];done)|(rw [if_neg za6];done)
           rotate_left
           ·simp only [Act.put,zt,zu,zv,i64_w,i32_w]
            rfl
           refine pure_ (i:=6) (N:=some 35) (v:=?_) (a':=?_) #[true,true,true,true,false,true,true,false,false,false,false,false,false] rfl rfl (any_of HT_.out (by kernel_rfl)) (fun _ _ _ h=>h) (Or.inl ⟨by rfl,?_⟩) ?_ ?_
           rotate_left
           ·intro w'
            go_simp
            first|with_reducible rfl|(rw [if_neg (by omega)];done)|(rw [if_neg za6];done)
           rotate_left
           ·simp only [Act.put,zt,zu,zv,i64_w,i32_w]
            rfl
           refine pure_ (i:=7) (N:=some 36) (v:=?_) (a':=?_) #[true,true,true,true,false,true,true,true,false,false,false,false,false] rfl rfl (any_of HT_.out (by kernel_rfl)) (fun _ _ _ h=>h) (Or.inl ⟨by rfl,?_⟩) ?_ ?_
           rotate_left
           ·intro w'
            go_simp
            first|with_reducible rfl|(rw [if_neg (by omega)];done)|(rw [if_neg za6];done)
           rotate_left
           ·simp only [Act.put,zt,zu,zv,i64_w,i32_w]
            rfl
           refine pure_ (i:=8) (N:=some 37) (v:=?_) (a':=?_) #[true,true,true,true,false,true,true,true,true,false,false,false,false] rfl rfl (any_of HT_.out (by kernel_rfl)) (fun _ _ _ h=>h) (Or.inl ⟨by rfl,?_⟩) ?_ ?_
           rotate_left
           ·intro w'
            go_simp
            first|with_reducible rfl|(rw [if_neg (by omega)];done)|(rw [if_neg za6];done)
           rotate_left
           ·simp only [Act.put,zt,zu,zv,i64_w,i32_w]
            rfl
           refine take_ (i:=4) (N:=some 33) (v:=?_) (a':=?_) #[true,true,true,true,true,true,true,true,true,false,false,false,false] rfl rfl (take_ofW HT_.out HW_.out (by kernel_rfl)) (fun _ _ _ h=>h) (Or.inl ⟨by rfl,?_⟩) hHeld ?_ ?_
           rotate_left
           ·intro w' s0
            go_simp
            first|with_reducible rfl|(rw [if_neg (by omega)];done)|(rw [if_neg za6];done)
           rotate_left
           ·simp only [Act.put,zt,zu,zv,i64_w,i32_w]
            rfl
           refine pure_ (i:=9) (N:=some 38) (v:=?_) (a':=?_) #[true,true,true,true,true,true,true,true,true,true,false,false,false] rfl rfl (any_of HT_.out (by kernel_rfl)) (fun _ _ _ h=>h) (Or.inl ⟨by rfl,?_⟩) ?_ ?_
           rotate_left
           ·intro w'
            go_simp
            first|with_reducible rfl|(rw [if_neg (by omega)];done)|(rw [if_neg za6];done)
           rotate_left
           ·simp only [Act.put,zt,zu,zv,i64_w,i32_w]
            rfl
           refine last_ (i:=10) (N:=some 39) #[true,true,true,true,true,true,true,true,true,true,true,false,false] rfl rfl (one_of HT_.out (by kernel_rfl)) (by decide) (fun K hK=>?_)
           refine value_ (w1:=?_) (v:=?_) (by rfl) rfl ?_ ?_
           rotate_left 2
           ·go_simp
            constructor
            ·rfl
            ·rfl
           refine hK.out _ _ ?_
           clear hK K
           refine norm_ (a':=?_) ?_ ?_
           rotate_left
           ·show Act.put _ (some 39) _=_
            simp only [Act.put,zt,zu,zv,i64_w,i32_w]
            rfl
           refine last_ (i:=11) (N:=some 40) #[true,true,true,true,true,true,true,true,true,true,true,true,false] rfl rfl (one_of HT_.out (by kernel_rfl)) (by decide) (fun K hK=>?_)
           refine Kd.R_append_step Kd.string (w0:=w) w.heap.size (by rfl) (.tmp 29) (.tmp 39) 53 9 (.string ⟨#[]⟩) 16 rfl Tryz.underlying53 info9 rfl (by decide) (by omega) u5 x5_3 ((rdOf ByteArray.empty x3_1 x6_2) ++ ((⟨#[97,98,99]⟩:ByteArray).extract (x7_3:Int).toNat ((wrap64 (x7_3+1)):Int).toNat)) [.string ((rdOf ByteArray.empty x3_1 x6_2) ++ ((⟨#[97,98,99]⟩:ByteArray).extract (x7_3:Int).toNat ((wrap64 (x7_3+1)):Int).toNat))] (fun k_=>some k_ ≠ (.slice (some ad70011) x3_1.length co10:Value).ownBlock) (fun _=>False) rfl rfl ?aP (fun _ hk=>hk.elim) ?aF ?aO ?aB ?aS ?aL ?_
           (case aP=>exact rfl)
           (case aB=>exact za4)
           (case aF=>exact (fun k_ hk=>Kd.fresh' (Kd.R_lt (za1 HO_3.out)) k_ hk))
           (case aO=>exact (za1 HO_5.out))
           (case aS=>exact (below_size za4))
           (case aL=>have:=LMc18.out;omega)
           intro v70013 w20 ho hb hg hat
           rw [← Ny70012.out] at ho
           have n0_:=zk (Kd.R_after (ok:=(fun _=>True)) (by (with_reducible repeat (first|apply Kd.R_alloc|apply Kd.R_drewN|apply Kd.R_drew));exact Kd.R_mono HO_3.out (fun _ hk=>⟨trivial,hk⟩)) hg hat)
           have n1_:=zk (hb)
           have n2_:=zk (ho)
           clear HO_3
           clear HB
           clear HO_5
           have HO_3:=n0_
           have HB:=n1_
           have HO70014:=n2_
           clear n0_ n1_ n2_
           clear ho hb hg hat
           refine hK.out _ _ ?_
           clear hK K
           refine norm_ (a':=?_) ?_ ?_
           rotate_left
           ·show Act.put _ (some 40) _=_
            simp only [Act.put,zt,zu,zv,i64_w,i32_w]
            rfl
           refine pure_ (i:=12) (N:=some 5) (v:=?_) (a':=?_) #[true,true,true,true,true,true,true,true,true,true,true,true,true] rfl rfl (any_of HT_.out (by kernel_rfl)) (fun _ _ _ h=>h) (Or.inl ⟨by rfl,?_⟩) ?_ ?_
           rotate_left
           ·intro w'
            go_simp
            first|with_reducible rfl|(rw [if_neg (by omega)];done)|(rw [if_neg za6];done)
           rotate_left
           ·simp only [Act.put,zt,zu,zv,i64_w,i32_w]
            rfl
           refine done_ (done_of HT_.out (by kernel_rfl)) ?_
           try go_wp2
           go_roundg k3
           case measure=>have:=HK1.out;have:=HK2.out;have:=HK3.out;omega
           case rel=>exact ⟨(y70012),(wrap64 (x7_3+1)),za8,H',⟨za46⟩,⟨za30⟩,⟨za1 HO70014.out⟩,⟨za4⟩⟩
          ·rw [if_neg c18] at H
           exact absurd H (by simp)
          ·rw [if_neg c17] at H
           exact absurd H (by simp)
          ·rw [if_neg c16] at H
           exact absurd H (by simp)
          ·rw [if_neg c15] at H
           exact absurd H (by simp)
          ·rw [if_neg c14] at H
           exact absurd H (by simp)
          ·rw [if_neg c13] at H
           exact absurd H (by simp)
          ·rw [if_neg c12] at H
           exact absurd H (by simp)
          ·rw [if_neg c11] at H
           have c11b0:decide (x7_3 < 3)=false:=decide_eq_false c11
           clear c11
           have H':=zk H
           clear H
           go_wp2
           go_roundg k3
           case measure=>have:=HK1.out;have:=HK2.out;have:=HK3.out;omega
           case rel=>exact ⟨(x5_3),(wrap64 (x6_2+1)),za8,H',⟨za46⟩,⟨za1 HO_3.out⟩,⟨za1 HO_5.out⟩,⟨za4⟩⟩
       ·rw [if_neg c9] at H
        have c9b0:decide (x6_2 < (x3_1.length:Int))=false:=decide_eq_false c9
        clear c9
        have H':=zk H
        clear H
        obtain ⟨Ao21,co21,eo21⟩:=Kd.R_slice HO_3.out
        subst eo21
        go_wp2
        go_roundg k2
        case measure=>have:=HK1.out;have:=HK2.out;omega
        case rel=>exact ⟨(x5_2),(wrap64 (x4_1+1)),za8,H',⟨by have:=HK1.out;have:=HK2.out;omega⟩,⟨by (with_reducible repeat (first|apply Kd.R_alloc|apply Kd.R_drewN|apply Kd.R_drew));exact Kd.R_mono HO_5.out (fun _ hk=>trivial)⟩,⟨za4⟩⟩
    ·rw [if_neg c6] at H
     have c6b0:decide (x4_1 < a0)=false:=decide_eq_false c6
     clear c6
     obtain rfl:=zi H
     go_wp2
     go_ret
     exact ⟨_,za7,za1 HO_3.out,za4⟩
 ·replace c3:=Bool.eq_false_iff.mpr c3
  subst c3
  have H1:(some (([]:List ByteArray)))=some r:=by rw [if_neg (show ¬ (false=true) by decide)] at H;exact H
  clear H
  have H:=H1
  clear H1
  obtain ⟨y70002,hy70002⟩:∃ y_:List ByteArray,y_=(([]:List ByteArray)):=⟨_,rfl⟩
  replace H:(some y70002)=some r:=by first|(rw [hy70002];with_reducible exact H)|(have H2_:=(Option.bind_some _ _).symm.trans H;rw [hy70002];with_reducible exact H2_)|(have H2_:=(Option.bind_some _ _).symm.trans H;with_reducible exact H2_)|with_reducible exact H|(rw [hy70002];exact H)|exact H
  have Ny70002:=zk hy70002
  clear hy70002
  obtain rfl:=zi H
  go_enter Tryz.func70,Tryz.ntmps70
  go_wp2_with (first|((with_reducible refine gate_callee (f:=101) rfl ?_);refine goesL_ (some 9) rfl rfl Tryz.func101 (by kernel_rfl) rfl #[.int .i64 a0,.int .i64 0,.int .i64 5] rfl za5 ?_;(with_reducible refine (spec_l1In.calls a0 0 5 _ _ A2.out).mono ?_);rintro e w' ⟨rfl,⟨nd,rfl⟩⟩;refine ⟨_,rfl,?_⟩)|((with_reducible refine gate_dst (N:=11) rfl ?_);refine Kd.R_lit Kd.string _ 9 ?hg (N:=11) ?hd (xs:=([]:List ByteArray)) (inner:=[]) (ok:=fun _=>True) (okp:=fun _=>True) ?hr ?hp (fun _ hk=>hk) trivial (Below.refl _ _) (Nat.le_refl _) (by simp) ?_;(case hd=>rfl);(case hg=>rfl);(case hr=>first|(go_simp;done)|(go_simp;rfl));(case hp=>exact (Reps.none _ _));intro v70003 w22 ho23 hb hg_ hnew_;clear hg_ hnew_;(first|rw [← Ny70002.out] at ho23|(simp only [Int.reduceToNat] at ho23;rw [← Ny70002.out] at ho23));have n0_:=zk (Kd.R_lower ho23 (below_size za4));have n1_:=zk (below_step za4 hb);clear HB;have HO70004:=n0_;have HB:=n1_;clear n0_ n1_;clear hb ho23))
  go_ret
  exact ⟨_,za7,za1 HO70004.out,za4⟩
def spec_WordsUpTo.l0:Nat→Int→List ByteArray→Int→Option (List ByteArray)
 | 0,_,_,_=>none
 | k+1,x0,x3,x4=>if x4≤x0 then (if x4≤5 then ((spec_WordsOfLength.f k x4).bind fun t36004=>(if x3.length+t36004.length < 8796093022208 then (spec_WordsUpTo.l0 k x0 (x3 ++ t36004) (wrap64 (x4+1))) else (none))) else (some x3)) else (some x3)
def spec_WordsUpTo.f (k:Nat) (a0:Int):Option (List ByteArray):=spec_WordsUpTo.l0 k a0 (([]:List ByteArray)) 0
theorem spec_WordsUpTo.mono_l:∀ k,(∀ y0 y1 y2,LeO (spec_WordsUpTo.l0 k y0 y1 y2) (spec_WordsUpTo.l0 (k+1) y0 y1 y2))
 | 0=>fun _ _ _ r h=>by simp [spec_WordsUpTo.l0] at h
 | k+1=>by
  have ih0:=spec_WordsUpTo.mono_l k
  ·intro y0 y1 y2
   unfold spec_WordsUpTo.l0
   repeat' first
   | with_reducible first|exact ih0 _ _ _|exact spec_WordsOfLength.mono _ _|exact LeO.refl _|exact LeO.none _|refine LeO.ite ?_ ?_|refine LeO.bind ?_ (fun _=>?_)
theorem spec_WordsUpTo.mono:∀ a0 k,LeO (spec_WordsUpTo.f k a0) (spec_WordsUpTo.f (k+1) a0):=by
 intro a0 k
 have ih0:=spec_WordsUpTo.mono_l k
 unfold spec_WordsUpTo.f
 repeat' first
  | with_reducible first|exact ih0 _ _ _|exact spec_WordsOfLength.mono _ _|exact LeO.refl _|exact LeO.none _|refine LeO.ite ?_ ?_|refine LeO.bind ?_ (fun _=>?_)
theorem spec_WordsUpTo.calls (k:Nat) (a0:Int) (r:List ByteArray) (w:World) (h:spec_WordsUpTo.f k a0=some r) :
   Calls Tryz.prog 36 #[.int .i64 a0] w fun e w'=>∃ v0_:Value,e = .returned (v0_)∧Kd.R Kd.string 9 w' w.heap.size (fun _=>True) v0_ r∧Below w.heap.size w w':=by
 have HB:=zk (Below.refl w.heap.size w)
 have H:(spec_WordsUpTo.l0 k a0 (([]:List ByteArray)) 0)=some r:=h
 clear h
 obtain ⟨y36001,hy36001⟩:∃ y_:List ByteArray,y_=(([]:List ByteArray)):=⟨_,rfl⟩
 replace H:(spec_WordsUpTo.l0 k a0 y36001 0)=some r:=by first|(rw [hy36001];with_reducible exact H)|(have H2_:=(Option.bind_some _ _).symm.trans H;rw [hy36001];with_reducible exact H2_)|(have H2_:=(Option.bind_some _ _).symm.trans H;with_reducible exact H2_)|with_reducible exact H|(rw [hy36001];exact H)|exact H
 have Ny36001:=zk hy36001
 clear hy36001
 have H':=zk H
 clear H
 go_enter Tryz.func36,Tryz.ntmps36
 go_wp2_with (first|((with_reducible refine gate_dst (N:=5) rfl ?_);refine Kd.R_lit Kd.string _ 9 ?hg (N:=5) ?hd (xs:=([]:List ByteArray)) (inner:=[]) (ok:=fun _=>True) (okp:=fun _=>True) ?hr ?hp (fun _ hk=>hk) trivial (Below.refl _ _) (Nat.le_refl _) (by simp) ?_;(case hd=>rfl);(case hg=>rfl);(case hr=>first|(go_simp;done)|(go_simp;rfl));(case hp=>exact (Reps.none _ _));intro v36002 w2 ho3 hb hg_ hnew_;clear hg_ hnew_;(first|rw [← Ny36001.out] at ho3|(simp only [Int.reduceToNat] at ho3;rw [← Ny36001.out] at ho3));have n0_:=zk (Kd.R_lower ho3 (below_size za4));have n1_:=zk (below_step za4 hb);clear HB;have HO36003:=n0_;have HB:=n1_;clear n0_ n1_;clear hb ho3))
 first|go_loopg [3,4] k (fun kq v3 v4 w'=>∃ (x3_1:List ByteArray) (x4_1:Int),v4 = .int .i64 x4_1∧Aside0 (spec_WordsUpTo.l0 kq a0 x3_1 x4_1=some r)∧Aside0 (kq≤k)∧Aside0 (Kd.R Kd.string 9 w' w.heap.size (fun _=>True) v3 x3_1)∧Aside0 (Below w.heap.size w w'))|(simp only [Act.put,zt,zv,zu];go_loopg [3,4] k (fun kq v3 v4 w'=>∃ (x3_1:List ByteArray) (x4_1:Int),v4 = .int .i64 x4_1∧Aside0 (spec_WordsUpTo.l0 kq a0 x3_1 x4_1=some r)∧Aside0 (kq≤k)∧Aside0 (Kd.R Kd.string 9 w' w.heap.size (fun _=>True) v3 x3_1)∧Aside0 (Below w.heap.size w w')))
 case atStart=>exact ⟨(y36001),(0),za8,H',⟨Nat.le_refl _⟩,⟨za1 HO36003.out⟩,⟨za4⟩⟩
 case round =>
  clear H'
  obtain ⟨x3_1,x4_1,rfl,HA,HK1,HO_3,HB⟩:=hrel
  cases gk with
  | zero=>exact absurd HA.out (by simp [spec_WordsUpTo.l0])
  | succ k1 =>
   have H:=HA.out
   clear HA
   simp only [spec_WordsUpTo.l0] at H
   by_cases c4:x4_1≤a0
   rw [if_pos c4] at H
   have c4b0:decide (x4_1≤a0)=true:=decide_eq_true c4
   clear c4
   by_cases c5:x4_1≤5
   rw [if_pos c5] at H
   have c5b0:decide (x4_1≤5)=true:=decide_eq_true c5
   clear c5
   replace H:=zo H
   obtain ⟨t36004,A60,H⟩:=H
   replace H:(if x3_1.length+t36004.length < 8796093022208 then (spec_WordsUpTo.l0 k1 a0 (x3_1 ++ t36004) (wrap64 (x4_1+1))) else (none))=some r:=H
   have A6:=zk A60
   clear A60
   by_cases c7:x3_1.length+t36004.length < 8796093022208
   · rw [if_pos c7] at H
     have LMc7:=zk c7
     clear c7
     obtain ⟨y36007,hy36007⟩:∃ y_:List ByteArray,y_=(x3_1 ++ t36004):=⟨_,rfl⟩
     replace H:(spec_WordsUpTo.l0 k1 a0 y36007 (wrap64 (x4_1+1)))=some r:=by first|(rw [hy36007];with_reducible exact H)|(have H2_:=(Option.bind_some _ _).symm.trans H;rw [hy36007];with_reducible exact H2_)|(have H2_:=(Option.bind_some _ _).symm.trans H;with_reducible exact H2_)|with_reducible exact H|(rw [hy36007];exact H)|exact H
     have Ny36007:=zk hy36007
     clear hy36007
     have H':=zk H
     clear H
     go_wp2_with (first|((with_reducible refine gate_callee (f:=70) rfl ?_);refine goesL_ (some 17) rfl rfl Tryz.func70 (by kernel_rfl) rfl #[.int .i64 x4_1] rfl za5 ?_;(with_reducible refine (spec_WordsOfLength.calls k1 x4_1 t36004 _ A6.out).mono ?_);rintro e w8 ⟨v36005,rfl,ho0,hb⟩;refine ⟨_,rfl,?_⟩;have n0_:=zk (Kd.R_elder' (za1 HO_3.out) (Kd.R_base ho0) hb);have n1_:=zk (Kd.R_lower (Kd.R_new' ho0 (Kd.R_lt (za1 HO_3.out))) (below_size za4));have n2_:=zk (below_step za4 hb);clear HO_3;clear HB;have HO_3:=n0_;have HO36006:=n1_;have HB:=n2_;clear n0_ n1_ n2_;(try clear hb);(try clear hb2);(try clear hk);(try clear hi);(try clear ho0);obtain ⟨Ao10,co10,eo10⟩:=Kd.R_slice HO36006.out;subst eo10)|((with_reducible refine gate_builtin (b:=.append) (xs:=#[.tmp 15,.tmp 17]) rfl ?_);at_builtin;refine Kd.R_append_rows Kd.string (w0:=w) w.heap.size rfl (.tmp 15) (.tmp 17) 53 9 (.string ⟨#[]⟩) 16 rfl Tryz.underlying53 info9 rfl (by decide) (by omega) u3 x3_1 t36004 _ _ _ (fun k_=>some k_ ≠ (.slice Ao10 t36004.length co10:Value).ownBlock) (fun _=>False) rfl rfl ?aO ?aR (fun _ _ h=>h) (fun _ h=>h.elim) ?aF ?aB ?aS ?aL ?_;(case aR=>repeat (first|exact (Kd.R_reads' HO36006.out).2.2|(with_reducible refine Kd.C_alloc ?_ _)|(with_reducible refine Kd.C_drewN ?_ _)|(with_reducible refine Kd.C_drew ?_)));(case aB=>exact za4);(case aF=>exact (fun k_ hk=>Kd.fresh' (Kd.R_lt (za1 HO36006.out)) k_ hk));(case aO=>exact za30);(case aS=>exact (below_size za4));(case aL=>have:=LMc7.out;omega);intro v36008 w9 ho hb hg hat;rw [← Ny36007.out] at ho;have n0_:=zk (Kd.R_after (ok:=(fun _=>True)) (za1 HO36006.out) hg hat);have n1_:=zk (hb);have n2_:=zk (ho);clear HO36006;clear HB;clear HO_3;have HO36006:=n0_;have HB:=n1_;have HO36009:=n2_;clear n0_ n1_ n2_;clear ho hb hg hat))
     go_roundg k1
     case measure=>have:=HK1.out;omega
     case rel=>exact ⟨(y36007),(wrap64 (x4_1+1)),za8,H',⟨za17⟩,⟨by (with_reducible repeat (first|apply Kd.R_alloc|apply Kd.R_drewN|apply Kd.R_drew));exact Kd.R_mono HO36009.out (fun _ hk=>trivial)⟩,⟨za4⟩⟩
   · rw [if_neg c7] at H
     exact absurd H (by simp)
   rw [if_neg c5] at H
   have c5b0:decide (x4_1≤5)=false:=decide_eq_false c5
   clear c5
   rotate_left
   rw [if_neg c4] at H
   have c4b0:decide (x4_1≤a0)=false:=decide_eq_false c4
   clear c4
   rotate_left
   all_goals
    obtain rfl:=zi H
    go_wp2
    go_ret
    exact ⟨_,za7,za1 HO_3.out,za4⟩
def spec_l8Var.f (a0:Int):Option (Bool):=if a0 ≥ 88 then (some (decide (a0≤90))) else (some false)
theorem spec_l8Var.calls (a0:Int) (r:Bool) (w:World) (h:spec_l8Var.f a0=some r) :
   Calls Tryz.prog 127 #[.int .u8 a0] w fun e w'=>e = .returned (.bool r)∧Drawn0 w w':=by
 have H:(if a0 ≥ 88 then (some (decide (a0≤90))) else (some false))=some r:=h
 clear h
 by_cases c2:a0 ≥ 88
 rw [if_pos c2] at H
 have c2b0:decide (88≤a0)=true:=decide_eq_true c2
 rotate_left
 rw [if_neg c2] at H
 have c2b0:decide (88≤a0)=false:=decide_eq_false c2
 rotate_left
 all_goals
  clear c2
  obtain rfl:=zi H
  go_enter Tryz.func127,Tryz.ntmps127
  go_wp2
  go_ret
  exact ⟨za8,za11⟩
def spec_IsTerm.l0:Nat→ByteArray→Int→Option (Bool)
 | 0,_,_=>none
 | k+1,x0,x3=>if x3 < (x0.size:Int) then (if 0≤x3 then ((spec_LetterIndex.f k (bt x0 x3)).bind fun t97001=>(if t97001 < 0 then ((spec_l8Var.f (bt x0 x3)).bind fun t97002=>(if t97002=true then (spec_IsTerm.l0 k x0 (wrap64 (x3+1))) else (some false))) else (spec_IsTerm.l0 k x0 (wrap64 (x3+1))))) else (none)) else (some (decide ((x0.size:Int)≤12)))
def spec_IsTerm.f (k:Nat) (a0:ByteArray):Option (Bool):=spec_IsTerm.l0 k a0 0
theorem spec_IsTerm.mono_l:∀ k,(∀ y0 y1,LeO (spec_IsTerm.l0 k y0 y1) (spec_IsTerm.l0 (k+1) y0 y1))
 | 0=>fun _ _ r h=>by simp [spec_IsTerm.l0] at h
 | k+1=>by
  have ih0:=spec_IsTerm.mono_l k
  ·intro y0 y1
   unfold spec_IsTerm.l0
   repeat' first
   | with_reducible first|exact ih0 _ _|exact spec_LetterIndex.mono _ _|exact LeO.refl _|exact LeO.none _|refine LeO.ite ?_ ?_|refine LeO.bind ?_ (fun _=>?_)
theorem spec_IsTerm.mono:∀ a0 k,LeO (spec_IsTerm.f k a0) (spec_IsTerm.f (k+1) a0):=by
 intro a0 k
 have ih0:=spec_IsTerm.mono_l k
 unfold spec_IsTerm.f
 repeat' first
  | with_reducible first|exact ih0 _ _|exact spec_LetterIndex.mono _ _|exact LeO.refl _|exact LeO.none _|refine LeO.ite ?_ ?_|refine LeO.bind ?_ (fun _=>?_)
theorem spec_IsTerm.calls (k:Nat) (a0:ByteArray) (r:Bool) (w:World) (h:spec_IsTerm.f k a0=some r) :
   Calls Tryz.prog 97 #[.string a0] w fun e w'=>e = .returned (.bool r)∧Drawn0 w w':=by
 have H:(spec_IsTerm.l0 k a0 0)=some r:=h
 clear h
 have H':=zk H
 clear H
 go_enter Tryz.func97,Tryz.ntmps97
 go_wp2
 first|go_loopg [3] k (fun kq v3 w'=>∃ (x3_1:Int),v3 = .int .i64 x3_1∧Aside0 (spec_IsTerm.l0 kq a0 x3_1=some r)∧Aside0 (kq≤k)∧Drawn0 w w')|(simp only [Act.put,zt,zv,zu];go_loopg [3] k (fun kq v3 w'=>∃ (x3_1:Int),v3 = .int .i64 x3_1∧Aside0 (spec_IsTerm.l0 kq a0 x3_1=some r)∧Aside0 (kq≤k)∧Drawn0 w w'))
 case atStart=>exact ⟨(0),za8,H',⟨Nat.le_refl _⟩,za11⟩
 case round =>
  clear H'
  obtain ⟨x3_1,rfl,HA,HK1,⟨m1,rfl⟩⟩:=hrel
  cases gk with
  | zero=>exact absurd HA.out (by simp [spec_IsTerm.l0])
  | succ k1 =>
   have H:=HA.out
   clear HA
   simp only [spec_IsTerm.l0] at H
   by_cases c2:x3_1 < (a0.size:Int)
   rw [if_pos c2] at H
   have c2b0:decide (x3_1 < (a0.size:Int))=true:=decide_eq_true c2
   clear c2
   by_cases c3:0≤x3_1
   rw [if_pos c3] at H
   have c3b0:decide (0≤x3_1)=true:=decide_eq_true c3
   clear c3
   replace H:=zo H
   obtain ⟨t97001,A50,H⟩:=H
   replace H:(if t97001 < 0 then ((spec_l8Var.f (bt a0 x3_1)).bind fun t97002=>(if t97002=true then (spec_IsTerm.l0 k1 a0 (wrap64 (x3_1+1))) else (some false))) else (spec_IsTerm.l0 k1 a0 (wrap64 (x3_1+1))))=some r:=H
   have A5:=zk A50
   clear A50
   by_cases c6:t97001 < 0
   rw [if_pos c6] at H
   have c6b0:decide (t97001 < 0)=true:=decide_eq_true c6
   clear c6
   replace H:=zo H
   obtain ⟨t97002,A80,H⟩:=H
   replace H:(if t97002=true then (spec_IsTerm.l0 k1 a0 (wrap64 (x3_1+1))) else (some false))=some r:=H
   have A8:=zk A80
   clear A80
   by_cases c9:t97002=true
   subst c9
   have H1:(spec_IsTerm.l0 k1 a0 (wrap64 (x3_1+1)))=some r:=by rw [if_pos rfl] at H;exact H
   clear H
   have H:=H1
   clear H1
   have H':=zk H
   clear H
   have fin0_:=zk trivial
   rotate_left
   replace c9:=Bool.eq_false_iff.mpr c9
   subst c9
   have H1:(some false)=some r:=by rw [if_neg (show ¬ (false=true) by decide)] at H;exact H
   clear H
   have H:=H1
   clear H1
   obtain rfl:=zi H
   have fin1_:=zk trivial
   rotate_left
   · rw [if_neg c6] at H
     have c6b0:decide (t97001 < 0)=false:=decide_eq_false c6
     clear c6
     have H':=zk H
     clear H
     have p4:0≤(x3_1:Int):=of_decide_eq_true za9
     have q4:x3_1 < (a0.size:Int):=of_decide_eq_true za9
     have hx4:=bt_at a0 x3_1
     replace p4:=eq_true p4
     replace q4:=eq_true q4
     go_wp2_with (first|((with_reducible refine gate_callee (f:=117) rfl ?_);refine goesL_ (some 13) rfl rfl Tryz.func117 (by kernel_rfl) rfl #[.int .u8 (bt a0 x3_1)] rfl za5 ?_;(with_reducible refine (spec_LetterIndex.calls k1 (bt a0 x3_1) t97001 _ A5.out).mono ?_);rintro e w' ⟨rfl,⟨nd,rfl⟩⟩;refine ⟨_,rfl,?_⟩))
     go_roundg k1
     case measure=>have:=HK1.out;omega
     case rel=>exact ⟨(wrap64 (x3_1+1)),za8,H',⟨za17⟩,za11⟩
   · rw [if_neg c3] at H
     exact absurd H (by simp)
   · rw [if_neg c2] at H
     have c2b0:decide (x3_1 < (a0.size:Int))=false:=decide_eq_false c2
     clear c2
     obtain rfl:=zi H
     go_wp2
     go_ret
     exact ⟨za8,za11⟩
   all_goals
    have p4:0≤(x3_1:Int):=of_decide_eq_true za9
    have q4:x3_1 < (a0.size:Int):=of_decide_eq_true za9
    have hx4:=bt_at a0 x3_1
    replace p4:=eq_true p4
    replace q4:=eq_true q4
    go_wp2_with (first|((with_reducible refine gate_callee (f:=117) rfl ?_);refine goesL_ (some 13) rfl rfl Tryz.func117 (by kernel_rfl) rfl #[.int .u8 (bt a0 x3_1)] rfl za5 ?_;(with_reducible refine (spec_LetterIndex.calls k1 (bt a0 x3_1) t97001 _ A5.out).mono ?_);rintro e w' ⟨rfl,⟨nd,rfl⟩⟩;refine ⟨_,rfl,?_⟩;have p7:0≤(x3_1:Int):=of_decide_eq_true za9;have q7:x3_1 < (a0.size:Int):=of_decide_eq_true za9;have hx7:=bt_at a0 x3_1;replace p7:=eq_true p7;replace q7:=eq_true q7)|(go_at_call 127;(with_reducible refine (spec_l8Var.calls (bt a0 x3_1) _ _ A8.out).mono ?_);rintro e w' ⟨rfl,⟨nd,rfl⟩⟩))
    first
    | (
      clear fin0_
      go_roundg k1
      case measure=>have:=HK1.out;omega
      case rel=>exact ⟨(wrap64 (x3_1+1)),za8,H',⟨za17⟩,za11⟩)
    | (
      clear fin1_
      go_ret
      exact ⟨za8,za11⟩)
def spec_CountByte.l0:Nat→ByteArray→Int→Int→Int→Option (Int)
 | 0,_,_,_,_=>none
 | k+1,x0,x1,x5,x6=>if x6 < (x0.size:Int) then (if 0≤x6 then (if (bt x0 x6)=x1 then (spec_CountByte.l0 k x0 x1 (wrap64 (x5+1)) (wrap64 (x6+1))) else (spec_CountByte.l0 k x0 x1 x5 (wrap64 (x6+1)))) else (none)) else (some x5)
def spec_CountByte.f (k:Nat) (a0:ByteArray) (a1:Int):Option (Int):=spec_CountByte.l0 k a0 a1 0 0
theorem spec_CountByte.mono_l:∀ k,(∀ y0 y1 y2 y3,LeO (spec_CountByte.l0 k y0 y1 y2 y3) (spec_CountByte.l0 (k+1) y0 y1 y2 y3))
 | 0=>fun _ _ _ _ r h=>by simp [spec_CountByte.l0] at h
 | k+1=>by
  have ih0:=spec_CountByte.mono_l k
  ·intro y0 y1 y2 y3
   unfold spec_CountByte.l0
   repeat' first
   | with_reducible first|exact ih0 _ _ _ _|exact LeO.refl _|exact LeO.none _|refine LeO.ite ?_ ?_|refine LeO.bind ?_ (fun _=>?_)
theorem spec_CountByte.mono:∀ a0 a1 k,LeO (spec_CountByte.f k a0 a1) (spec_CountByte.f (k+1) a0 a1):=by
 intro a0 a1 k
 have ih0:=spec_CountByte.mono_l k
 unfold spec_CountByte.f
 repeat' first
  | with_reducible first|exact ih0 _ _ _ _|exact LeO.refl _|exact LeO.none _|refine LeO.ite ?_ ?_|refine LeO.bind ?_ (fun _=>?_)
theorem spec_CountByte.calls (k:Nat) (a0:ByteArray) (a1:Int) (r:Int) (w:World) (h:spec_CountByte.f k a0 a1=some r) :
   Calls Tryz.prog 48 #[.string a0,.int .u8 a1] w fun e w'=>e = .returned (.int .i64 r)∧Drawn0 w w':=by
 have H:(spec_CountByte.l0 k a0 a1 0 0)=some r:=h
 clear h
 have H':=zk H
 clear H
 go_enter Tryz.func48,Tryz.ntmps48
 go_wp2
 first|go_loopg [5,6] k (fun kq v5 v6 w'=>∃ (x5_1:Int) (x6_1:Int),v5 = .int .i64 x5_1∧v6 = .int .i64 x6_1∧Aside0 (spec_CountByte.l0 kq a0 a1 x5_1 x6_1=some r)∧Aside0 (kq≤k)∧Drawn0 w w')|(simp only [Act.put,zt,zv,zu];go_loopg [5,6] k (fun kq v5 v6 w'=>∃ (x5_1:Int) (x6_1:Int),v5 = .int .i64 x5_1∧v6 = .int .i64 x6_1∧Aside0 (spec_CountByte.l0 kq a0 a1 x5_1 x6_1=some r)∧Aside0 (kq≤k)∧Drawn0 w w'))
 case atStart=>exact ⟨(0),(0),za8,za8,H',⟨Nat.le_refl _⟩,za11⟩
 case round =>
  clear H'
  obtain ⟨x5_1,x6_1,rfl,rfl,HA,HK1,⟨m1,rfl⟩⟩:=hrel
  cases gk with
  | zero=>exact absurd HA.out (by simp [spec_CountByte.l0])
  | succ k1 =>
   have H:=HA.out
   clear HA
   simp only [spec_CountByte.l0] at H
   by_cases c3:x6_1 < (a0.size:Int)
   rw [if_pos c3] at H
   have c3b0:decide (x6_1 < (a0.size:Int))=true:=decide_eq_true c3
   clear c3
   by_cases c4:0≤x6_1
   rw [if_pos c4] at H
   have c4b0:decide (0≤x6_1)=true:=decide_eq_true c4
   clear c4
   by_cases c6:(bt a0 x6_1)=a1
   rw [if_pos c6] at H
   have c6b0:((bt a0 x6_1) == a1)=true:=beq_iff_eq.mpr c6
   have c6b1:((bt a0 x6_1) != a1)=false:=bne_eq_false_iff_eq.mpr c6
   clear c6
   have fin0_:=zk trivial
   rotate_left
   rw [if_neg c6] at H
   have c6b0:((bt a0 x6_1) == a1)=false:=beq_eq_false_iff_ne.mpr c6
   have c6b1:((bt a0 x6_1) != a1)=true:=bne_iff_ne.mpr c6
   have fin1_:=zk trivial
   rotate_left
   · rw [if_neg c4] at H
     exact absurd H (by simp)
   · rw [if_neg c3] at H
     have c3b0:decide (x6_1 < (a0.size:Int))=false:=decide_eq_false c3
     clear c3
     obtain rfl:=zi H
     go_wp2
     go_ret
     exact ⟨za8,za11⟩
   all_goals
    have H':=zk H
    clear H
    have p5:0≤(x6_1:Int):=of_decide_eq_true za9
    have q5:x6_1 < (a0.size:Int):=of_decide_eq_true za9
    have hx5:=bt_at a0 x6_1
    replace p5:=eq_true p5
    replace q5:=eq_true q5
    go_wp2
    first
    | (
      clear fin0_
      go_roundg k1
      case measure=>have:=HK1.out;omega
      case rel=>exact ⟨(wrap64 (x5_1+1)),(wrap64 (x6_1+1)),za8,za8,H',⟨za17⟩,za11⟩)
    | (
      clear fin1_
      go_roundg k1
      case measure=>have:=HK1.out;omega
      case rel=>exact ⟨(x5_1),(wrap64 (x6_1+1)),za8,za8,H',⟨za17⟩,za11⟩)
def spec_VarsOf.l0:Nat→ByteArray→ByteArray→Int→Option (ByteArray)
 | 0,_,_,_=>none
 | k+1,x0,x3,x4=>if x4 < 3 then (if 0≤x4 then ((spec_CountByte.f k x0 (bt (⟨#[88,89,90]⟩:ByteArray) x4)).bind fun t73001=>(if t73001 > 0 then (if x4≤(wrap64 (x4+1)) then (if (wrap64 (x4+1))≤3 then (if x3.size+((⟨#[88,89,90]⟩:ByteArray).extract (x4:Int).toNat ((wrap64 (x4+1)):Int).toNat).size≤9223372036854775807 then (spec_VarsOf.l0 k x0 (x3 ++ ((⟨#[88,89,90]⟩:ByteArray).extract (x4:Int).toNat ((wrap64 (x4+1)):Int).toNat)) (wrap64 (x4+1))) else (none)) else (none)) else (none)) else (spec_VarsOf.l0 k x0 x3 (wrap64 (x4+1))))) else (none)) else (some x3)
def spec_VarsOf.f (k:Nat) (a0:ByteArray):Option (ByteArray):=spec_VarsOf.l0 k a0 (⟨#[]⟩:ByteArray) 0
theorem spec_VarsOf.mono_l:∀ k,(∀ y0 y1 y2,LeO (spec_VarsOf.l0 k y0 y1 y2) (spec_VarsOf.l0 (k+1) y0 y1 y2))
 | 0=>fun _ _ _ r h=>by simp [spec_VarsOf.l0] at h
 | k+1=>by
  have ih0:=spec_VarsOf.mono_l k
  ·intro y0 y1 y2
   unfold spec_VarsOf.l0
   repeat' first
   | with_reducible first|exact ih0 _ _ _|exact spec_CountByte.mono _ _ _|exact LeO.refl _|exact LeO.none _|refine LeO.ite ?_ ?_|refine LeO.bind ?_ (fun _=>?_)
theorem spec_VarsOf.mono:∀ a0 k,LeO (spec_VarsOf.f k a0) (spec_VarsOf.f (k+1) a0):=by
 intro a0 k
 have ih0:=spec_VarsOf.mono_l k
 unfold spec_VarsOf.f
 repeat' first
  | with_reducible first|exact ih0 _ _ _|exact spec_CountByte.mono _ _ _|exact LeO.refl _|exact LeO.none _|refine LeO.ite ?_ ?_|refine LeO.bind ?_ (fun _=>?_)
theorem spec_VarsOf.calls (k:Nat) (a0:ByteArray) (r:ByteArray) (w:World) (h:spec_VarsOf.f k a0=some r) :
   Calls Tryz.prog 73 #[.string a0] w fun e w'=>e = .returned (.string r)∧Drawn0 w w':=by
 have H:(spec_VarsOf.l0 k a0 (⟨#[]⟩:ByteArray) 0)=some r:=h
 clear h
 have H':=zk H
 clear H
 go_enter Tryz.func73,Tryz.ntmps73
 go_wp2
 first|go_loopg [3,4] k (fun kq v3 v4 w'=>∃ (x3_1:ByteArray) (x4_1:Int),v3 = .string x3_1∧v4 = .int .i64 x4_1∧Aside0 (spec_VarsOf.l0 kq a0 x3_1 x4_1=some r)∧Aside0 (kq≤k)∧Drawn0 w w')|(simp only [Act.put,zt,zv,zu];go_loopg [3,4] k (fun kq v3 v4 w'=>∃ (x3_1:ByteArray) (x4_1:Int),v3 = .string x3_1∧v4 = .int .i64 x4_1∧Aside0 (spec_VarsOf.l0 kq a0 x3_1 x4_1=some r)∧Aside0 (kq≤k)∧Drawn0 w w'))
 case atStart=>exact ⟨((⟨#[]⟩:ByteArray)),(0),za8,za8,H',⟨Nat.le_refl _⟩,za11⟩
 case round =>
  clear H'
  obtain ⟨x3_1,x4_1,rfl,rfl,HA,HK1,⟨m1,rfl⟩⟩:=hrel
  cases gk with
  | zero=>exact absurd HA.out (by simp [spec_VarsOf.l0])
  | succ k1 =>
   have H:=HA.out
   clear HA
   simp only [spec_VarsOf.l0] at H
   by_cases c2:x4_1 < 3
   rw [if_pos c2] at H
   have c2b0:decide (x4_1 < 3)=true:=decide_eq_true c2
   clear c2
   by_cases c3:0≤x4_1
   rw [if_pos c3] at H
   have c3b0:decide (0≤x4_1)=true:=decide_eq_true c3
   clear c3
   replace H:=zo H
   obtain ⟨t73001,A50,H⟩:=H
   replace H:(if t73001 > 0 then (if x4_1≤(wrap64 (x4_1+1)) then (if (wrap64 (x4_1+1))≤3 then (if x3_1.size+((⟨#[88,89,90]⟩:ByteArray).extract (x4_1:Int).toNat ((wrap64 (x4_1+1)):Int).toNat).size≤9223372036854775807 then (spec_VarsOf.l0 k1 a0 (x3_1 ++ ((⟨#[88,89,90]⟩:ByteArray).extract (x4_1:Int).toNat ((wrap64 (x4_1+1)):Int).toNat)) (wrap64 (x4_1+1))) else (none)) else (none)) else (none)) else (spec_VarsOf.l0 k1 a0 x3_1 (wrap64 (x4_1+1))))=some r:=H
   have A5:=zk A50
   clear A50
   by_cases c6:t73001 > 0
   rw [if_pos c6] at H
   have c6b0:decide (0 < t73001)=true:=decide_eq_true c6
   clear c6
   have c7b0:=eq_true (of_decide_eq_true za9:0≤x4_1)
   by_cases c8:x4_1≤(wrap64 (x4_1+1))
   rw [if_pos c8] at H
   have c8b0:=eq_true c8
   have c8b1:decide (x4_1≤(wrap64 (x4_1+1)))=true:=decide_eq_true c8
   by_cases c9:(wrap64 (x4_1+1))≤3
   rw [if_pos c9] at H
   have c9b0:=eq_true c9
   have c9b1:decide ((wrap64 (x4_1+1))≤3)=true:=decide_eq_true c9
   by_cases c10:x3_1.size+((⟨#[88,89,90]⟩:ByteArray).extract (x4_1:Int).toNat ((wrap64 (x4_1+1)):Int).toNat).size≤9223372036854775807
   rw [if_pos c10] at H
   have c10z:=c10
   try simp at c10z
   try replace c10z:=eq_false (Nat.not_lt.2 c10z)
   have c10b0:=eq_true c10
   have c10b1:decide (x3_1.size+((⟨#[88,89,90]⟩:ByteArray).extract (x4_1:Int).toNat ((wrap64 (x4_1+1)):Int).toNat).size≤9223372036854775807)=true:=decide_eq_true c10
   try have c10b2:(9223372036854775807 < x3_1.size+((⟨#[88,89,90]⟩:ByteArray).extract (x4_1:Int).toNat ((wrap64 (x4_1+1)):Int).toNat).size)=False:=eq_false (Nat.not_lt.2 c10)
   have fin0_:=zk trivial
   rotate_left
   · rw [if_neg c10] at H
     exact absurd H (by simp)
   · rw [if_neg c9] at H
     exact absurd H (by simp)
   · rw [if_neg c8] at H
     exact absurd H (by simp)
   rw [if_neg c6] at H
   have c6b0:decide (0 < t73001)=false:=decide_eq_false c6
   clear c6
   have fin1_:=zk trivial
   rotate_left
   · rw [if_neg c3] at H
     exact absurd H (by simp)
   · rw [if_neg c2] at H
     have c2b0:decide (x4_1 < 3)=false:=decide_eq_false c2
     clear c2
     obtain rfl:=zi H
     go_wp2
     go_ret
     exact ⟨za8,za11⟩
   all_goals
    have H':=zk H
    clear H
    have p4:0≤(x4_1:Int):=of_decide_eq_true za9
    have q4:x4_1 < (3:Int):=of_decide_eq_true za9
    have hx4:=bt_at (⟨#[88,89,90]⟩:ByteArray) x4_1
    replace p4:=eq_true p4
    replace q4:=eq_true q4
    go_wp2_with (((with_reducible refine gate_callee (f:=48) rfl ?_);refine goesL_ (some 12) rfl rfl Tryz.func48 (by kernel_rfl) rfl #[.string a0,.int .u8 (bt (⟨#[88,89,90]⟩:ByteArray) x4_1)] rfl za5 ?_;(with_reducible refine (spec_CountByte.calls k1 a0 (bt (⟨#[88,89,90]⟩:ByteArray) x4_1) t73001 _ A5.out).mono ?_);rintro e w' ⟨rfl,⟨nd,rfl⟩⟩;refine ⟨_,rfl,?_⟩))
    first
    | (
      clear fin0_
      go_roundg k1
      case measure=>have:=HK1.out;omega
      case rel=>exact ⟨(x3_1 ++ ((⟨#[88,89,90]⟩:ByteArray).extract (x4_1:Int).toNat ((wrap64 (x4_1+1)):Int).toNat)),(wrap64 (x4_1+1)),za8,za8,H',⟨za17⟩,za11⟩)
    | (
      clear fin1_
      go_roundg k1
      case measure=>have:=HK1.out;omega
      case rel=>exact ⟨(x3_1),(wrap64 (x4_1+1)),za8,za8,H',⟨za17⟩,za11⟩)
def spec_WithValue.f (a0_0:ByteArray) (a0_1:ByteArray) (a0_2:ByteArray) (a1:Int) (a2:ByteArray):Option (ByteArray × ByteArray × ByteArray):=if a1=88 then (some (a2,a0_1,a0_2)) else (if a1=89 then (some (a0_0,a2,a0_2)) else (if a1=90 then (some (a0_0,a0_1,a2)) else (some (a0_0,a0_1,a0_2))))
theorem spec_WithValue.calls (a0_0:ByteArray) (a0_1:ByteArray) (a0_2:ByteArray) (a1:Int) (a2:ByteArray) (r1:ByteArray) (r2:ByteArray) (r3:ByteArray) (w:World) (h:spec_WithValue.f a0_0 a0_1 a0_2 a1 a2=some (r1,r2,r3)) :
   Calls Tryz.prog 49 #[.agg #[.string a0_0,.string a0_1,.string a0_2],.int .u8 a1,.string a2] w fun e w'=>e = .returned (.agg #[.string r1,.string r2,.string r3])∧Below w.heap.size w w':=by
 have hu32:=Tryz.underlying32
 have HB:=zk (Below.refl w.heap.size w)
 have H:(if a1=88 then (some (a2,a0_1,a0_2)) else (if a1=89 then (some (a0_0,a2,a0_2)) else (if a1=90 then (some (a0_0,a0_1,a2)) else (some (a0_0,a0_1,a0_2)))))=some (r1,r2,r3):=h
 clear h
 by_cases c4:a1=88
 rw [if_pos c4] at H
 have c4b0:(a1 == 88)=true:=beq_iff_eq.mpr c4
 have c4b1:(a1 != 88)=false:=bne_eq_false_iff_eq.mpr c4
 clear c4
 have fin3_:=zk trivial
 rotate_left
 rw [if_neg c4] at H
 have c4b0:(a1 == 88)=false:=beq_eq_false_iff_ne.mpr c4
 have c4b1:(a1 != 88)=true:=bne_iff_ne.mpr c4
 by_cases c10:a1=89
 rw [if_pos c10] at H
 have c10b0:(a1 == 89)=true:=beq_iff_eq.mpr c10
 have c10b1:(a1 != 89)=false:=bne_eq_false_iff_eq.mpr c10
 clear c10
 have fin0_:=zk trivial
 rotate_left
 rw [if_neg c10] at H
 have c10b0:(a1 == 89)=false:=beq_eq_false_iff_ne.mpr c10
 have c10b1:(a1 != 89)=true:=bne_iff_ne.mpr c10
 by_cases c16:a1=90
 rw [if_pos c16] at H
 have c16b0:(a1 == 90)=true:=beq_iff_eq.mpr c16
 have c16b1:(a1 != 90)=false:=bne_eq_false_iff_eq.mpr c16
 clear c16
 have fin1_:=zk trivial
 rotate_left
 rw [if_neg c16] at H
 have c16b0:(a1 == 90)=false:=beq_eq_false_iff_ne.mpr c16
 have c16b1:(a1 != 90)=true:=bne_iff_ne.mpr c16
 have fin2_:=zk trivial
 rotate_left
 all_goals
  simp only [Option.some.injEq,Prod.mk.injEq] at H
  obtain ⟨rfl,rfl,rfl⟩:=H
  go_enter Tryz.func49,Tryz.ntmps49
  go_wp2_with (first|((with_reducible refine gate_dst (N:=3) rfl ?_);refine zE (N:=3) (cs:=#[.string a0_0,.string a0_1,.string a0_2]) (t:=32) ?_;intro gb49001 hg w11 hbox hb;have n0_:=zk (below_step za4 hb);have n1_:=zk (hbox);have n2_:=zk (zs (w:=w) hg za4);have n3_:=zk (zs (w:=w) hg za4);clear HB;have HB:=n0_;have BK49001:=n1_;have GW49001:=n2_;have GE49001:=n3_;clear n0_ n1_ n2_ n3_;clear hb hbox hg)|((with_reducible refine gate_dst (N:=6) rfl ?_);refine zE (N:=6) (cs:=#[.string (⟨#[]⟩:ByteArray),.string (⟨#[]⟩:ByteArray),.string (⟨#[]⟩:ByteArray)]) (t:=32) ?_;intro gb49002 hg w12 hbox hb;have n0_:=zk (zb BK49001.out hb);have n1_:=zk (below_step za4 hb);have n2_:=zk (hbox);have n3_:=zk (zs (w:=w) hg za4);have n4_:=zk (zs (w:=w) hg za4);have n5_:=zk ((by rw [hg];exact Nat.ne_of_lt (zl BK49001.out):gb49001 ≠ gb49002));have n6_:=zk ((by rw [hg];exact Nat.ne_of_gt (zl BK49001.out):gb49002 ≠ gb49001));clear BK49001;clear HB;have BK49001:=n0_;have HB:=n1_;have BK49002:=n2_;have GW49002:=n3_;have GE49002:=n4_;have NB49001_49002:=n5_;have NB49002_49001:=n6_;clear n0_ n1_ n2_ n3_ n4_ n5_ n6_;clear hb hbox hg;have hnb13:=NB49001_49002.out;have hnc13:=NB49002_49001.out;obtain ⟨hcz14_0,hcz14_1,hcz14_2,hfz14_0,hfz14_1,hfz14_2⟩:=blk3 BK49001.out;obtain ⟨hcz15_0,hcz15_1,hcz15_2,hfz15_0,hfz15_1,hfz15_2⟩:=blk3 BK49002.out))
  first
  | (
    clear fin0_
    refine bodyPost_ret (results_cell_row rfl _ _ gb49002 32 #[.string a0_0,.string a2,.string a0_2] (0,0) _ rfl (by (with_reducible repeat (first|refine blk_drewN ?_ _|refine blk_drew ?_|refine blk_alloc ?_ _));refine blk_put (cs:=#[.string a0_0,.string a2,.string (⟨#[]⟩:ByteArray)]) ?_ 2 _ rfl;(with_reducible repeat (first|refine blk_drewN ?_ _|refine blk_drew ?_|refine blk_alloc ?_ _));refine blk_put (cs:=#[.string a0_0,.string (⟨#[]⟩:ByteArray),.string (⟨#[]⟩:ByteArray)]) ?_ 1 _ rfl;(with_reducible repeat (first|refine blk_drewN ?_ _|refine blk_drew ?_|refine blk_alloc ?_ _));refine blk_put (cs:=#[.string (⟨#[]⟩:ByteArray),.string (⟨#[]⟩:ByteArray),.string (⟨#[]⟩:ByteArray)]) ?_ 0 _ rfl;(with_reducible repeat (first|refine blk_drewN ?_ _|refine blk_drew ?_|refine blk_alloc ?_ _));refine blk_far ?_ NB49002_49001.out _;(with_reducible repeat (first|refine blk_drewN ?_ _|refine blk_drew ?_|refine blk_alloc ?_ _));exact BK49002.out) Tryz.underlying32 rfl (by kernel_rfl)) rfl ?_
    exact ⟨za7,za4⟩)
  | (
    clear fin1_
    refine bodyPost_ret (results_cell_row rfl _ _ gb49002 32 #[.string a0_0,.string a0_1,.string a2] (0,0) _ rfl (by (with_reducible repeat (first|refine blk_drewN ?_ _|refine blk_drew ?_|refine blk_alloc ?_ _));refine blk_put (cs:=#[.string a0_0,.string a0_1,.string (⟨#[]⟩:ByteArray)]) ?_ 2 _ rfl;(with_reducible repeat (first|refine blk_drewN ?_ _|refine blk_drew ?_|refine blk_alloc ?_ _));refine blk_put (cs:=#[.string a0_0,.string (⟨#[]⟩:ByteArray),.string (⟨#[]⟩:ByteArray)]) ?_ 1 _ rfl;(with_reducible repeat (first|refine blk_drewN ?_ _|refine blk_drew ?_|refine blk_alloc ?_ _));refine blk_put (cs:=#[.string (⟨#[]⟩:ByteArray),.string (⟨#[]⟩:ByteArray),.string (⟨#[]⟩:ByteArray)]) ?_ 0 _ rfl;(with_reducible repeat (first|refine blk_drewN ?_ _|refine blk_drew ?_|refine blk_alloc ?_ _));refine blk_far ?_ NB49002_49001.out _;(with_reducible repeat (first|refine blk_drewN ?_ _|refine blk_drew ?_|refine blk_alloc ?_ _));exact BK49002.out) Tryz.underlying32 rfl (by kernel_rfl)) rfl ?_
    exact ⟨za7,za4⟩)
  | (
    clear fin2_
    refine bodyPost_ret (results_cell_row rfl _ _ gb49002 32 #[.string a0_0,.string a0_1,.string a0_2] (0,0) _ rfl (za2 BK49002.out) Tryz.underlying32 rfl (by kernel_rfl)) rfl ?_
    exact ⟨za7,za4⟩)
  | (
    clear fin3_
    refine bodyPost_ret (results_cell_row rfl _ _ gb49002 32 #[.string a2,.string a0_1,.string a0_2] (0,0) _ rfl (by (with_reducible repeat (first|refine blk_drewN ?_ _|refine blk_drew ?_|refine blk_alloc ?_ _));refine blk_put (cs:=#[.string a2,.string a0_1,.string (⟨#[]⟩:ByteArray)]) ?_ 2 _ rfl;(with_reducible repeat (first|refine blk_drewN ?_ _|refine blk_drew ?_|refine blk_alloc ?_ _));refine blk_put (cs:=#[.string a2,.string (⟨#[]⟩:ByteArray),.string (⟨#[]⟩:ByteArray)]) ?_ 1 _ rfl;(with_reducible repeat (first|refine blk_drewN ?_ _|refine blk_drew ?_|refine blk_alloc ?_ _));refine blk_put (cs:=#[.string (⟨#[]⟩:ByteArray),.string (⟨#[]⟩:ByteArray),.string (⟨#[]⟩:ByteArray)]) ?_ 0 _ rfl;(with_reducible repeat (first|refine blk_drewN ?_ _|refine blk_drew ?_|refine blk_alloc ?_ _));refine blk_far ?_ NB49002_49001.out _;(with_reducible repeat (first|refine blk_drewN ?_ _|refine blk_drew ?_|refine blk_alloc ?_ _));exact BK49002.out) Tryz.underlying32 rfl (by kernel_rfl)) rfl ?_
    exact ⟨za7,za4⟩)
def spec_ValueOf.f (a0_0:ByteArray) (a0_1:ByteArray) (a0_2:ByteArray) (a1:Int):Option (ByteArray):=if a1=88 then (some a0_0) else (if a1=89 then (some a0_1) else (if a1=90 then (some a0_2) else (some (⟨#[]⟩:ByteArray))))
theorem spec_ValueOf.calls (a0_0:ByteArray) (a0_1:ByteArray) (a0_2:ByteArray) (a1:Int) (r:ByteArray) (w:World) (h:spec_ValueOf.f a0_0 a0_1 a0_2 a1=some r) :
   Calls Tryz.prog 52 #[.agg #[.string a0_0,.string a0_1,.string a0_2],.int .u8 a1] w fun e w'=>e = .returned (.string r)∧Below w.heap.size w w':=by
 have hu32:=Tryz.underlying32
 have HB:=zk (Below.refl w.heap.size w)
 have H:(if a1=88 then (some a0_0) else (if a1=89 then (some a0_1) else (if a1=90 then (some a0_2) else (some (⟨#[]⟩:ByteArray)))))=some r:=h
 clear h
 by_cases c3:a1=88
 rw [if_pos c3] at H
 have c3b0:(a1 == 88)=true:=beq_iff_eq.mpr c3
 have c3b1:(a1 != 88)=false:=bne_eq_false_iff_eq.mpr c3
 clear c3
 rotate_left
 rw [if_neg c3] at H
 have c3b0:(a1 == 88)=false:=beq_eq_false_iff_ne.mpr c3
 have c3b1:(a1 != 88)=true:=bne_iff_ne.mpr c3
 by_cases c6:a1=89
 rw [if_pos c6] at H
 have c6b0:(a1 == 89)=true:=beq_iff_eq.mpr c6
 have c6b1:(a1 != 89)=false:=bne_eq_false_iff_eq.mpr c6
 clear c6
 rotate_left
 rw [if_neg c6] at H
 have c6b0:(a1 == 89)=false:=beq_eq_false_iff_ne.mpr c6
 have c6b1:(a1 != 89)=true:=bne_iff_ne.mpr c6
 by_cases c9:a1=90
 rw [if_pos c9] at H
 have c9b0:(a1 == 90)=true:=beq_iff_eq.mpr c9
 have c9b1:(a1 != 90)=false:=bne_eq_false_iff_eq.mpr c9
 clear c9
 rotate_left
 rw [if_neg c9] at H
 have c9b0:(a1 == 90)=false:=beq_eq_false_iff_ne.mpr c9
 have c9b1:(a1 != 90)=true:=bne_iff_ne.mpr c9
 rotate_left
 all_goals
  obtain rfl:=zi H
  go_enter Tryz.func52,Tryz.ntmps52
  go_wp2_with (((with_reducible refine gate_dst (N:=2) rfl ?_);refine zE (N:=2) (cs:=#[.string a0_0,.string a0_1,.string a0_2]) (t:=32) ?_;intro gb52001 hg w10 hbox hb;have n0_:=zk (below_step za4 hb);have n1_:=zk (hbox);have n2_:=zk (zs (w:=w) hg za4);have n3_:=zk (zs (w:=w) hg za4);clear HB;have HB:=n0_;have BK52001:=n1_;have GW52001:=n2_;have GE52001:=n3_;clear n0_ n1_ n2_ n3_;clear hb hbox hg;obtain ⟨hcz11_0,hcz11_1,hcz11_2,hfz11_0,hfz11_1,hfz11_2⟩:=blk3 BK52001.out))
  go_ret
  exact ⟨za7,za4⟩
def spec_ApplyValues.l0:Nat→ByteArray→ByteArray→Int→ByteArray→ByteArray→ByteArray→Option (ByteArray)
 | 0,_,_,_,_,_,_=>none
 | k+1,x0,x5,x6,x114002000,x114002001,x114002002=>if x6 < (x0.size:Int) then (if 0≤x6 then ((spec_l8Var.f (bt x0 x6)).bind fun t114002=>(if t114002=true then ((spec_ValueOf.f x114002000 x114002001 x114002002 (bt x0 x6)).bind fun t114003=>(if x5.size+t114003.size≤9223372036854775807 then (if ((x5 ++ t114003).size:Int) > 1048576 then (some (⟨#[]⟩:ByteArray)) else (spec_ApplyValues.l0 k x0 (x5 ++ t114003) (wrap64 (x6+1)) x114002000 x114002001 x114002002)) else (none))) else (if x6≤(wrap64 (x6+1)) then (if (wrap64 (x6+1))≤(x0.size:Int) then (if x5.size+(x0.extract (x6:Int).toNat ((wrap64 (x6+1)):Int).toNat).size≤9223372036854775807 then (if ((x5 ++ (x0.extract (x6:Int).toNat ((wrap64 (x6+1)):Int).toNat)).size:Int) > 1048576 then (some (⟨#[]⟩:ByteArray)) else (spec_ApplyValues.l0 k x0 (x5 ++ (x0.extract (x6:Int).toNat ((wrap64 (x6+1)):Int).toNat)) (wrap64 (x6+1)) x114002000 x114002001 x114002002)) else (none)) else (none)) else (none)))) else (none)) else (some x5)
def spec_ApplyValues.f (k:Nat) (a0:ByteArray) (a1_0:ByteArray) (a1_1:ByteArray) (a1_2:ByteArray):Option (ByteArray):=spec_ApplyValues.l0 k a0 (⟨#[]⟩:ByteArray) 0 a1_0 a1_1 a1_2
theorem spec_ApplyValues.mono_l:∀ k,(∀ y0 y1 y2 y3 y4 y5,LeO (spec_ApplyValues.l0 k y0 y1 y2 y3 y4 y5) (spec_ApplyValues.l0 (k+1) y0 y1 y2 y3 y4 y5))
 | 0=>fun _ _ _ _ _ _ r h=>by simp [spec_ApplyValues.l0] at h
 | k+1=>by
  have ih0:=spec_ApplyValues.mono_l k
  ·intro y0 y1 y2 y3 y4 y5
   unfold spec_ApplyValues.l0
   repeat' first
   | with_reducible first|exact ih0 _ _ _ _ _ _|exact LeO.refl _|exact LeO.none _|refine LeO.ite ?_ ?_|refine LeO.bind ?_ (fun _=>?_)
theorem spec_ApplyValues.mono:∀ a0 a1 a2 a3 k,LeO (spec_ApplyValues.f k a0 a1 a2 a3) (spec_ApplyValues.f (k+1) a0 a1 a2 a3):=by
 intro a0 a1 a2 a3 k
 have ih0:=spec_ApplyValues.mono_l k
 unfold spec_ApplyValues.f
 repeat' first
  | with_reducible first|exact ih0 _ _ _ _ _ _|exact LeO.refl _|exact LeO.none _|refine LeO.ite ?_ ?_|refine LeO.bind ?_ (fun _=>?_)
def spec_ApplyValues.T6:Bool × List (List Nat × List Nat):=(true,[([],[]),([],[]),([],[]),([],[]),([2,3],[2,3]),([1,4],[1,4]),([0,5],[0,5]),([6,5,0,1,2,3,4,5,6],[0,6])])
def spec_ApplyValues.B6:List Nat:=[0,0,0,0,12,30,63,127]
theorem spec_ApplyValues.tab6:rtab .any (opsOf Tryz.f114 6)=spec_ApplyValues.T6:=by kernel_rfl
theorem spec_ApplyValues.bits6:waitsOk spec_ApplyValues.T6.2 spec_ApplyValues.B6=true:=by kernel_rfl
theorem spec_ApplyValues.calls (k:Nat) (a0:ByteArray) (a1_0:ByteArray) (a1_1:ByteArray) (a1_2:ByteArray) (r:ByteArray) (w:World) (h:spec_ApplyValues.f k a0 a1_0 a1_1 a1_2=some r) :
   Calls Tryz.prog 114 #[.string a0,.agg #[.string a1_0,.string a1_1,.string a1_2]] w fun e w'=>e = .returned (.string r)∧Below w.heap.size w w':=by
 have hu32:=Tryz.underlying32
 have HB:=zk (Below.refl w.heap.size w)
 have H:(spec_ApplyValues.l0 k a0 (⟨#[]⟩:ByteArray) 0 a1_0 a1_1 a1_2)=some r:=h
 clear h
 have H':=zk H
 clear H
 go_enter Tryz.func114,Tryz.ntmps114
 go_wp2_with (first|((with_reducible refine gate_dst (N:=3) rfl ?_);refine zE (N:=3) (cs:=#[.string a1_0,.string a1_1,.string a1_2]) (t:=32) ?_;intro gb114001 hg w3 hbox hb;have n0_:=zk (below_step za4 hb);have n1_:=zk (hbox);have n2_:=zk (zs (w:=w) hg za4);have n3_:=zk (zs (w:=w) hg za4);clear HB;have HB:=n0_;have BK114001:=n1_;have GW114001:=n2_;have GE114001:=n3_;clear n0_ n1_ n2_ n3_;clear hb hbox hg))
 first|go_loopg [5,6] k (fun kq v5 v6 w'=>∃ (x5_1:ByteArray) (x6_1:Int),v5 = .string x5_1∧v6 = .int .i64 x6_1∧Aside0 (spec_ApplyValues.l0 kq a0 x5_1 x6_1 a1_0 a1_1 a1_2=some r)∧Aside0 (kq≤k)∧Aside0 (w'.heap[gb114001]? = some (.cells #[.string a1_0,.string a1_1,.string a1_2] 32 (0,0)))∧Aside0 (Below w.heap.size w w'))|(simp only [Act.put,zt,zv,zu];go_loopg [5,6] k (fun kq v5 v6 w'=>∃ (x5_1:ByteArray) (x6_1:Int),v5 = .string x5_1∧v6 = .int .i64 x6_1∧Aside0 (spec_ApplyValues.l0 kq a0 x5_1 x6_1 a1_0 a1_1 a1_2=some r)∧Aside0 (kq≤k)∧Aside0 (w'.heap[gb114001]? = some (.cells #[.string a1_0,.string a1_1,.string a1_2] 32 (0,0)))∧Aside0 (Below w.heap.size w w')))
 case atStart=>exact ⟨((⟨#[]⟩:ByteArray)),(0),za8,za8,H',⟨Nat.le_refl _⟩,⟨za0 BK114001.out⟩,⟨za4⟩⟩
 case round =>
  clear H'
  obtain ⟨x5_1,x6_1,rfl,rfl,HA,HK1,BK114001,HB⟩:=hrel
  cases gk with
  | zero=>exact absurd HA.out (by simp [spec_ApplyValues.l0])
  | succ k1 =>
   have H:=HA.out
   clear HA
   simp only [spec_ApplyValues.l0] at H
   by_cases c4:x6_1 < (a0.size:Int)
   rw [if_pos c4] at H
   have c4b0:decide (x6_1 < (a0.size:Int))=true:=decide_eq_true c4
   clear c4
   by_cases c5:0≤x6_1
   rw [if_pos c5] at H
   have c5b0:decide (0≤x6_1)=true:=decide_eq_true c5
   clear c5
   replace H:=zo H
   obtain ⟨t114002,A70,H⟩:=H
   replace H:(if t114002=true then ((spec_ValueOf.f a1_0 a1_1 a1_2 (bt a0 x6_1)).bind fun t114003=>(if x5_1.size+t114003.size≤9223372036854775807 then (if ((x5_1 ++ t114003).size:Int) > 1048576 then (some (⟨#[]⟩:ByteArray)) else (spec_ApplyValues.l0 k1 a0 (x5_1 ++ t114003) (wrap64 (x6_1+1)) a1_0 a1_1 a1_2)) else (none))) else (if x6_1≤(wrap64 (x6_1+1)) then (if (wrap64 (x6_1+1))≤(a0.size:Int) then (if x5_1.size+(a0.extract (x6_1:Int).toNat ((wrap64 (x6_1+1)):Int).toNat).size≤9223372036854775807 then (if ((x5_1 ++ (a0.extract (x6_1:Int).toNat ((wrap64 (x6_1+1)):Int).toNat)).size:Int) > 1048576 then (some (⟨#[]⟩:ByteArray)) else (spec_ApplyValues.l0 k1 a0 (x5_1 ++ (a0.extract (x6_1:Int).toNat ((wrap64 (x6_1+1)):Int).toNat)) (wrap64 (x6_1+1)) a1_0 a1_1 a1_2)) else (none)) else (none)) else (none)))=some r:=H
   have A7:=zk A70
   clear A70
   by_cases c8:t114002=true
   subst c8
   have H1:((spec_ValueOf.f a1_0 a1_1 a1_2 (bt a0 x6_1)).bind fun t114003=>(if x5_1.size+t114003.size≤9223372036854775807 then (if ((x5_1 ++ t114003).size:Int) > 1048576 then (some (⟨#[]⟩:ByteArray)) else (spec_ApplyValues.l0 k1 a0 (x5_1 ++ t114003) (wrap64 (x6_1+1)) a1_0 a1_1 a1_2)) else (none)))=some r:=by rw [if_pos rfl] at H;exact H
   clear H
   have H:=H1
   clear H1
   replace H:=zo H
   obtain ⟨t114003,A100,H⟩:=H
   replace H:(if x5_1.size+t114003.size≤9223372036854775807 then (if ((x5_1 ++ t114003).size:Int) > 1048576 then (some (⟨#[]⟩:ByteArray)) else (spec_ApplyValues.l0 k1 a0 (x5_1 ++ t114003) (wrap64 (x6_1+1)) a1_0 a1_1 a1_2)) else (none))=some r:=H
   have A10:=zk A100
   clear A100
   by_cases c11:x5_1.size+t114003.size≤9223372036854775807
   rw [if_pos c11] at H
   have c11z:=c11
   try simp at c11z
   try replace c11z:=eq_false (Nat.not_lt.2 c11z)
   have c11b0:=eq_true c11
   have c11b1:decide (x5_1.size+t114003.size≤9223372036854775807)=true:=decide_eq_true c11
   try have c11b2:(9223372036854775807 < x5_1.size+t114003.size)=False:=eq_false (Nat.not_lt.2 c11)
   by_cases c12:((x5_1 ++ t114003).size:Int) > 1048576
   rw [if_pos c12] at H
   have c12b0:decide (1048576 < ((x5_1 ++ t114003).size:Int))=true:=decide_eq_true c12
   have c12y:=c12b0
   try simp at c12y
   have c12b1:decide (1048576 < (x5_1 ++ t114003).size)=true:=decide_eq_true (by omega)
   clear c12
   obtain rfl:=zi H
   have tag0_:=zk trivial
   have fin0_:=zk trivial
   rotate_left
   rw [if_neg c12] at H
   have c12b0:decide (1048576 < ((x5_1 ++ t114003).size:Int))=false:=decide_eq_false c12
   have c12y:=c12b0
   try simp at c12y
   have c12b1:decide (1048576 < (x5_1 ++ t114003).size)=false:=decide_eq_false (by omega)
   clear c12
   have H':=zk H
   clear H
   have tag0_:=zk trivial
   have fin1_:=zk trivial
   rotate_left
   · rw [if_neg c11] at H
     exact absurd H (by simp)
   replace c8:=Bool.eq_false_iff.mpr c8
   subst c8
   have H1:(if x6_1≤(wrap64 (x6_1+1)) then (if (wrap64 (x6_1+1))≤(a0.size:Int) then (if x5_1.size+(a0.extract (x6_1:Int).toNat ((wrap64 (x6_1+1)):Int).toNat).size≤9223372036854775807 then (if ((x5_1 ++ (a0.extract (x6_1:Int).toNat ((wrap64 (x6_1+1)):Int).toNat)).size:Int) > 1048576 then (some (⟨#[]⟩:ByteArray)) else (spec_ApplyValues.l0 k1 a0 (x5_1 ++ (a0.extract (x6_1:Int).toNat ((wrap64 (x6_1+1)):Int).toNat)) (wrap64 (x6_1+1)) a1_0 a1_1 a1_2)) else (none)) else (none)) else (none))=some r:=by rw [if_neg (show ¬ (false=true) by decide)] at H;exact H
   clear H
   have H:=H1
   clear H1
   have c17b0:=eq_true (of_decide_eq_true za9:0≤x6_1)
   by_cases c18:x6_1≤(wrap64 (x6_1+1))
   rw [if_pos c18] at H
   have c18b0:=eq_true c18
   have c18b1:decide (x6_1≤(wrap64 (x6_1+1)))=true:=decide_eq_true c18
   by_cases c19:(wrap64 (x6_1+1))≤(a0.size:Int)
   rw [if_pos c19] at H
   have c19b0:=eq_true c19
   have c19b1:decide ((wrap64 (x6_1+1))≤(a0.size:Int))=true:=decide_eq_true c19
   by_cases c20:x5_1.size+(a0.extract (x6_1:Int).toNat ((wrap64 (x6_1+1)):Int).toNat).size≤9223372036854775807
   rw [if_pos c20] at H
   have c20z:=c20
   try simp at c20z
   try replace c20z:=eq_false (Nat.not_lt.2 c20z)
   have c20b0:=eq_true c20
   have c20b1:decide (x5_1.size+(a0.extract (x6_1:Int).toNat ((wrap64 (x6_1+1)):Int).toNat).size≤9223372036854775807)=true:=decide_eq_true c20
   try have c20b2:(9223372036854775807 < x5_1.size+(a0.extract (x6_1:Int).toNat ((wrap64 (x6_1+1)):Int).toNat).size)=False:=eq_false (Nat.not_lt.2 c20)
   by_cases c21:((x5_1 ++ (a0.extract (x6_1:Int).toNat ((wrap64 (x6_1+1)):Int).toNat)).size:Int) > 1048576
   rw [if_pos c21] at H
   have c21b0:decide (1048576 < ((x5_1 ++ (a0.extract (x6_1:Int).toNat ((wrap64 (x6_1+1)):Int).toNat)).size:Int))=true:=decide_eq_true c21
   have c21w:decide (1048576 < ((x5_1 ++ (a0.extract (x6_1:Int).toNat ((IntKind.i64.wrap (x6_1+1)):Int).toNat)).size:Int))=true:=by simp only [i64_w];exact c21b0
   have c21y:=c21b0
   try simp at c21y
   have c21b1:decide (1048576 < (x5_1 ++ (a0.extract (x6_1:Int).toNat ((wrap64 (x6_1+1)):Int).toNat)).size)=true:=decide_eq_true (by omega)
   clear c21
   obtain rfl:=zi H
   have tag1_:=zk trivial
   have fin0_:=zk trivial
   rotate_left
   rw [if_neg c21] at H
   have c21b0:decide (1048576 < ((x5_1 ++ (a0.extract (x6_1:Int).toNat ((wrap64 (x6_1+1)):Int).toNat)).size:Int))=false:=decide_eq_false c21
   have c21w:decide (1048576 < ((x5_1 ++ (a0.extract (x6_1:Int).toNat ((IntKind.i64.wrap (x6_1+1)):Int).toNat)).size:Int))=false:=by simp only [i64_w];exact c21b0
   have c21y:=c21b0
   try simp at c21y
   have c21b1:decide (1048576 < (x5_1 ++ (a0.extract (x6_1:Int).toNat ((wrap64 (x6_1+1)):Int).toNat)).size)=false:=decide_eq_false (by omega)
   clear c21
   have H':=zk H
   clear H
   have tag1_:=zk trivial
   have fin1_:=zk trivial
   rotate_left
   · rw [if_neg c20] at H
     exact absurd H (by simp)
   · rw [if_neg c19] at H
     exact absurd H (by simp)
   · rw [if_neg c18] at H
     exact absurd H (by simp)
   · rw [if_neg c5] at H
     exact absurd H (by simp)
   · rw [if_neg c4] at H
     have c4b0:decide (x6_1 < (a0.size:Int))=false:=decide_eq_false c4
     clear c4
     obtain rfl:=zi H
     go_wp2
     go_ret
     exact ⟨za7,za4⟩
   all_goals first
    | (
      clear tag0_
      have p6:0≤(x6_1:Int):=of_decide_eq_true za9
      have q6:x6_1 < (a0.size:Int):=of_decide_eq_true za9
      have hx6:=bt_at a0 x6_1
      replace p6:=eq_true p6
      replace q6:=eq_true q6
      try go_wp2_with (first|((with_reducible refine gate_callee (f:=127) rfl ?_);refine goesL_ (some 16) rfl rfl Tryz.func127 (by kernel_rfl) rfl #[.int .u8 (bt a0 x6_1)] rfl za5 ?_;(with_reducible refine (spec_l8Var.calls (bt a0 x6_1) _ _ A7.out).mono ?_);rintro e w' ⟨rfl,⟨nd,rfl⟩⟩;refine ⟨_,rfl,?_⟩))
      (try (rw [drewN_self wr];generalize hq_:World.drewN wr _=wr;have n0_:Aside0 (wr.heap[gb114001]? = some (.cells #[.string a1_0,.string a1_1,.string a1_2] 32 (0,0))):=⟨by rw [← hq_];exact (za0 BK114001.out)⟩;have n1_:Aside0 (Below w.heap.size w wr):=⟨by rw [← hq_];exact za4⟩;clear BK114001 HB hq_;have BK114001:=n0_;have HB:=n1_;clear n0_ n1_))
      have n0_:=zk (blk_drew BK114001.out)
      have n1_:=zk (below_drew1 HB.out)
      clear BK114001
      clear HB
      have BK114001:=n0_
      have HB:=n1_
      clear n0_ n1_
      have p9:0≤(x6_1:Int):=of_decide_eq_true za9
      have q9:x6_1 < (a0.size:Int):=of_decide_eq_true za9
      have hx9:=bt_at a0 x6_1
      replace p9:=eq_true p9
      replace q9:=eq_true q9
      refine start_ (n:=8) (S:=fun w'=>w'.cell? ⟨gb114001,0,none⟩=some (.string a1_0)∧w'.cell? ⟨gb114001,1,none⟩=some (.string a1_1)∧w'.cell? ⟨gb114001,2,none⟩=some (.string a1_2)) (ds:=[]) #[false,false,false,false,false,false,false,false] (by kernel_rfl) rfl rfl ⟨(blk_cell BK114001.out 0).trans rfl,(blk_cell BK114001.out 1).trans rfl,(blk_cell BK114001.out 2).trans rfl⟩ (fun hHeld=>?_);refine with_tabW spec_ApplyValues.tab6 spec_ApplyValues.bits6 (fun HT_ HW_=>?_)
      generalize wr.drew=w13 at BK114001 HB hHeld ⊢
      refine pure_ (i:=0) (N:=some 17) (v:=?_) (a':=?_) #[true,false,false,false,false,false,false,false] rfl rfl (any_of HT_.out (by kernel_rfl)) (fun _ _ _ h=>h) (Or.inl ⟨by rfl,?_⟩) ?_ ?_
      rotate_left
      ·intro w'
       go_simp
       first|with_reducible rfl|(rw [if_neg (by omega)];done)|(rw [if_neg za6];done)
      rotate_left
      ·simp only [Act.put,zt,zu,zv,i64_w,i32_w]
       rfl
      refine pure_ (i:=2) (N:=some 19) (v:=?_) (a':=?_) #[true,false,true,false,false,false,false,false] rfl rfl (any_of HT_.out (by kernel_rfl)) (fun _ _ _ h=>h) (Or.inl ⟨by rfl,?_⟩) ?_ ?_
      rotate_left
      ·intro w'
       go_simp
       first|with_reducible rfl|(rw [if_neg (by omega)];done)|(rw [if_neg za6];done)
      rotate_left
      ·simp only [Act.put,zt,zu,zv,i64_w,i32_w]
       rfl
      refine pure_ (i:=3) (N:=some 20) (v:=?_) (a':=?_) #[true,false,true,true,false,false,false,false] rfl rfl (any_of HT_.out (by kernel_rfl)) (fun _ _ _ h=>h) (Or.inl ⟨by rfl,?_⟩) ?_ ?_
      rotate_left
      ·intro w'
       go_simp
       first|with_reducible rfl|(rw [if_neg (by omega)];done)|(rw [if_neg za6];done)
      rotate_left
      ·simp only [Act.put,zt,zu,zv,i64_w,i32_w]
       rfl
      refine take_ (i:=1) (N:=some 18) (v:=?_) (a':=?_) #[true,true,true,true,false,false,false,false] rfl rfl (take_ofW HT_.out HW_.out (by kernel_rfl)) (fun _ _ _ h=>h) (Or.inl ⟨by rfl,?_⟩) hHeld ?_ ?_
      rotate_left
      ·rintro w' ⟨s0,s1,s2⟩
       go_simp
       first|with_reducible rfl|(rw [if_neg (by omega)];done)|(rw [if_neg za6];done)
      rotate_left
      ·simp only [Act.put,zt,zu,zv,i64_w,i32_w]
       rfl
      refine take_ (i:=4) (N:=some 21) (v:=?_) (a':=?_) #[true,true,true,true,true,false,false,false] rfl rfl (take_ofW HT_.out HW_.out (by kernel_rfl)) (fun _ _ _ h=>h) (Or.inl ⟨by rfl,?_⟩) hHeld ?_ ?_
      rotate_left
      ·rintro w' ⟨s0,s1,s2⟩
       go_simp
       first|with_reducible rfl|(rw [if_neg (by omega)];done)|(rw [if_neg za6];done)
      rotate_left
      ·simp only [Act.put,zt,zu,zv,i64_w,i32_w]
       rfl
      refine one_ (i:=5) (N:=some 22) #[true,true,true,true,true,true,false,false] rfl rfl (one_of HT_.out (by kernel_rfl)) (by decide) (fun K hK=>?_)
      refine goes_ Tryz.func52 (by kernel_rfl) rfl #[.agg #[.string a1_0,.string a1_1,.string a1_2],.int .u8 (bt a0 x6_1)] (by rfl) rfl rfl za5 ?_
      with_reducible refine (spec_ValueOf.calls a1_0 a1_1 a1_2 (bt a0 x6_1) t114003 _ A10.out).mono ?_
      rintro e w14 ⟨rfl,hb⟩
      refine ⟨_,rfl,?_⟩
      have n0_:=zk (zb BK114001.out hb)
      have n1_:=zk (below_step za4 hb)
      clear BK114001
      clear HB
      have BK114001:=n0_
      have HB:=n1_
      clear n0_ n1_
      (try clear hb)
      (try clear hb2)
      (try clear hk)
      (try clear hi)
      refine hK.out _ _ ⟨(blk_cell BK114001.out 0).trans rfl,(blk_cell BK114001.out 1).trans rfl,(blk_cell BK114001.out 2).trans rfl⟩ (fun hHeld=>?_)
      clear hK K
      refine norm_ (a':=?_) ?_ ?_
      rotate_left
      ·show Act.put _ (some 22) _=_
       simp only [Act.put,zt,zu,zv,i64_w,i32_w]
       rfl
      refine pure_ (i:=6) (N:=some 23) (v:=?_) (a':=?_) #[true,true,true,true,true,true,true,false] rfl rfl (any_of HT_.out (by kernel_rfl)) (fun _ _ _ h=>h) (Or.inl ⟨by rfl,?_⟩) ?_ ?_
      rotate_left
      ·intro w'
       go_simp
       first|with_reducible rfl|(rw [if_neg (by omega)];done)|(rw [if_neg za6];done)
      rotate_left
      ·simp only [Act.put,zt,zu,zv,i64_w,i32_w]
       rfl
      refine pure_ (i:=7) (N:=some 5) (v:=?_) (a':=?_) #[true,true,true,true,true,true,true,true] rfl rfl (any_of HT_.out (by kernel_rfl)) (fun _ _ _ h=>h) (Or.inl ⟨by rfl,?_⟩) ?_ ?_
      rotate_left
      ·intro w'
       go_simp
       first|with_reducible rfl|(rw [if_neg (by omega)];done)|(rw [if_neg za6];done)
      rotate_left
      ·simp only [Act.put,zt,zu,zv,i64_w,i32_w]
       rfl
      refine done_ (done_of HT_.out (by kernel_rfl)) ?_
      try go_wp2
      first
      | (
        clear fin0_
        go_ret
        exact ⟨za7,za4⟩)
      | (
        clear fin1_
        go_roundg k1
        case measure=>have:=HK1.out;omega
        case rel=>exact ⟨(x5_1 ++ t114003),(wrap64 (x6_1+1)),za8,za8,H',⟨za17⟩,⟨za0 BK114001.out⟩,⟨za4⟩⟩))
    | (
      clear tag1_
      have p6:0≤(x6_1:Int):=of_decide_eq_true za9
      have q6:x6_1 < (a0.size:Int):=of_decide_eq_true za9
      have hx6:=bt_at a0 x6_1
      replace p6:=eq_true p6
      replace q6:=eq_true q6
      go_wp2_with (((with_reducible refine gate_callee (f:=127) rfl ?_);refine goesL_ (some 16) rfl rfl Tryz.func127 (by kernel_rfl) rfl #[.int .u8 (bt a0 x6_1)] rfl za5 ?_;(with_reducible refine (spec_l8Var.calls (bt a0 x6_1) _ _ A7.out).mono ?_);rintro e w' ⟨rfl,⟨nd,rfl⟩⟩;refine ⟨_,rfl,?_⟩))
      first
      | (
        clear fin0_
        go_ret
        exact ⟨za7,za4⟩)
      | (
        clear fin1_
        go_roundg k1
        case measure=>have:=HK1.out;omega
        case rel=>exact ⟨(x5_1 ++ (a0.extract (x6_1:Int).toNat ((wrap64 (x6_1+1)):Int).toNat)),(wrap64 (x6_1+1)),za8,za8,H',⟨za17⟩,⟨za0 BK114001.out⟩,⟨za4⟩⟩))
mutual
def spec_l3Left.l0:Nat→Int→Int→Int→ByteArray→List (S65)→Option (Int)
 | 0,_,_,_,_,_=>none
 | k+1,x1,x5,x128002000,x128002001,x128002002=>if x5 < (x128002002.length:Int) then (if x1 ≥ 0 then (if 0≤x5 then ((spec_l3Left.f k ((rd_T65 x128002002 x5).f0) ((rd_T65 x128002002 x5).f1) ((rd_T65 x128002002 x5).f2) x1).bind fun t128003=>(spec_l3Left.l0 k t128003 (wrap64 (x5+1)) x128002000 x128002001 x128002002)) else (none)) else (some x1)) else (some x1)
def spec_l3Left.f:Nat→Int→ByteArray→List (S65)→Int→Option (Int)
 | 0,_,_,_,_=>none
 | k+1,a0_0,a0_1,l0_2,a1=>spec_l3Left.l0 k (wrap64 (a1 - 1)) 0 a0_0 a0_1 l0_2
end
theorem spec_l3Left.mono_l:∀ k,(∀ y0 y1 y2 y3,LeO (spec_l3Left.f k y0 y1 y2 y3) (spec_l3Left.f (k+1) y0 y1 y2 y3))∧(∀ y0 y1 y2 y3 y4,LeO (spec_l3Left.l0 k y0 y1 y2 y3 y4) (spec_l3Left.l0 (k+1) y0 y1 y2 y3 y4))
 | 0=>⟨fun _ _ _ _ r h=>by simp [spec_l3Left.f] at h,fun _ _ _ _ _ r h=>by simp [spec_l3Left.l0] at h⟩
 | k+1=>by
  obtain ⟨ih0,ih1⟩:=spec_l3Left.mono_l k
  refine ⟨?_,?_⟩
  ·intro y0 y1 y2 y3
   unfold spec_l3Left.f
   repeat' first
   | with_reducible first|exact ih0 _ _ _ _|exact ih1 _ _ _ _ _|exact LeO.refl _|exact LeO.none _|refine LeO.ite ?_ ?_|refine LeO.bind ?_ (fun _=>?_)
  ·intro y0 y1 y2 y3 y4
   unfold spec_l3Left.l0
   repeat' first
   | with_reducible first|exact ih0 _ _ _ _|exact ih1 _ _ _ _ _|exact LeO.refl _|exact LeO.none _|refine LeO.ite ?_ ?_|refine LeO.bind ?_ (fun _=>?_)
theorem spec_l3Left.mono:∀ a0 a1 a2 a3 k,LeO (spec_l3Left.f k a0 a1 a2 a3) (spec_l3Left.f (k+1) a0 a1 a2 a3):=by
 intro a0 a1 a2 a3 k
 obtain ⟨ih0,ih1⟩:=spec_l3Left.mono_l k
 exact ih0 a0 a1 a2 a3
theorem spec_l3Left.calls (k:Nat):∀ (a0_0:Int) (a0_1:ByteArray) (A0_2:Option Addr) (c0_2:Nat) (l0_2:List (S65)) (a1:Int) (r:Int) (w:World) (hr0_2:Kd.C k65 w A0_2 l0_2.length l0_2) (hc0_2:l0_2.length≤c0_2) (h:spec_l3Left.f k a0_0 a0_1 l0_2 a1=some r),
   Calls Tryz.prog 128 #[.agg #[.int .i64 a0_0,.string a0_1,.slice A0_2 l0_2.length c0_2],.int .i64 a1] w fun e w'=>e = .returned (.int .i64 r)∧Below w.heap.size w w':=by
 induction k using Nat.strongRecOn with
 | _ k ih =>
 intro a0_0 a0_1 A0_2 c0_2 l0_2 a1 r w hr0_2 hc0_2 h
 cases k with
 | zero=>exact absurd h (by simp [spec_l3Left.f])
 | succ k =>
 simp only [spec_l3Left.f] at h
 have hu65:=Tryz.underlying65
 have HR0_2:=zk hr0_2
 have HC0_2:=zk hc0_2
 clear hr0_2 hc0_2
 have HB:=zk (Below.refl w.heap.size w)
 have H:(spec_l3Left.l0 k (wrap64 (a1 - 1)) 0 a0_0 a0_1 l0_2)=some r:=h
 clear h
 have H':=zk H
 clear H
 go_enter Tryz.func128,Tryz.ntmps128
 go_wp2_with (first|((with_reducible refine gate_dst (N:=2) rfl ?_);refine zE (N:=2) (cs:=#[.int .i64 a0_0,.string a0_1,.slice A0_2 l0_2.length c0_2]) (t:=65) ?_;intro gb128001 hg w3 hbox hb;have n0_:=zk (below_step za4 hb);have n1_:=zk (hbox);have n2_:=zk (zs (w:=w) hg za4);have n3_:=zk (zs (w:=w) hg za4);clear HB;have HB:=n0_;have BK128001:=n1_;have GW128001:=n2_;have GE128001:=n3_;clear n0_ n1_ n2_ n3_;clear hb hbox hg))
 first|go_loopg [1,5] k (fun kq v1 v5 w'=>∃ (x1_1:Int) (x5_1:Int),v1 = .int .i64 x1_1∧v5 = .int .i64 x5_1∧Aside0 (spec_l3Left.l0 kq x1_1 x5_1 a0_0 a0_1 l0_2=some r)∧Aside0 (kq≤k)∧Aside0 (w'.heap[gb128001]? = some (.cells #[.int .i64 a0_0,.string a0_1,(.slice A0_2 l0_2.length c0_2)] 65 (0,0)))∧Aside0 (Below w.heap.size w w'))|(simp only [Act.put,zt,zv,zu];go_loopg [1,5] k (fun kq v1 v5 w'=>∃ (x1_1:Int) (x5_1:Int),v1 = .int .i64 x1_1∧v5 = .int .i64 x5_1∧Aside0 (spec_l3Left.l0 kq x1_1 x5_1 a0_0 a0_1 l0_2=some r)∧Aside0 (kq≤k)∧Aside0 (w'.heap[gb128001]? = some (.cells #[.int .i64 a0_0,.string a0_1,(.slice A0_2 l0_2.length c0_2)] 65 (0,0)))∧Aside0 (Below w.heap.size w w')))
 case atStart=>exact ⟨(wrap64 (a1 - 1)),(0),za8,za8,H',⟨Nat.le_refl _⟩,⟨za0 BK128001.out⟩,⟨za4⟩⟩
 case round =>
  clear H'
  obtain ⟨x1_1,x5_1,rfl,rfl,HA,HK1,BK128001,HB⟩:=hrel
  cases gk with
  | zero=>exact absurd HA.out (by simp [spec_l3Left.l0])
  | succ k1 =>
   have H:=HA.out
   clear HA
   simp only [spec_l3Left.l0] at H
   by_cases c4:x5_1 < (l0_2.length:Int)
   rw [if_pos c4] at H
   have c4b0:decide (x5_1 < (l0_2.length:Int))=true:=decide_eq_true c4
   clear c4
   by_cases c5:x1_1 ≥ 0
   rw [if_pos c5] at H
   have c5b0:decide (0≤x1_1)=true:=decide_eq_true c5
   clear c5
   by_cases c6:0≤x5_1
   · rw [if_pos c6] at H
     have c6b0:decide (0≤x5_1)=true:=decide_eq_true c6
     clear c6
     replace H:=zo H
     obtain ⟨t128003,A70,H⟩:=H
     replace H:(spec_l3Left.l0 k1 t128003 (wrap64 (x5_1+1)) a0_0 a0_1 l0_2)=some r:=H
     have A7:=zk A70
     clear A70
     have H':=zk H
     clear H
     obtain ⟨hcz8_0,hcz8_1,hcz8_2,hfz8_0,hfz8_1,hfz8_2⟩:=blk3 BK128001.out
     have p128002:0≤(x5_1:Int):=of_decide_eq_true za9
     have q128002:x5_1 < (l0_2.length:Int):=of_decide_eq_true za9
     obtain ⟨ad128002,A128002_2,c128002_2,e128002,hx128002_0,hx128002_1,hx128002_2,hl128002_2,hi128002_2⟩:=at_T65 HR0_2.out x5_1 p128002 q128002
     cases e128002
     replace hx128002_0:=zx HB.out hx128002_0
     replace hx128002_1:=zx HB.out hx128002_1
     replace hx128002_2:=zx HB.out hx128002_2
     have HR128002_2:=zk hi128002_2
     have HC128002_2:=zk hl128002_2
     clear hi128002_2 hl128002_2
     replace p128002:=eq_true p128002
     replace q128002:=eq_true q128002
     go_wp2_with (first|((with_reducible refine gate_callee (f:=128) rfl ?_);refine goesL_ (some 25) rfl rfl Tryz.func128 (by kernel_rfl) rfl #[.agg #[.int .i64 ((rd_T65 l0_2 x5_1).f0),.string ((rd_T65 l0_2 x5_1).f1),.slice A128002_2 ((rd_T65 l0_2 x5_1).f2).length c128002_2],.int .i64 x1_1] rfl za5 ?_;(with_reducible refine (ih k1 za17 ((rd_T65 l0_2 x5_1).f0) ((rd_T65 l0_2 x5_1).f1) _ _ ((rd_T65 l0_2 x5_1).f2) x1_1 t128003 _ ?side1 ?side2 A7.out).mono ?_);(case side1=>repeat (first|exact (Kd.C_below HR128002_2.out HB.out)|(with_reducible refine Kd.C_alloc ?_ _)|(with_reducible refine Kd.C_drewN ?_ _)|(with_reducible refine Kd.C_drew ?_)));(case side2=>exact HC128002_2.out);rintro e w9 ⟨rfl,hb⟩;refine ⟨_,rfl,?_⟩;have n0_:=zk (zb BK128001.out hb);have n1_:=zk (below_step za4 hb);clear BK128001;clear HB;have BK128001:=n0_;have HB:=n1_;clear n0_ n1_;(try clear hb);(try clear hb2);(try clear hk);(try clear hi)))
     go_roundg k1
     case measure=>have:=HK1.out;omega
     case rel=>exact ⟨(t128003),(wrap64 (x5_1+1)),za8,za8,H',⟨za17⟩,⟨za0 BK128001.out⟩,⟨za4⟩⟩
   · rw [if_neg c6] at H
     exact absurd H (by simp)
   rw [if_neg c5] at H
   have c5b0:decide (0≤x1_1)=false:=decide_eq_false c5
   clear c5
   rotate_left
   rw [if_neg c4] at H
   have c4b0:decide (x5_1 < (l0_2.length:Int))=false:=decide_eq_false c4
   clear c4
   rotate_left
   all_goals
    obtain rfl:=zi H
    obtain ⟨hcz10_0,hcz10_1,hcz10_2,hfz10_0,hfz10_1,hfz10_2⟩:=blk3 BK128001.out
    go_wp2
    go_ret
    exact ⟨za7,za4⟩
mutual
def spec_l3Depth.l0:Nat→Int→Int→Int→ByteArray→List (S65)→Option (Int)
 | 0,_,_,_,_,_=>none
 | k+1,x3,x4,x129002000,x129002001,x129002002=>if x4 < (x129002002.length:Int) then (if 0≤x4 then ((spec_l3Depth.f k ((rd_T65 x129002002 x4).f0) ((rd_T65 x129002002 x4).f1) ((rd_T65 x129002002 x4).f2)).bind fun t129003=>((spec_l1Max.f x3 t129003).bind fun t129004=>(spec_l3Depth.l0 k t129004 (wrap64 (x4+1)) x129002000 x129002001 x129002002))) else (none)) else (some (wrap64 (x3+1)))
def spec_l3Depth.f:Nat→Int→ByteArray→List (S65)→Option (Int)
 | 0,_,_,_=>none
 | k+1,a0_0,a0_1,l0_2=>spec_l3Depth.l0 k 0 0 a0_0 a0_1 l0_2
end
theorem spec_l3Depth.mono_l:∀ k,(∀ y0 y1 y2,LeO (spec_l3Depth.f k y0 y1 y2) (spec_l3Depth.f (k+1) y0 y1 y2))∧(∀ y0 y1 y2 y3 y4,LeO (spec_l3Depth.l0 k y0 y1 y2 y3 y4) (spec_l3Depth.l0 (k+1) y0 y1 y2 y3 y4))
 | 0=>⟨fun _ _ _ r h=>by simp [spec_l3Depth.f] at h,fun _ _ _ _ _ r h=>by simp [spec_l3Depth.l0] at h⟩
 | k+1=>by
  obtain ⟨ih0,ih1⟩:=spec_l3Depth.mono_l k
  refine ⟨?_,?_⟩
  ·intro y0 y1 y2
   unfold spec_l3Depth.f
   repeat' first
   | with_reducible first|exact ih0 _ _ _|exact ih1 _ _ _ _ _|exact LeO.refl _|exact LeO.none _|refine LeO.ite ?_ ?_|refine LeO.bind ?_ (fun _=>?_)
  ·intro y0 y1 y2 y3 y4
   unfold spec_l3Depth.l0
   repeat' first
   | with_reducible first|exact ih0 _ _ _|exact ih1 _ _ _ _ _|exact LeO.refl _|exact LeO.none _|refine LeO.ite ?_ ?_|refine LeO.bind ?_ (fun _=>?_)
theorem spec_l3Depth.mono:∀ a0 a1 a2 k,LeO (spec_l3Depth.f k a0 a1 a2) (spec_l3Depth.f (k+1) a0 a1 a2):=by
 intro a0 a1 a2 k
 obtain ⟨ih0,ih1⟩:=spec_l3Depth.mono_l k
 exact ih0 a0 a1 a2
theorem spec_l3Depth.calls (k:Nat):∀ (a0_0:Int) (a0_1:ByteArray) (A0_2:Option Addr) (c0_2:Nat) (l0_2:List (S65)) (r:Int) (w:World) (hr0_2:Kd.C k65 w A0_2 l0_2.length l0_2) (hc0_2:l0_2.length≤c0_2) (h:spec_l3Depth.f k a0_0 a0_1 l0_2=some r),
   Calls Tryz.prog 129 #[.agg #[.int .i64 a0_0,.string a0_1,.slice A0_2 l0_2.length c0_2]] w fun e w'=>e = .returned (.int .i64 r)∧Below w.heap.size w w':=by
 induction k using Nat.strongRecOn with
 | _ k ih =>
 intro a0_0 a0_1 A0_2 c0_2 l0_2 r w hr0_2 hc0_2 h
 cases k with
 | zero=>exact absurd h (by simp [spec_l3Depth.f])
 | succ k =>
 simp only [spec_l3Depth.f] at h
 have hu65:=Tryz.underlying65
 have HR0_2:=zk hr0_2
 have HC0_2:=zk hc0_2
 clear hr0_2 hc0_2
 have HB:=zk (Below.refl w.heap.size w)
 have H:(spec_l3Depth.l0 k 0 0 a0_0 a0_1 l0_2)=some r:=h
 clear h
 have H':=zk H
 clear H
 go_enter Tryz.func129,Tryz.ntmps129
 go_wp2_with (first|((with_reducible refine gate_dst (N:=1) rfl ?_);refine zE (N:=1) (cs:=#[.int .i64 a0_0,.string a0_1,.slice A0_2 l0_2.length c0_2]) (t:=65) ?_;intro gb129001 hg w2 hbox hb;have n0_:=zk (below_step za4 hb);have n1_:=zk (hbox);have n2_:=zk (zs (w:=w) hg za4);have n3_:=zk (zs (w:=w) hg za4);clear HB;have HB:=n0_;have BK129001:=n1_;have GW129001:=n2_;have GE129001:=n3_;clear n0_ n1_ n2_ n3_;clear hb hbox hg))
 first|go_loopg [3,4] k (fun kq v3 v4 w'=>∃ (x3_1:Int) (x4_1:Int),v3 = .int .i64 x3_1∧v4 = .int .i64 x4_1∧Aside0 (spec_l3Depth.l0 kq x3_1 x4_1 a0_0 a0_1 l0_2=some r)∧Aside0 (kq≤k)∧Aside0 (w'.heap[gb129001]? = some (.cells #[.int .i64 a0_0,.string a0_1,(.slice A0_2 l0_2.length c0_2)] 65 (0,0)))∧Aside0 (Below w.heap.size w w'))|(simp only [Act.put,zt,zv,zu];go_loopg [3,4] k (fun kq v3 v4 w'=>∃ (x3_1:Int) (x4_1:Int),v3 = .int .i64 x3_1∧v4 = .int .i64 x4_1∧Aside0 (spec_l3Depth.l0 kq x3_1 x4_1 a0_0 a0_1 l0_2=some r)∧Aside0 (kq≤k)∧Aside0 (w'.heap[gb129001]? = some (.cells #[.int .i64 a0_0,.string a0_1,(.slice A0_2 l0_2.length c0_2)] 65 (0,0)))∧Aside0 (Below w.heap.size w w')))
 case atStart=>exact ⟨(0),(0),za8,za8,H',⟨Nat.le_refl _⟩,⟨za0 BK129001.out⟩,⟨za4⟩⟩
 case round =>
  clear H'
  obtain ⟨x3_1,x4_1,rfl,rfl,HA,HK1,BK129001,HB⟩:=hrel
  cases gk with
  | zero=>exact absurd HA.out (by simp [spec_l3Depth.l0])
  | succ k1 =>
   have H:=HA.out
   clear HA
   simp only [spec_l3Depth.l0] at H
   by_cases c3:x4_1 < (l0_2.length:Int)
   rw [if_pos c3] at H
   have c3b0:decide (x4_1 < (l0_2.length:Int))=true:=decide_eq_true c3
   clear c3
   by_cases c4:0≤x4_1
   ·rw [if_pos c4] at H
    have c4b0:decide (0≤x4_1)=true:=decide_eq_true c4
    clear c4
    replace H:=zo H
    obtain ⟨t129003,A50,H⟩:=H
    replace H:((spec_l1Max.f x3_1 t129003).bind fun t129004=>(spec_l3Depth.l0 k1 t129004 (wrap64 (x4_1+1)) a0_0 a0_1 l0_2))=some r:=H
    have A5:=zk A50
    clear A50
    replace H:=zo H
    obtain ⟨t129004,A60,H⟩:=H
    replace H:(spec_l3Depth.l0 k1 t129004 (wrap64 (x4_1+1)) a0_0 a0_1 l0_2)=some r:=H
    have A6:=zk A60
    clear A60
    have H':=zk H
    clear H
    obtain ⟨hcz7_0,hcz7_1,hcz7_2,hfz7_0,hfz7_1,hfz7_2⟩:=blk3 BK129001.out
    have p129002:0≤(x4_1:Int):=of_decide_eq_true za9
    have q129002:x4_1 < (l0_2.length:Int):=of_decide_eq_true za9
    obtain ⟨ad129002,A129002_2,c129002_2,e129002,hx129002_0,hx129002_1,hx129002_2,hl129002_2,hi129002_2⟩:=at_T65 HR0_2.out x4_1 p129002 q129002
    cases e129002
    replace hx129002_0:=zx HB.out hx129002_0
    replace hx129002_1:=zx HB.out hx129002_1
    replace hx129002_2:=zx HB.out hx129002_2
    have HR129002_2:=zk hi129002_2
    have HC129002_2:=zk hl129002_2
    clear hi129002_2 hl129002_2
    replace p129002:=eq_true p129002
    replace q129002:=eq_true q129002
    go_wp2_with (first|((with_reducible refine gate_callee (f:=129) rfl ?_);refine goesL_ (some 18) rfl rfl Tryz.func129 (by kernel_rfl) rfl #[.agg #[.int .i64 ((rd_T65 l0_2 x4_1).f0),.string ((rd_T65 l0_2 x4_1).f1),.slice A129002_2 ((rd_T65 l0_2 x4_1).f2).length c129002_2]] rfl za5 ?_;(with_reducible refine (ih k1 za17 ((rd_T65 l0_2 x4_1).f0) ((rd_T65 l0_2 x4_1).f1) _ _ ((rd_T65 l0_2 x4_1).f2) t129003 _ ?side1 ?side2 A5.out).mono ?_);(case side1=>repeat (first|exact (Kd.C_below HR129002_2.out HB.out)|(with_reducible refine Kd.C_alloc ?_ _)|(with_reducible refine Kd.C_drewN ?_ _)|(with_reducible refine Kd.C_drew ?_)));(case side2=>exact HC129002_2.out);rintro e w8 ⟨rfl,hb⟩;refine ⟨_,rfl,?_⟩;have n0_:=zk (zb BK129001.out hb);have n1_:=zk (below_step za4 hb);clear BK129001;clear HB;have BK129001:=n0_;have HB:=n1_;clear n0_ n1_;(try clear hb);(try clear hb2);(try clear hk);(try clear hi))|((with_reducible refine gate_callee (f:=139) rfl ?_);refine goesL_ (some 19) rfl rfl Tryz.func139 (by kernel_rfl) rfl #[.int .i64 x3_1,.int .i64 t129003] rfl za5 ?_;(with_reducible refine (spec_l1Max.calls x3_1 t129003 t129004 _ A6.out).mono ?_);rintro e w' ⟨rfl,⟨nd,rfl⟩⟩;refine ⟨_,rfl,?_⟩))
    go_roundg k1
    case measure=>have:=HK1.out;omega
    case rel=>exact ⟨(t129004),(wrap64 (x4_1+1)),za8,za8,H',⟨za17⟩,⟨za0 BK129001.out⟩,⟨za4⟩⟩
   ·rw [if_neg c4] at H
    exact absurd H (by simp)
   ·rw [if_neg c3] at H
    have c3b0:decide (x4_1 < (l0_2.length:Int))=false:=decide_eq_false c3
    clear c3
    obtain rfl:=zi H
    obtain ⟨hcz9_0,hcz9_1,hcz9_2,hfz9_0,hfz9_1,hfz9_2⟩:=blk3 BK129001.out
    go_wp2
    go_ret
    exact ⟨za7,za4⟩
def spec_l3Args.j0:Nat→Int→Bool→Option (Int)
 | 0,_,_=>none
 | k+1,x3,x4=>if x4=true then (some 2) else (if x3=8 then (some 1) else (if x3=9 then (some 1) else (some 0)))
def spec_l3Args.f (k:Nat) (a0:Int):Option (Int):=if a0=5 then (spec_l3Args.j0 k a0 (a0 == 5)) else (if a0=6 then (spec_l3Args.j0 k a0 (a0 == 6)) else (spec_l3Args.j0 k a0 (a0 == 7)))
theorem spec_l3Args.mono_l:∀ k,(∀ y0 y1,LeO (spec_l3Args.j0 k y0 y1) (spec_l3Args.j0 (k+1) y0 y1))
 | 0=>fun _ _ r h=>by simp [spec_l3Args.j0] at h
 | k+1=>by
  have ih0:=spec_l3Args.mono_l k
  ·intro y0 y1
   unfold spec_l3Args.j0
   repeat' first
   | with_reducible first|exact ih0 _ _|exact LeO.refl _|exact LeO.none _|refine LeO.ite ?_ ?_|refine LeO.bind ?_ (fun _=>?_)
theorem spec_l3Args.mono:∀ a0 k,LeO (spec_l3Args.f k a0) (spec_l3Args.f (k+1) a0):=by
 intro a0 k
 have ih0:=spec_l3Args.mono_l k
 unfold spec_l3Args.f
 repeat' first
  | with_reducible first|exact ih0 _ _|exact LeO.refl _|exact LeO.none _|refine LeO.ite ?_ ?_|refine LeO.bind ?_ (fun _=>?_)
theorem spec_l3Args.calls (k:Nat) (a0:Int) (r:Int) (w:World) (h:spec_l3Args.f k a0=some r) :
   Calls Tryz.prog 140 #[.int .i64 a0] w fun e w'=>e = .returned (.int .i64 r)∧Drawn0 w w':=by
 have H:(if a0=5 then (spec_l3Args.j0 k a0 (a0 == 5)) else (if a0=6 then (spec_l3Args.j0 k a0 (a0 == 6)) else (spec_l3Args.j0 k a0 (a0 == 7))))=some r:=h
 clear h
 have HC2:=zk H
 clear H
 go_enter Tryz.func140,Tryz.ntmps140
 go_upto_if 4 with (fail)
 go_cut [4] (fun v4 wc=>∃ (kq:Nat) (x4_1:Bool),v4 = .bool x4_1∧Aside0 (spec_l3Args.j0 kq a0 x4_1=some r)∧Aside0 (kq≤k)∧Drawn0 w wc)
 case first =>
  have H:=HC2.out
  clear HC2
  by_cases c3:a0=5
  · rw [if_pos c3] at H
    have c3b0:(a0 == 5)=true:=beq_iff_eq.mpr c3
    have c3b1:(a0 != 5)=false:=bne_eq_false_iff_eq.mpr c3
    clear c3
    (first|rw [c3b0]|(simp only [i64_w,i32_w];rw [c3b0])|skip)
    have H':=zk H
    clear H
    go_wp2
    go_meet
    case rel=>exact ⟨_,((a0 == 5)),za8,H',⟨za26⟩,za11⟩
  rw [if_neg c3] at H
  have c3b0:(a0 == 5)=false:=beq_eq_false_iff_ne.mpr c3
  have c3b1:(a0 != 5)=true:=bne_iff_ne.mpr c3
  (first|rw [c3b0]|(simp only [i64_w,i32_w];rw [c3b0])|skip)
  by_cases c4:a0=6
  · rw [if_pos c4] at H
    have c4b0:(a0 == 6)=true:=beq_iff_eq.mpr c4
    have c4b1:(a0 != 6)=false:=bne_eq_false_iff_eq.mpr c4
    clear c4
    have H':=zk H
    clear H
    go_wp2
    go_meet
    case rel=>exact ⟨_,((a0 == 6)),za8,H',⟨za26⟩,za11⟩
  · rw [if_neg c4] at H
    have c4b0:(a0 == 6)=false:=beq_eq_false_iff_ne.mpr c4
    have c4b1:(a0 != 6)=true:=bne_iff_ne.mpr c4
    have H':=zk H
    clear H
    go_wp2
    go_meet
    case rel=>exact ⟨_,((a0 == 7)),za8,H',⟨za26⟩,za11⟩
 case rest =>
  clear HC2
  obtain ⟨kq,x4_1,rfl,HA,HJ1,⟨mc1,rfl⟩⟩:=hcut
  cases kq with
  | zero=>exact absurd HA.out (by simp [spec_l3Args.j0])
  | succ kj1 =>
   have H:=HA.out
   clear HA
   simp only [spec_l3Args.j0] at H
   by_cases c5:x4_1=true
   subst c5
   have H1:(some 2)=some r:=by rw [if_pos rfl] at H;exact H
   clear H
   have H:=H1
   clear H1
   rotate_left
   replace c5:=Bool.eq_false_iff.mpr c5
   subst c5
   have H1:(if a0=8 then (some 1) else (if a0=9 then (some 1) else (some 0)))=some r:=by rw [if_neg (show ¬ (false=true) by decide)] at H;exact H
   clear H
   have H:=H1
   clear H1
   by_cases c6:a0=8
   rw [if_pos c6] at H
   have c6b0:(a0 == 8)=true:=beq_iff_eq.mpr c6
   have c6b1:(a0 != 8)=false:=bne_eq_false_iff_eq.mpr c6
   clear c6
   rotate_left
   rw [if_neg c6] at H
   have c6b0:(a0 == 8)=false:=beq_eq_false_iff_ne.mpr c6
   have c6b1:(a0 != 8)=true:=bne_iff_ne.mpr c6
   by_cases c7:a0=9
   rw [if_pos c7] at H
   have c7b0:(a0 == 9)=true:=beq_iff_eq.mpr c7
   have c7b1:(a0 != 9)=false:=bne_eq_false_iff_eq.mpr c7
   clear c7
   rotate_left
   rw [if_neg c7] at H
   have c7b0:(a0 == 9)=false:=beq_eq_false_iff_ne.mpr c7
   have c7b1:(a0 != 9)=true:=bne_iff_ne.mpr c7
   rotate_left
   all_goals
    obtain rfl:=zi H
    go_wp2
    go_ret
    exact ⟨za8,za11⟩
mutual
def spec_l3All.l0:Nat→Int→Int→ByteArray→List (S65)→Option (Bool)
 | 0,_,_,_,_=>none
 | k+1,x3,x130002000,x130002001,x130002002=>if x3 < (x130002002.length:Int) then (if 0≤x3 then ((spec_l3All.f k ((rd_T65 x130002002 x3).f0) ((rd_T65 x130002002 x3).f1) ((rd_T65 x130002002 x3).f2)).bind fun t130003=>(if t130003=true then (spec_l3All.l0 k (wrap64 (x3+1)) x130002000 x130002001 x130002002) else (some false))) else (none)) else (if x130002000=3 then (if (x130002001.size:Int)=1 then ((spec_IsWord.f k x130002001).bind fun t130004=>(if t130004=true then (some ((x130002002.length:Int) == 0)) else (some false))) else (some false)) else ((spec_l1In.f x130002000 1 9).bind fun t130005=>(if t130005=true then (if x130002001.toList=([]:List UInt8) then ((spec_l3Args.f k x130002000).bind fun t130006=>(some ((x130002002.length:Int) == t130006))) else (some false)) else (some false))))
def spec_l3All.f:Nat→Int→ByteArray→List (S65)→Option (Bool)
 | 0,_,_,_=>none
 | k+1,a0_0,a0_1,l0_2=>spec_l3All.l0 k 0 a0_0 a0_1 l0_2
end
theorem spec_l3All.mono_l:∀ k,(∀ y0 y1 y2,LeO (spec_l3All.f k y0 y1 y2) (spec_l3All.f (k+1) y0 y1 y2))∧(∀ y0 y1 y2 y3,LeO (spec_l3All.l0 k y0 y1 y2 y3) (spec_l3All.l0 (k+1) y0 y1 y2 y3))
 | 0=>⟨fun _ _ _ r h=>by simp [spec_l3All.f] at h,fun _ _ _ _ r h=>by simp [spec_l3All.l0] at h⟩
 | k+1=>by
  obtain ⟨ih0,ih1⟩:=spec_l3All.mono_l k
  refine ⟨?_,?_⟩
  ·intro y0 y1 y2
   unfold spec_l3All.f
   repeat' first
   | with_reducible first|exact ih0 _ _ _|exact ih1 _ _ _ _|exact spec_IsWord.mono _ _|exact spec_l3Args.mono _ _|exact LeO.refl _|exact LeO.none _|refine LeO.ite ?_ ?_|refine LeO.bind ?_ (fun _=>?_)
  ·intro y0 y1 y2 y3
   unfold spec_l3All.l0
   repeat' first
   | with_reducible first|exact ih0 _ _ _|exact ih1 _ _ _ _|exact spec_IsWord.mono _ _|exact spec_l3Args.mono _ _|exact LeO.refl _|exact LeO.none _|refine LeO.ite ?_ ?_|refine LeO.bind ?_ (fun _=>?_)
theorem spec_l3All.mono:∀ a0 a1 a2 k,LeO (spec_l3All.f k a0 a1 a2) (spec_l3All.f (k+1) a0 a1 a2):=by
 intro a0 a1 a2 k
 obtain ⟨ih0,ih1⟩:=spec_l3All.mono_l k
 exact ih0 a0 a1 a2
theorem spec_l3All.calls (k:Nat):∀ (a0_0:Int) (a0_1:ByteArray) (A0_2:Option Addr) (c0_2:Nat) (l0_2:List (S65)) (r:Bool) (w:World) (hr0_2:Kd.C k65 w A0_2 l0_2.length l0_2) (hc0_2:l0_2.length≤c0_2) (h:spec_l3All.f k a0_0 a0_1 l0_2=some r),
   Calls Tryz.prog 130 #[.agg #[.int .i64 a0_0,.string a0_1,.slice A0_2 l0_2.length c0_2]] w fun e w'=>e = .returned (.bool r)∧Below w.heap.size w w':=by
 induction k using Nat.strongRecOn with
 | _ k ih =>
 intro a0_0 a0_1 A0_2 c0_2 l0_2 r w hr0_2 hc0_2 h
 cases k with
 | zero=>exact absurd h (by simp [spec_l3All.f])
 | succ k =>
 simp only [spec_l3All.f] at h
 have hu65:=Tryz.underlying65
 have HR0_2:=zk hr0_2
 have HC0_2:=zk hc0_2
 clear hr0_2 hc0_2
 have HB:=zk (Below.refl w.heap.size w)
 have H:(spec_l3All.l0 k 0 a0_0 a0_1 l0_2)=some r:=h
 clear h
 have H':=zk H
 clear H
 go_enter Tryz.func130,Tryz.ntmps130
 go_wp2_with (first|((with_reducible refine gate_dst (N:=1) rfl ?_);(try (refine gate_guard (by rfl) ?_;dsimp only));refine zE (N:=1) (cs:=#[.int .i64 a0_0,.string a0_1,.slice A0_2 l0_2.length c0_2]) (t:=65) ?_;intro gb130001 hg w2 hbox hb;have n0_:=zk (below_step za4 hb);have n1_:=zk (hbox);have n2_:=zk (zs (w:=w) hg za4);have n3_:=zk (zs (w:=w) hg za4);clear HB;have HB:=n0_;have BK130001:=n1_;have GW130001:=n2_;have GE130001:=n3_;clear n0_ n1_ n2_ n3_;clear hb hbox hg))
 repeat (go_quiet (first|((with_reducible refine gate_dst (N:=1) rfl ?_);(try (refine gate_guard (by rfl) ?_;dsimp only));refine zE (N:=1) (cs:=#[.int .i64 a0_0,.string a0_1,.slice A0_2 l0_2.length c0_2]) (t:=65) ?_;intro gb130001 hg w2 hbox hb;have n0_:=zk (below_step za4 hb);have n1_:=zk (hbox);have n2_:=zk (zs (w:=w) hg za4);have n3_:=zk (zs (w:=w) hg za4);clear HB;have HB:=n0_;have BK130001:=n1_;have GW130001:=n2_;have GE130001:=n3_;clear n0_ n1_ n2_ n3_;clear hb hbox hg));try go_wp2_with (first|((with_reducible refine gate_dst (N:=1) rfl ?_);(try (refine gate_guard (by rfl) ?_;dsimp only));refine zE (N:=1) (cs:=#[.int .i64 a0_0,.string a0_1,.slice A0_2 l0_2.length c0_2]) (t:=65) ?_;intro gb130001 hg w2 hbox hb;have n0_:=zk (below_step za4 hb);have n1_:=zk (hbox);have n2_:=zk (zs (w:=w) hg za4);have n3_:=zk (zs (w:=w) hg za4);clear HB;have HB:=n0_;have BK130001:=n1_;have GW130001:=n2_;have GE130001:=n3_;clear n0_ n1_ n2_ n3_;clear hb hbox hg)))
 first|go_loopg [3] k (fun kq v3 w'=>∃ (x3_1:Int),v3 = .int .i64 x3_1∧Aside0 (spec_l3All.l0 kq x3_1 a0_0 a0_1 l0_2=some r)∧Aside0 (kq≤k)∧Aside0 (w'.heap[gb130001]? = some (.cells #[.int .i64 a0_0,.string a0_1,(.slice A0_2 l0_2.length c0_2)] 65 (0,0)))∧Aside0 (Below w.heap.size w w'))|(simp only [Act.put,zt,zv,zu];go_loopg [3] k (fun kq v3 w'=>∃ (x3_1:Int),v3 = .int .i64 x3_1∧Aside0 (spec_l3All.l0 kq x3_1 a0_0 a0_1 l0_2=some r)∧Aside0 (kq≤k)∧Aside0 (w'.heap[gb130001]? = some (.cells #[.int .i64 a0_0,.string a0_1,(.slice A0_2 l0_2.length c0_2)] 65 (0,0)))∧Aside0 (Below w.heap.size w w')))
 case atStart=>exact ⟨(0),za8,H',⟨Nat.le_refl _⟩,⟨za0 BK130001.out⟩,⟨za4⟩⟩
 case round =>
  clear H'
  obtain ⟨x3_1,rfl,HA,HK1,BK130001,HB⟩:=hrel
  cases gk with
  | zero=>exact absurd HA.out (by simp [spec_l3All.l0])
  | succ k1 =>
   have H:=HA.out
   clear HA
   simp only [spec_l3All.l0] at H
   by_cases c3:x3_1 < (l0_2.length:Int)
   rw [if_pos c3] at H
   have c3b0:decide (x3_1 < (l0_2.length:Int))=true:=decide_eq_true c3
   clear c3
   by_cases c4:0≤x3_1
   rw [if_pos c4] at H
   have c4b0:decide (0≤x3_1)=true:=decide_eq_true c4
   clear c4
   replace H:=zo H
   obtain ⟨t130003,A50,H⟩:=H
   replace H:(if t130003=true then (spec_l3All.l0 k1 (wrap64 (x3_1+1)) a0_0 a0_1 l0_2) else (some false))=some r:=H
   have A5:=zk A50
   clear A50
   by_cases c6:t130003=true
   · subst c6
     have H1:(spec_l3All.l0 k1 (wrap64 (x3_1+1)) a0_0 a0_1 l0_2)=some r:=by rw [if_pos rfl] at H;exact H
     clear H
     have H:=H1
     clear H1
     have H':=zk H
     clear H
     obtain ⟨hcz7_0,hcz7_1,hcz7_2,hfz7_0,hfz7_1,hfz7_2⟩:=blk3 BK130001.out
     have p130002:0≤(x3_1:Int):=of_decide_eq_true za9
     have q130002:x3_1 < (l0_2.length:Int):=of_decide_eq_true za9
     obtain ⟨ad130002,A130002_2,c130002_2,e130002,hx130002_0,hx130002_1,hx130002_2,hl130002_2,hi130002_2⟩:=at_T65 HR0_2.out x3_1 p130002 q130002
     cases e130002
     replace hx130002_0:=zx HB.out hx130002_0
     replace hx130002_1:=zx HB.out hx130002_1
     replace hx130002_2:=zx HB.out hx130002_2
     have HR130002_2:=zk hi130002_2
     have HC130002_2:=zk hl130002_2
     clear hi130002_2 hl130002_2
     replace p130002:=eq_true p130002
     replace q130002:=eq_true q130002
     go_wp2_with (first|(go_at_call 130;(with_reducible refine (ih k1 za17 ((rd_T65 l0_2 x3_1).f0) ((rd_T65 l0_2 x3_1).f1) _ _ ((rd_T65 l0_2 x3_1).f2) true _ ?side1 ?side2 A5.out).mono ?_);(case side1=>repeat (first|exact (Kd.C_below HR130002_2.out HB.out)|(with_reducible refine Kd.C_alloc ?_ _)|(with_reducible refine Kd.C_drewN ?_ _)|(with_reducible refine Kd.C_drew ?_)));(case side2=>exact HC130002_2.out);rintro e w8 ⟨rfl,hb⟩;have n0_:=zk (zb BK130001.out hb);have n1_:=zk (below_step za4 hb);clear BK130001;clear HB;have BK130001:=n0_;have HB:=n1_;clear n0_ n1_;(try clear hb);(try clear hb2);(try clear hk);(try clear hi)))
     repeat (go_quiet (first|(go_at_call 130;(with_reducible refine (ih k1 za17 ((rd_T65 l0_2 x3_1).f0) ((rd_T65 l0_2 x3_1).f1) _ _ ((rd_T65 l0_2 x3_1).f2) true _ ?side1 ?side2 A5.out).mono ?_);(case side1=>repeat (first|exact (Kd.C_below HR130002_2.out HB.out)|(with_reducible refine Kd.C_alloc ?_ _)|(with_reducible refine Kd.C_drewN ?_ _)|(with_reducible refine Kd.C_drew ?_)));(case side2=>exact HC130002_2.out);rintro e w8 ⟨rfl,hb⟩;have n0_:=zk (zb BK130001.out hb);have n1_:=zk (below_step za4 hb);clear BK130001;clear HB;have BK130001:=n0_;have HB:=n1_;clear n0_ n1_;(try clear hb);(try clear hb2);(try clear hk);(try clear hi)));try go_wp2_with (first|(go_at_call 130;(with_reducible refine (ih k1 za17 ((rd_T65 l0_2 x3_1).f0) ((rd_T65 l0_2 x3_1).f1) _ _ ((rd_T65 l0_2 x3_1).f2) true _ ?side1 ?side2 A5.out).mono ?_);(case side1=>repeat (first|exact (Kd.C_below HR130002_2.out HB.out)|(with_reducible refine Kd.C_alloc ?_ _)|(with_reducible refine Kd.C_drewN ?_ _)|(with_reducible refine Kd.C_drew ?_)));(case side2=>exact HC130002_2.out);rintro e w8 ⟨rfl,hb⟩;have n0_:=zk (zb BK130001.out hb);have n1_:=zk (below_step za4 hb);clear BK130001;clear HB;have BK130001:=n0_;have HB:=n1_;clear n0_ n1_;(try clear hb);(try clear hb2);(try clear hk);(try clear hi))))
     go_roundg k1
     case measure=>have:=HK1.out;omega
     case rel=>exact ⟨(wrap64 (x3_1+1)),za8,H',⟨za17⟩,⟨za0 BK130001.out⟩,⟨za4⟩⟩
   replace c6:=Bool.eq_false_iff.mpr c6
   subst c6
   have H1:(some false)=some r:=by rw [if_neg (show ¬ (false=true) by decide)] at H;exact H
   clear H
   have H:=H1
   clear H1
   obtain rfl:=zi H
   obtain ⟨hcz9_0,hcz9_1,hcz9_2,hfz9_0,hfz9_1,hfz9_2⟩:=blk3 BK130001.out
   have p130002:0≤(x3_1:Int):=of_decide_eq_true za9
   have q130002:x3_1 < (l0_2.length:Int):=of_decide_eq_true za9
   obtain ⟨ad130002,A130002_2,c130002_2,e130002,hx130002_0,hx130002_1,hx130002_2,hl130002_2,hi130002_2⟩:=at_T65 HR0_2.out x3_1 p130002 q130002
   cases e130002
   replace hx130002_0:=zx HB.out hx130002_0
   replace hx130002_1:=zx HB.out hx130002_1
   replace hx130002_2:=zx HB.out hx130002_2
   have HR130002_2:=zk hi130002_2
   have HC130002_2:=zk hl130002_2
   clear hi130002_2 hl130002_2
   replace p130002:=eq_true p130002
   replace q130002:=eq_true q130002
   rotate_left
   · rw [if_neg c4] at H
     exact absurd H (by simp)
   rw [if_neg c3] at H
   have c3b0:decide (x3_1 < (l0_2.length:Int))=false:=decide_eq_false c3
   clear c3
   by_cases c11:a0_0=3
   rw [if_pos c11] at H
   have c11b0:(a0_0 == 3)=true:=beq_iff_eq.mpr c11
   have c11b1:(a0_0 != 3)=false:=bne_eq_false_iff_eq.mpr c11
   clear c11
   by_cases c12:(a0_1.size:Int)=1
   rw [if_pos c12] at H
   have c12b0:((a0_1.size:Int) == 1)=true:=beq_iff_eq.mpr c12
   have c12b1:((a0_1.size:Int) != 1)=false:=bne_eq_false_iff_eq.mpr c12
   clear c12
   replace H:=zo H
   obtain ⟨t130004,A130,H⟩:=H
   replace H:(if t130004=true then (some ((l0_2.length:Int) == 0)) else (some false))=some r:=H
   have A13:=zk A130
   clear A130
   by_cases c14:t130004=true
   subst c14
   have H1:(some ((l0_2.length:Int) == 0))=some r:=by rw [if_pos rfl] at H;exact H
   clear H
   have H:=H1
   clear H1
   obtain rfl:=zi H
   obtain ⟨hcz15_0,hcz15_1,hcz15_2,hfz15_0,hfz15_1,hfz15_2⟩:=blk3 BK130001.out
   rotate_left
   replace c14:=Bool.eq_false_iff.mpr c14
   subst c14
   have H1:(some false)=some r:=by rw [if_neg (show ¬ (false=true) by decide)] at H;exact H
   clear H
   have H:=H1
   clear H1
   obtain rfl:=zi H
   obtain ⟨hcz16_0,hcz16_1,hcz16_2,hfz16_0,hfz16_1,hfz16_2⟩:=blk3 BK130001.out
   rotate_left
   rw [if_neg c12] at H
   have c12b0:((a0_1.size:Int) == 1)=false:=beq_eq_false_iff_ne.mpr c12
   have c12b1:((a0_1.size:Int) != 1)=true:=bne_iff_ne.mpr c12
   obtain rfl:=zi H
   obtain ⟨hcz17_0,hcz17_1,hcz17_2,hfz17_0,hfz17_1,hfz17_2⟩:=blk3 BK130001.out
   rotate_left
   rw [if_neg c11] at H
   have c11b0:(a0_0 == 3)=false:=beq_eq_false_iff_ne.mpr c11
   have c11b1:(a0_0 != 3)=true:=bne_iff_ne.mpr c11
   replace H:=zo H
   obtain ⟨t130005,A180,H⟩:=H
   replace H:(if t130005=true then (if a0_1.toList=([]:List UInt8) then ((spec_l3Args.f k1 a0_0).bind fun t130006=>(some ((l0_2.length:Int) == t130006))) else (some false)) else (some false))=some r:=H
   have A18:=zk A180
   clear A180
   by_cases c19:t130005=true
   subst c19
   have H1:(if a0_1.toList=([]:List UInt8) then ((spec_l3Args.f k1 a0_0).bind fun t130006=>(some ((l0_2.length:Int) == t130006))) else (some false))=some r:=by rw [if_pos rfl] at H;exact H
   clear H
   have H:=H1
   clear H1
   by_cases c20:a0_1.toList=([]:List UInt8)
   rw [if_pos c20] at H
   have c20b0:(a0_1.toList == ([]:List UInt8))=true:=beq_iff_eq.mpr c20
   have c20b1:(a0_1.toList != ([]:List UInt8))=false:=bne_eq_false_iff_eq.mpr c20
   clear c20
   replace H:=zo H
   obtain ⟨t130006,A210,H⟩:=H
   replace H:(some ((l0_2.length:Int) == t130006))=some r:=H
   have A21:=zk A210
   clear A210
   obtain rfl:=zi H
   obtain ⟨hcz22_0,hcz22_1,hcz22_2,hfz22_0,hfz22_1,hfz22_2⟩:=blk3 BK130001.out
   rotate_left
   rw [if_neg c20] at H
   have c20b0:(a0_1.toList == ([]:List UInt8))=false:=beq_eq_false_iff_ne.mpr c20
   have c20b1:(a0_1.toList != ([]:List UInt8))=true:=bne_iff_ne.mpr c20
   obtain rfl:=zi H
   obtain ⟨hcz23_0,hcz23_1,hcz23_2,hfz23_0,hfz23_1,hfz23_2⟩:=blk3 BK130001.out
   rotate_left
   replace c19:=Bool.eq_false_iff.mpr c19
   subst c19
   have H1:(some false)=some r:=by rw [if_neg (show ¬ (false=true) by decide)] at H;exact H
   clear H
   have H:=H1
   clear H1
   obtain rfl:=zi H
   obtain ⟨hcz24_0,hcz24_1,hcz24_2,hfz24_0,hfz24_1,hfz24_2⟩:=blk3 BK130001.out
   rotate_left
   all_goals
    go_wp2_with (first|(go_at_call 130;(with_reducible refine (ih k1 za17 ((rd_T65 l0_2 x3_1).f0) ((rd_T65 l0_2 x3_1).f1) _ _ ((rd_T65 l0_2 x3_1).f2) false _ ?side1 ?side2 A5.out).mono ?_);(case side1=>repeat (first|exact (Kd.C_below HR130002_2.out HB.out)|(with_reducible refine Kd.C_alloc ?_ _)|(with_reducible refine Kd.C_drewN ?_ _)|(with_reducible refine Kd.C_drew ?_)));(case side2=>exact HC130002_2.out);rintro e w10 ⟨rfl,hb⟩;have n0_:=zk (zb BK130001.out hb);have n1_:=zk (below_step za4 hb);clear BK130001;clear HB;have BK130001:=n0_;have HB:=n1_;clear n0_ n1_;(try clear hb);(try clear hb2);(try clear hk);(try clear hi))|(go_at_call 101;(with_reducible refine (spec_l1In.calls a0_0 1 9 _ _ A18.out).mono ?_);rintro e w' ⟨rfl,⟨nd,rfl⟩⟩;(try first|exact ⟨rfl,_,World.drewN_drewN _ _ _⟩|exact ⟨rfl,_,Eq.trans (World.drewN_drewN _ _ _) (congrArg (World.drewN _) (Nat.add_assoc _ _ _))⟩))|(go_at_call 140;(with_reducible refine (spec_l3Args.calls k1 a0_0 t130006 _ A21.out).mono ?_);rintro e w' ⟨rfl,⟨nd,rfl⟩⟩;(try first|exact ⟨rfl,_,World.drewN_drewN _ _ _⟩|exact ⟨rfl,_,Eq.trans (World.drewN_drewN _ _ _) (congrArg (World.drewN _) (Nat.add_assoc _ _ _))⟩))|(go_at_call 84;(with_reducible refine (spec_IsWord.calls k1 a0_1 _ _ A13.out).mono ?_);rintro e w' ⟨rfl,⟨nd,rfl⟩⟩;(try first|exact ⟨rfl,_,World.drewN_drewN _ _ _⟩|exact ⟨rfl,_,Eq.trans (World.drewN_drewN _ _ _) (congrArg (World.drewN _) (Nat.add_assoc _ _ _))⟩)))
    repeat (go_quiet (first|(go_at_call 130;(with_reducible refine (ih k1 za17 ((rd_T65 l0_2 x3_1).f0) ((rd_T65 l0_2 x3_1).f1) _ _ ((rd_T65 l0_2 x3_1).f2) false _ ?side1 ?side2 A5.out).mono ?_);(case side1=>repeat (first|exact (Kd.C_below HR130002_2.out HB.out)|(with_reducible refine Kd.C_alloc ?_ _)|(with_reducible refine Kd.C_drewN ?_ _)|(with_reducible refine Kd.C_drew ?_)));(case side2=>exact HC130002_2.out);rintro e w10 ⟨rfl,hb⟩;have n0_:=zk (zb BK130001.out hb);have n1_:=zk (below_step za4 hb);clear BK130001;clear HB;have BK130001:=n0_;have HB:=n1_;clear n0_ n1_;(try clear hb);(try clear hb2);(try clear hk);(try clear hi))|(go_at_call 101;(with_reducible refine (spec_l1In.calls a0_0 1 9 _ _ A18.out).mono ?_);rintro e w' ⟨rfl,⟨nd,rfl⟩⟩;(try first|exact ⟨rfl,_,World.drewN_drewN _ _ _⟩|exact ⟨rfl,_,Eq.trans (World.drewN_drewN _ _ _) (congrArg (World.drewN _) (Nat.add_assoc _ _ _))⟩))|(go_at_call 140;(with_reducible refine (spec_l3Args.calls k1 a0_0 t130006 _ A21.out).mono ?_);rintro e w' ⟨rfl,⟨nd,rfl⟩⟩;(try first|exact ⟨rfl,_,World.drewN_drewN _ _ _⟩|exact ⟨rfl,_,Eq.trans (World.drewN_drewN _ _ _) (congrArg (World.drewN _) (Nat.add_assoc _ _ _))⟩))|(go_at_call 84;(with_reducible refine (spec_IsWord.calls k1 a0_1 _ _ A13.out).mono ?_);rintro e w' ⟨rfl,⟨nd,rfl⟩⟩;(try first|exact ⟨rfl,_,World.drewN_drewN _ _ _⟩|exact ⟨rfl,_,Eq.trans (World.drewN_drewN _ _ _) (congrArg (World.drewN _) (Nat.add_assoc _ _ _))⟩)));try go_wp2_with (first|(go_at_call 130;(with_reducible refine (ih k1 za17 ((rd_T65 l0_2 x3_1).f0) ((rd_T65 l0_2 x3_1).f1) _ _ ((rd_T65 l0_2 x3_1).f2) false _ ?side1 ?side2 A5.out).mono ?_);(case side1=>repeat (first|exact (Kd.C_below HR130002_2.out HB.out)|(with_reducible refine Kd.C_alloc ?_ _)|(with_reducible refine Kd.C_drewN ?_ _)|(with_reducible refine Kd.C_drew ?_)));(case side2=>exact HC130002_2.out);rintro e w10 ⟨rfl,hb⟩;have n0_:=zk (zb BK130001.out hb);have n1_:=zk (below_step za4 hb);clear BK130001;clear HB;have BK130001:=n0_;have HB:=n1_;clear n0_ n1_;(try clear hb);(try clear hb2);(try clear hk);(try clear hi))|(go_at_call 101;(with_reducible refine (spec_l1In.calls a0_0 1 9 _ _ A18.out).mono ?_);rintro e w' ⟨rfl,⟨nd,rfl⟩⟩;(try first|exact ⟨rfl,_,World.drewN_drewN _ _ _⟩|exact ⟨rfl,_,Eq.trans (World.drewN_drewN _ _ _) (congrArg (World.drewN _) (Nat.add_assoc _ _ _))⟩))|(go_at_call 140;(with_reducible refine (spec_l3Args.calls k1 a0_0 t130006 _ A21.out).mono ?_);rintro e w' ⟨rfl,⟨nd,rfl⟩⟩;(try first|exact ⟨rfl,_,World.drewN_drewN _ _ _⟩|exact ⟨rfl,_,Eq.trans (World.drewN_drewN _ _ _) (congrArg (World.drewN _) (Nat.add_assoc _ _ _))⟩))|(go_at_call 84;(with_reducible refine (spec_IsWord.calls k1 a0_1 _ _ A13.out).mono ?_);rintro e w' ⟨rfl,⟨nd,rfl⟩⟩;(try first|exact ⟨rfl,_,World.drewN_drewN _ _ _⟩|exact ⟨rfl,_,Eq.trans (World.drewN_drewN _ _ _) (congrArg (World.drewN _) (Nat.add_assoc _ _ _))⟩))))
    go_ret
    exact ⟨za7,za4⟩
def spec_IsValidRegex.f (k:Nat) (a0_0:Int) (a0_1:ByteArray) (l0_2:List (S65)):Option (Bool):=(spec_l3Left.f k a0_0 a0_1 l0_2 16).bind fun t99002=>(if t99002 ≥ 0 then ((spec_l3Depth.f k a0_0 a0_1 l0_2).bind fun t99003=>(if t99003≤6 then ((spec_l3All.f k a0_0 a0_1 l0_2).bind fun t99004=>(some t99004)) else (some false))) else (some false))
theorem spec_IsValidRegex.mono:∀ a0 a1 a2 k,LeO (spec_IsValidRegex.f k a0 a1 a2) (spec_IsValidRegex.f (k+1) a0 a1 a2):=by
 intro a0 a1 a2 k
 unfold spec_IsValidRegex.f
 repeat' first
  | with_reducible first|exact spec_l3All.mono _ _ _ _|exact spec_l3Depth.mono _ _ _ _|exact spec_l3Left.mono _ _ _ _ _|exact LeO.refl _|exact LeO.none _|refine LeO.ite ?_ ?_|refine LeO.bind ?_ (fun _=>?_)
theorem spec_IsValidRegex.calls (k:Nat) (a0_0:Int) (a0_1:ByteArray) (A0_2:Option Addr) (c0_2:Nat) (l0_2:List (S65)) (r:Bool) (w:World) (hr0_2:Kd.C k65 w A0_2 l0_2.length l0_2) (hc0_2:l0_2.length≤c0_2) (h:spec_IsValidRegex.f k a0_0 a0_1 l0_2=some r) :
   Calls Tryz.prog 99 #[.agg #[.int .i64 a0_0,.string a0_1,.slice A0_2 l0_2.length c0_2]] w fun e w'=>e = .returned (.bool r)∧Below w.heap.size w w':=by
 have hu65:=Tryz.underlying65
 have HR0_2:=zk hr0_2
 have HC0_2:=zk hc0_2
 clear hr0_2 hc0_2
 have HB:=zk (Below.refl w.heap.size w)
 have H:((spec_l3Left.f k a0_0 a0_1 l0_2 16).bind fun t99002=>(if t99002 ≥ 0 then ((spec_l3Depth.f k a0_0 a0_1 l0_2).bind fun t99003=>(if t99003≤6 then ((spec_l3All.f k a0_0 a0_1 l0_2).bind fun t99004=>(some t99004)) else (some false))) else (some false)))=some r:=h
 clear h
 replace H:=zo H
 obtain ⟨t99002,A20,H⟩:=H
 replace H:(if t99002 ≥ 0 then ((spec_l3Depth.f k a0_0 a0_1 l0_2).bind fun t99003=>(if t99003≤6 then ((spec_l3All.f k a0_0 a0_1 l0_2).bind fun t99004=>(some t99004)) else (some false))) else (some false))=some r:=H
 have A2:=zk A20
 clear A20
 by_cases c3:t99002 ≥ 0
 rw [if_pos c3] at H
 have c3b0:decide (0≤t99002)=true:=decide_eq_true c3
 clear c3
 replace H:=zo H
 obtain ⟨t99003,A40,H⟩:=H
 replace H:(if t99003≤6 then ((spec_l3All.f k a0_0 a0_1 l0_2).bind fun t99004=>(some t99004)) else (some false))=some r:=H
 have A4:=zk A40
 clear A40
 by_cases c5:t99003≤6
 rw [if_pos c5] at H
 have c5b0:decide (t99003≤6)=true:=decide_eq_true c5
 clear c5
 replace H:=zo H
 obtain ⟨t99004,A60,H⟩:=H
 replace H:(some t99004)=some r:=H
 have A6:=zk A60
 clear A60
 rotate_left
 rw [if_neg c5] at H
 have c5b0:decide (t99003≤6)=false:=decide_eq_false c5
 clear c5
 rotate_left
 rw [if_neg c3] at H
 have c3b0:decide (0≤t99002)=false:=decide_eq_false c3
 clear c3
 rotate_left
 all_goals
  obtain rfl:=zi H
  go_enter Tryz.func99,Tryz.ntmps99
  go_wp2_with (first|((with_reducible refine gate_dst (N:=1) rfl ?_);refine zE (N:=1) (cs:=#[.int .i64 a0_0,.string a0_1,.slice A0_2 l0_2.length c0_2]) (t:=65) ?_;intro gb99001 hg w14 hbox hb;have n0_:=zk (below_step za4 hb);have n1_:=zk (hbox);have n2_:=zk (zs (w:=w) hg za4);have n3_:=zk (zs (w:=w) hg za4);clear HB;have HB:=n0_;have BK99001:=n1_;have GW99001:=n2_;have GE99001:=n3_;clear n0_ n1_ n2_ n3_;clear hb hbox hg;obtain ⟨hcz15_0,hcz15_1,hcz15_2,hfz15_0,hfz15_1,hfz15_2⟩:=blk3 BK99001.out)|((with_reducible refine gate_callee (f:=128) rfl ?_);refine goesL_ (some 4) rfl rfl Tryz.func128 (by kernel_rfl) rfl #[.agg #[.int .i64 a0_0,.string a0_1,.slice A0_2 l0_2.length c0_2],.int .i64 16] rfl za5 ?_;(with_reducible refine (spec_l3Left.calls k a0_0 a0_1 _ _ l0_2 16 t99002 _ ?side1 ?side2 A2.out).mono ?_);(case side1=>repeat (first|exact (Kd.C_below HR0_2.out HB.out)|(with_reducible refine Kd.C_alloc ?_ _)|(with_reducible refine Kd.C_drewN ?_ _)|(with_reducible refine Kd.C_drew ?_)));(case side2=>exact HC0_2.out);rintro e w16 ⟨rfl,hb⟩;refine ⟨_,rfl,?_⟩;have n0_:=zk (zb BK99001.out hb);have n1_:=zk (below_step za4 hb);clear BK99001;clear HB;have BK99001:=n0_;have HB:=n1_;clear n0_ n1_;(try clear hb);(try clear hb2);(try clear hk);(try clear hi);obtain ⟨hcz17_0,hcz17_1,hcz17_2,hfz17_0,hfz17_1,hfz17_2⟩:=blk3 BK99001.out)|(go_at_call 129;(with_reducible refine (spec_l3Depth.calls k a0_0 a0_1 _ _ l0_2 t99003 _ ?side1 ?side2 A4.out).mono ?_);(case side1=>repeat (first|exact (Kd.C_below HR0_2.out HB.out)|(with_reducible refine Kd.C_alloc ?_ _)|(with_reducible refine Kd.C_drewN ?_ _)|(with_reducible refine Kd.C_drew ?_)));(case side2=>exact HC0_2.out);rintro e w11 ⟨rfl,hb⟩;have n0_:=zk (zb BK99001.out hb);have n1_:=zk (below_step za4 hb);clear BK99001;clear HB;have BK99001:=n0_;have HB:=n1_;clear n0_ n1_;(try clear hb);(try clear hb2);(try clear hk);(try clear hi);obtain ⟨hcz12_0,hcz12_1,hcz12_2,hfz12_0,hfz12_1,hfz12_2⟩:=blk3 BK99001.out)|(go_at_call 130;(with_reducible refine (spec_l3All.calls k a0_0 a0_1 _ _ l0_2 t99004 _ ?side1 ?side2 A6.out).mono ?_);(case side1=>repeat (first|exact (Kd.C_below HR0_2.out HB.out)|(with_reducible refine Kd.C_alloc ?_ _)|(with_reducible refine Kd.C_drewN ?_ _)|(with_reducible refine Kd.C_drew ?_)));(case side2=>exact HC0_2.out);rintro e w13 ⟨rfl,hb⟩;have n0_:=zk (zb BK99001.out hb);have n1_:=zk (below_step za4 hb);clear BK99001;clear HB;have BK99001:=n0_;have HB:=n1_;clear n0_ n1_;(try clear hb);(try clear hb2);(try clear hk);(try clear hi)))
  go_ret
  exact ⟨za7,za4⟩
end Go.Proofs.YtffjfdoghofkdaaGreat.A
namespace Go.Proofs.YtffjfdoghofkdaaGreat.Ext
open Go.RowKit YtffjfdoghofkdaaGreatW.PrintWords YtffjfdoghofkdaaGreatW.PrintLast YtffjfdoghofkdaaGreat.A
inductive Rx where
 | none:Rx
 | empty:Rx
 | letter (l:ByteArray):Rx
 | any:Rx
 | cat (a b:Rx):Rx
 | or (a b:Rx):Rx
 | and (a b:Rx):Rx
 | star (a:Rx):Rx
 | not (a:Rx):Rx
def Rx.size:Rx→Nat
 | .cat a b=>1+a.size+b.size
 | .or a b=>1+a.size+b.size
 | .and a b=>1+a.size+b.size
 | .star a=>1+a.size
 | .not a=>1+a.size
 | _=>1
theorem Rx.size_pos (t:Rx):0 < t.size:=by cases t <;> simp only [Rx.size] <;> omega
inductive IsRx : S65 → Rx → Prop
 | none (s:ByteArray):IsRx ⟨1,s,[]⟩ .none
 | empty (s:ByteArray):IsRx ⟨2,s,[]⟩ .empty
 | letter (s:ByteArray):IsRx ⟨3,s,[]⟩ (.letter s)
 | any (s:ByteArray):IsRx ⟨4,s,[]⟩ .any
 | cat (s:ByteArray) {x y:S65} {t u:Rx} (hx:IsRx x t) (hy:IsRx y u):IsRx ⟨5,s,[x,y]⟩ (.cat t u)
 | or (s:ByteArray) {x y:S65} {t u:Rx} (hx:IsRx x t) (hy:IsRx y u):IsRx ⟨6,s,[x,y]⟩ (.or t u)
 | and (s:ByteArray) {x y:S65} {t u:Rx} (hx:IsRx x t) (hy:IsRx y u):IsRx ⟨7,s,[x,y]⟩ (.and t u)
 | star (s:ByteArray) {x:S65} {t:Rx} (hx:IsRx x t):IsRx ⟨8,s,[x]⟩ (.star t)
 | not (s:ByteArray) {x:S65} {t:Rx} (hx:IsRx x t):IsRx ⟨9,s,[x]⟩ (.not t)
def rxOf:Nat→S65→Option Rx
 | 0,_ => .none
 | n+1,x=>match x.f2 with
  | []=>if x.f0=1 then some .none else if x.f0=2 then some .empty else if x.f0=3 then some (.letter x.f1) else if x.f0=4 then some .any else .none
  | [a]=>(rxOf n a).bind fun t=>if x.f0=8 then some (.star t) else if x.f0=9 then some (.not t) else .none
  | [a,b]=>(rxOf n a).bind fun t=>(rxOf n b).bind fun u=>if x.f0=5 then some (.cat t u) else if x.f0=6 then some (.or t u) else if x.f0=7 then some (.and t u) else .none
  | _ => .none
theorem rxOf_is:∀ n (x:S65) (t:Rx),rxOf n x=some t→IsRx x t:=by
 intro n
 induction n with
 | zero=>intro x t h;exact absurd h (by simp [rxOf])
 | succ n ih =>
  intro x t h
  obtain ⟨k,s,l⟩:=x
  rcases l with _|⟨a,_|⟨b,_|⟨c,l⟩⟩⟩
  ·simp only [rxOf] at h
   split at h
   ·next e=>subst e;obtain rfl:=zi h;exact .none s
   ·split at h
    ·next e=>subst e;obtain rfl:=zi h;exact .empty s
    ·split at h
     ·next e=>subst e;obtain rfl:=zi h;exact .letter s
     ·split at h
      ·next e=>subst e;obtain rfl:=zi h;exact .any s
      ·exact absurd h (by simp)
  ·simp only [rxOf] at h
   replace h:=zo h
   obtain ⟨u,hu,h⟩:=h
   split at h
   ·next e=>subst e;obtain rfl:=zi h;exact .star s (ih _ _ hu)
   ·split at h
    ·next e=>subst e;obtain rfl:=zi h;exact .not s (ih _ _ hu)
    ·exact absurd h (by simp)
  ·simp only [rxOf] at h
   replace h:=zo h
   obtain ⟨u,hu,h⟩:=h
   replace h:=zo h
   obtain ⟨v,hv,h⟩:=h
   split at h
   ·next e=>subst e;obtain rfl:=zi h;exact .cat s (ih _ _ hu) (ih _ _ hv)
   ·split at h
    ·next e=>subst e;obtain rfl:=zi h;exact .or s (ih _ _ hu) (ih _ _ hv)
    ·split at h
     ·next e=>subst e;obtain rfl:=zi h;exact .and s (ih _ _ hu) (ih _ _ hv)
     ·exact absurd h (by simp)
  ·exact absurd h (by simp [rxOf])
/-! The language. -/
def exIn (p:Nat→Bool) (i j:Nat):Bool:=(List.range (j+1 - i)).any fun d=>p (i+d)
theorem exIn_iff (p:Nat→Bool) (i j:Nat):exIn p i j=true ↔ ∃ k,i≤k∧k≤j∧p k=true:=by
 unfold exIn
 rw [List.any_eq_true]
 constructor
 ·rintro ⟨d,hd,h⟩
  have:=List.mem_range.1 hd
  exact ⟨i+d,by omega,by omega,h⟩
 ·rintro ⟨k,h1,h2,h⟩
  exact ⟨k - i,List.mem_range.2 (by omega),by rw [show i+(k - i)=k by omega];exact h⟩
def stf (f:Nat→Nat→Bool):Nat→Nat→Nat→Bool
 | 0,i,j=>i == j
 | n+1,i,j=>i == j || exIn (fun k=>f i k && stf f n k j) (i+1) j
def mt (s:ByteArray):Rx→Nat→Nat→Bool
 | .none,_,_=>false
 | .empty,i,j=>i == j
 | .letter l,i,j=>(s.extract i j).toList == l.toList
 | .any,i,j=>j == i+1
 | .cat a b,i,j=>exIn (fun k=>mt s a i k && mt s b k j) i j
 | .or a b,i,j=>mt s a i j || mt s b i j
 | .and a b,i,j=>mt s a i j && mt s b i j
 | .star a,i,j=>stf (mt s a) (j - i) i j
 | .not a,i,j => !mt s a i j
inductive Path (f : Nat → Nat → Bool) : Nat → Nat → Prop
 | refl (i:Nat):Path f i i
 | step {i k j:Nat} (h:i < k) (hf:f i k=true) (r:Path f k j):Path f i j
theorem Path.le {f:Nat→Nat→Bool} {i j:Nat} (h:Path f i j):i≤j:=by
 induction h with
 | refl=>exact Nat.le_refl _
 | step h _ _ ih=>omega
theorem Path.snoc {f:Nat→Nat→Bool} {i j k:Nat} (h:Path f i j) (hk:j < k) (hf:f j k=true):Path f i k:=by
 induction h with
 | refl i=>exact .step hk hf (.refl _)
 | step h g _ ih=>exact .step h g (ih hk hf)
theorem Path.last {f:Nat→Nat→Bool} {i k:Nat} (h:Path f i k):k=i∨∃ m,i≤m∧m < k∧Path f i m∧f m k=true:=by
 induction h with
 | refl i=>exact .inl rfl
 | @step i k j h g r ih =>
  right
  rcases ih with rfl|⟨m,h1,h2,h3,h4⟩
  ·exact ⟨i,Nat.le_refl _,h,.refl _,g⟩
  ·exact ⟨m,by omega,h2,.step h g h3,h4⟩
theorem stf_iff (f:Nat→Nat→Bool):∀ n i j,j - i≤n→(stf f n i j=true ↔ Path f i j):=by
 intro n
 induction n with
 | zero =>
  intro i j h
  simp only [stf,beq_iff_eq]
  constructor
  ·rintro rfl;exact .refl _
  ·intro p;have:=p.le;omega
 | succ n ih =>
  intro i j h
  simp only [stf,Bool.or_eq_true,beq_iff_eq,exIn_iff,Bool.and_eq_true]
  constructor
  ·rintro (rfl|⟨k,h1,h2,h3,h4⟩)
   ·exact .refl _
   ·exact .step (by omega) h3 ((ih k j (by omega)).1 h4)
  ·intro p
   cases p with
   | refl=>exact .inl rfl
   | @step _ k _ h1 h2 r=>exact .inr ⟨k,by omega,r.le,h2,(ih k j (by omega)).2 r⟩
theorem star_iff (s:ByteArray) (a:Rx) (i j:Nat):mt s (.star a) i j=true ↔ Path (mt s a) i j:=stf_iff _ _ _ _ (Nat.le_refl _)
theorem star_self (s:ByteArray) (a:Rx) (i:Nat):mt s (.star a) i i=true:=(star_iff s a i i).2 (.refl _)
theorem star_first (s:ByteArray) (a:Rx) (i j:Nat) (h:i < j):mt s (.star a) i j=exIn (fun k=>mt s a i k && mt s (.star a) k j) (i+1) j:=by
 rw [Bool.eq_iff_iff,star_iff,exIn_iff]
 constructor
 ·intro p
  cases p with
  | refl=>omega
  | @step _ k _ h1 h2 r=>exact ⟨k,by omega,r.le,by simp [h2,(star_iff s a k j).2 r]⟩
 ·rintro ⟨k,h1,h2,h3⟩
  simp only [Bool.and_eq_true] at h3
  exact .step (by omega) h3.1 ((star_iff s a k j).1 h3.2)
theorem star_last (s:ByteArray) (a:Rx) (i k:Nat) (h:i < k):mt s (.star a) i k=exIn (fun m=>mt s (.star a) i m && mt s a m k) i (k - 1):=by
 rw [Bool.eq_iff_iff,star_iff,exIn_iff]
 constructor
 ·intro p
  rcases p.last with rfl|⟨m,h1,h2,h3,h4⟩
  ·omega
  ·exact ⟨m,h1,by omega,by simp [h4,(star_iff s a i m).2 h3]⟩
 ·rintro ⟨m,h1,h2,h3⟩
  simp only [Bool.and_eq_true] at h3
  exact ((star_iff s a i m).1 h3.1).snoc (by omega) h3.2
def rxMatch (k:Int) (b:ByteArray) (l:List S65) (s:ByteArray):Option Bool :=
 if s.size≤400 then (rxOf 7 ⟨k,b,l⟩).bind fun t=>if t.size≤16 then some (mt s t 0 s.size) else .none else .none
theorem rxMatch_some {k:Int} {b:ByteArray} {l:List S65} {s:ByteArray} {r:Bool} (h:rxMatch k b l s=some r):∃ t,IsRx ⟨k,b,l⟩ t∧t.size≤16∧s.size≤400∧mt s t 0 s.size=r:=by
 unfold rxMatch at h
 split at h
 ·next h0 =>
  obtain ⟨t,h1,h2⟩:=zo h
  split at h2
  ·next h3=>exact ⟨t,rxOf_is _ _ _ h1,h3,h0,zi h2⟩
  ·exact absurd h2 (by simp)
 ·exact absurd h (by simp)
end Go.Proofs.YtffjfdoghofkdaaGreat.Ext
namespace Go.Proofs.YtffjfdoghofkdaaGreat.Ext
open Go Go.RowKit YtffjfdoghofkdaaGreatW.PrintWords YtffjfdoghofkdaaGreatW.PrintLast
structure Lay where
 N:Nat
 bn:Nat
 ba:Nat
 bm:Nat
 cn:Nat
 ca:Nat
 cm:Nat
 kd:Nat→Int
 lt:Nat→ByteArray
 ar:Nat→List Int
 aA:Nat→Option Addr
 ac:Nat→Nat
 tb:Nat→Nat
 tc:Nat→Nat
 rb:Nat→Nat→Nat
def Lay.St (l:Lay) (W1:World) (L k:Nat):Prop:=k < W1.heap.size∧∀ q i,q < l.N→i < L→k ≠ l.rb q i
structure LayOk (l : Lay) (w0 W1 : World) (g : Nat) (s : ByteArray) (L : Nat) : Prop where
 z:W1.heap[g]? = some (.cells #[.string s,.slice (some ⟨l.bn,0,none⟩) l.N l.cn,.slice (some ⟨l.ba,0,none⟩) l.N l.ca,.slice (some ⟨l.bm,0,none⟩) l.N l.cm] 142 (0,0))
 n0:∀ q,q < l.N→W1.cell? ⟨l.bn,q * 3,none⟩=some (.int .i64 (l.kd q))
 n1:∀ q,q < l.N→W1.cell? ⟨l.bn,q * 3+1,none⟩=some (.string (l.lt q))
 a0:∀ q,q < l.N→W1.cell? ⟨l.ba,q,none⟩=some (.slice (l.aA q) (l.ar q).length (l.ac q))
 a1:∀ q,q < l.N→∀ p,p < (l.ar q).length→∃ ab,l.aA q=some ⟨ab,0,none⟩∧l.St W1 L ab∧W1.cell? ⟨ab,p,none⟩=some (.int .i64 ((l.ar q).getD p 0))
 m0:∀ q,q < l.N→W1.cell? ⟨l.bm,q,none⟩=some (.slice (some ⟨l.tb q,0,none⟩) L (l.tc q))
 m1:∀ q i,q < l.N→i < L→W1.cell? ⟨l.tb q,i,none⟩=some (.slice (some ⟨l.rb q i,0,none⟩) L L)
 sg:l.St W1 L g
 sn:l.St W1 L l.bn
 sa:l.St W1 L l.ba
 sm:l.St W1 L l.bm
 st:∀ q,q < l.N→l.St W1 L (l.tb q)
 inj:∀ q i q' i',q < l.N→i < L→q' < l.N→i' < L→l.rb q i=l.rb q' i'→q=q'∧i=i'
 lo:∀ q i,q < l.N→i < L→w0.heap.size≤l.rb q i
def upd (m:Nat→Nat→List Int) (q i:Nat) (r:List Int):Nat→Nat→List Int:=fun q' i'=>if q'=q∧i'=i then r else m q' i'
theorem upd_self (m:Nat→Nat→List Int) (q i:Nat) (r:List Int):upd m q i r q i=r:=if_pos ⟨rfl,rfl⟩
theorem upd_ne (m:Nat→Nat→List Int) {q i q' i':Nat} (r:List Int) (h:¬ (q'=q∧i'=i)):upd m q i r q' i'=m q' i':=if_neg h
structure SSt (l : Lay) (W1 : World) (L : Nat) (m : Nat → Nat → List Int) (W : World) : Prop where
 st:∀ k,l.St W1 L k→W.heap[k]? = W1.heap[k]?
 rw:∀ q i,q < l.N→i < L→W.heap[l.rb q i]? = some (.cells (nums .i64 (m q i)).toArray 3 (0,0))∧(m q i).length=L
 le:W1.heap.size≤W.heap.size
section
variable {l : Lay} {w0 W1 W : World} {g : Nat} {s : ByteArray} {L : Nat} {m : Nat → Nat → List Int}
theorem SSt.cell_ (h:SSt l W1 L m W) {a:Addr} {v:Value} (hs:l.St W1 L a.block) (hc:W1.cell? a=some v):W.cell? a=some v:=(World.cell?_of_block (w:=W1) (h.st _ hs)).trans hc
theorem SSt.z (h:SSt l W1 L m W) (ok:LayOk l w0 W1 g s L):W.heap[g]? = some (.cells #[.string s,.slice (some ⟨l.bn,0,none⟩) l.N l.cn,.slice (some ⟨l.ba,0,none⟩) l.N l.ca,.slice (some ⟨l.bm,0,none⟩) l.N l.cm] 142 (0,0)):=(h.st _ ok.sg).trans ok.z
theorem SSt.n0 (h:SSt l W1 L m W) (ok:LayOk l w0 W1 g s L) {q:Nat} (hq:q < l.N):W.cell? ⟨l.bn,q * 3,none⟩=some (.int .i64 (l.kd q)):=h.cell_ ok.sn (ok.n0 q hq)
theorem SSt.n1 (h:SSt l W1 L m W) (ok:LayOk l w0 W1 g s L) {q:Nat} (hq:q < l.N):W.cell? ⟨l.bn,q * 3+1,none⟩=some (.string (l.lt q)):=h.cell_ ok.sn (ok.n1 q hq)
theorem SSt.a0 (h:SSt l W1 L m W) (ok:LayOk l w0 W1 g s L) {q:Nat} (hq:q < l.N):W.cell? ⟨l.ba,q,none⟩=some (.slice (l.aA q) (l.ar q).length (l.ac q)):=h.cell_ ok.sa (ok.a0 q hq)
theorem SSt.m0 (h:SSt l W1 L m W) (ok:LayOk l w0 W1 g s L) {q:Nat} (hq:q < l.N):W.cell? ⟨l.bm,q,none⟩=some (.slice (some ⟨l.tb q,0,none⟩) L (l.tc q)):=h.cell_ ok.sm (ok.m0 q hq)
theorem SSt.m1 (h:SSt l W1 L m W) (ok:LayOk l w0 W1 g s L) {q i:Nat} (hq:q < l.N) (hi:i < L):W.cell? ⟨l.tb q,i,none⟩=some (.slice (some ⟨l.rb q i,0,none⟩) L L):=h.cell_ (ok.st q hq) (ok.m1 q i hq hi)
theorem SSt.m2 (h:SSt l W1 L m W) {q i j:Nat} (hq:q < l.N) (hi:i < L) (hj:j < L):W.cell? ⟨l.rb q i,j,none⟩=some (.int .i64 ((m q i).getD j 0)):=by
 obtain ⟨h1,h2⟩:=h.rw q i hq hi
 rw [blk_cell h1]
 simp [nums,h2,hj]
theorem SSt.fr (h:SSt l W1 L m W) {q i:Nat} (hq:q < l.N) (hi:i < L) (j:Nat):W.frozen? ⟨l.rb q i,j,none⟩=false:=blk_frozen (h.rw q i hq hi).1 j
theorem SSt.below {W':World} (h:SSt l W1 L m W) (hb:Below W.heap.size W W'):SSt l W1 L m W' :=
 ⟨fun k hk=>(hb.block k (Nat.lt_of_lt_of_le hk.1 h.le)).trans (h.st k hk),fun q i hq hi=>⟨blk_below (h.rw q i hq hi).1 hb,(h.rw q i hq hi).2⟩,Nat.le_trans h.le hb.size⟩
theorem SSt.put (h:SSt l W1 L m W) (ok:LayOk l w0 W1 g s L) {q i:Nat} (hq:q < l.N) (hi:i < L) (j:Nat) (v:Int):SSt l W1 L (upd m q i ((m q i).set j v)) (W.setCell ⟨l.rb q i,j,none⟩ (.int .i64 v)):=by
 refine ⟨fun k hk=>?_,fun q' i' hq' hi' => ?_,by simpa using h.le⟩
 ·exact (Below.heap_setCell W _ _ k (hk.2 q i hq hi)).trans (h.st k hk)
 ·by_cases e:q'=q∧i'=i
  ·obtain ⟨rfl,rfl⟩:=e
   rw [upd_self]
   refine ⟨blk_put (h.rw _ _ hq hi).1 j _ ?_,by rw [List.length_set];exact (h.rw _ _ hq hi).2⟩
   simp [nums,List.map_set]
  ·rw [upd_ne _ _ e]
   refine ⟨blk_far (h.rw q' i' hq' hi').1 (fun hr=>e ?_) _,(h.rw q' i' hq' hi').2⟩
   exact ok.inj q' i' q i hq' hi' hq hi hr
end
def Gs (L:Nat) (T:Nat→Nat→Nat→Bool) (m:Nat→Nat→List Int) (lo hi:Nat):Prop :=
 ∀ q i j,lo≤q→q < hi→i≤j→j < L→(m q i).getD j 0=0∨(m q i).getD j 0=if T q i j=true then 1 else 2
def Ss (L:Nat) (m m':Nat→Nat→List Int) (lo hi:Nat):Prop :=
 ∀ q i j,¬ (lo≤q∧q < hi)→i≤j→j < L→(m' q i).getD j 0=(m q i).getD j 0
theorem Ss.refl (L:Nat) (m:Nat→Nat→List Int) (lo hi:Nat):Ss L m m lo hi:=fun _ _ _ _ _ _=>rfl
theorem Ss.next {L:Nat} {m m' m2:Nat→Nat→List Int} {lo hi lo' hi':Nat} (h:Ss L m m' lo hi) (h':Ss L m' m2 lo' hi') (h1:lo≤lo') (h2:hi'≤hi):Ss L m m2 lo hi :=
 fun q i j hq h3 h4=>(h' q i j (by omega) h3 h4).trans (h q i j hq h3 h4)
theorem Gs.sub {L:Nat} {T:Nat→Nat→Nat→Bool} {m:Nat→Nat→List Int} {lo hi lo' hi':Nat} (h:Gs L T m lo hi) (h1:lo≤lo') (h2:hi'≤hi):Gs L T m lo' hi' :=
 fun q i j h3 h4=>h q i j (by omega) (by omega)
theorem Gs.next {L:Nat} {T:Nat→Nat→Nat→Bool} {m m':Nat→Nat→List Int} {lo hi lo' hi':Nat} (h:Gs L T m lo hi) (h':Gs L T m' lo' hi') (hs:Ss L m m' lo' hi'):Gs L T m' lo hi:=by
 intro q i j h1 h2 h3 h4
 by_cases h5:lo'≤q∧q < hi'
 ·exact h' q i j h5.1 h5.2 h3 h4
 ·rw [hs q i j h5 h3 h4];exact h q i j h1 h2 h3 h4
def SPost (l:Lay) (w0 W1:World) (L:Nat) (T:Nat→Nat→Nat→Bool) (m:Nat→Nat→List Int) (lo hi:Nat) (r:Value) (e:Ending) (W':World):Prop :=
 e = .returned r∧∃ m',SSt l W1 L m' W'∧Gs L T m' lo hi∧Ss L m m' lo hi∧Below w0.heap.size w0 W'
theorem bit_calls (a0:Bool) (w:World):Calls Tryz.prog 113 #[.bool a0] w fun e w'=>e = .returned (.int .i64 (if a0=true then 1 else 0))∧∃ nd,w'=w.drewN nd:=by
 cases a0
 all_goals
  go_enter Tryz.func113,Tryz.ntmps113
  go_wp2
  go_ret
  exact ⟨za54,by first|exact ⟨0,rfl⟩|exact ⟨1,rfl⟩|exact ⟨2,rfl⟩⟩
theorem getD_lt {r:List Int} {j:Nat} {v:Int} (h:j < r.length):(r.set j v).getD j 0=v:=by
 rw [List.getD_eq_getElem?_getD,List.getElem?_set_self h];rfl
theorem getD_ne {r:List Int} {i j:Nat} (v:Int) (h:i ≠ j):(r.set i v).getD j 0=r.getD j 0:=by
 rw [List.getD_eq_getElem?_getD,List.getD_eq_getElem?_getD,List.getElem?_set_ne h]
section
variable (l : Lay) (w0 W1 : World) (g : Nat) (s : ByteArray) (L : Nat) (ok : LayOk l w0 W1 g s L) (T : Nat → Nat → Nat → Bool) (lo q i j : Nat) (hlo : lo ≤ q) (hq : q < l.N) (hij : i ≤ j) (hj : j < L) (r : Bool) (hT : T q i j = r)
 (m:Nat→Nat→List Int) (W:World) (hS:SSt l W1 L m W) (hB:Below w0.heap.size w0 W)
include ok hlo hq hij hj hT hS hB
set_option maxHeartbeats 4000000 in
theorem is_known (hG:Gs L T m lo (q+1)) (hv:(m q i).getD j 0 ≠ 0) :
  Calls Tryz.prog 134 #[.pointer (some ⟨g,0,none⟩),.int .i64 (q:Int),.int .i64 (i:Int),.int .i64 (j:Int)] W (SPost l w0 W1 L T m lo (q+1) (.bool r)):=by
 have hr:(m q i).getD j 0=if r=true then 1 else 2:=by
  rcases hG q i j hlo (by omega) hij hj with h|h
  ·exact absurd h hv
  ·rw [h,hT]
 have HS:=zk hS
 have HB:=zk hB
 have HG:=zk hG
 obtain ⟨z0,z1,z2,z3,f0,f1,f2,f3⟩:=blk4 (hS.z ok)
 have c0:=hS.m0 ok hq
 have c1:=hS.m1 ok hq (show i < L by omega)
 have c2:=hS.m2 hq (show i < L by omega) hj
 have q1:=eq_true hq
 have q2:=eq_true (show i < L by omega)
 have q3:=eq_true hj
 rw [hr] at c2
 clear hS hB hG hv hr hq hj hT
 cases r
 all_goals
  simp only [if_true,Bool.false_eq_true,if_false] at c2
  go_enter Tryz.func134,Tryz.ntmps134
  go_wp2
  go_ret
  exact ⟨rfl,m,HS.out,HG.out,Ss.refl _ _ _ _,HB.out⟩
set_option maxHeartbeats 4000000 in
theorem is_find (hk:(l.kd q == 8)=false) (hG:Gs L T m lo (q+1)) (hv:(m q i).getD j 0=0)
  (hf:∀ (m:Nat→Nat→List Int) (W:World),SSt l W1 L m W→Gs L T m lo q→Below w0.heap.size w0 W→Calls Tryz.prog 142 #[.pointer (some ⟨g,0,none⟩),.int .i64 (q:Int),.int .i64 (i:Int),.int .i64 (j:Int)] W (SPost l w0 W1 L T m lo q (.bool r))) :
  Calls Tryz.prog 134 #[.pointer (some ⟨g,0,none⟩),.int .i64 (q:Int),.int .i64 (i:Int),.int .i64 (j:Int)] W (SPost l w0 W1 L T m lo (q+1) (.bool r)):=by
 have hi:i < L:=by omega
 have HS:=zk hS
 have HB:=zk hB
 have HG:=zk hG
 have HF:=zk (hf m W hS (hG.sub (Nat.le_refl _) (Nat.le_succ _)) hB)
 have HF0:=zk (fun (W':World) (hS':SSt l W1 L m W') (hB':Below w0.heap.size w0 W')=>hf m W' hS' (hG.sub (Nat.le_refl _) (Nat.le_succ _)) hB')
 have HBit:=zk (fun (W':World)=>bit_calls r W')
 have HE:Aside0 (∀ (m5:Nat→Nat→List Int),(m5 q i).length=L→Gs L T m5 lo q→Ss L m m5 lo q→Gs L T (upd m5 q i ((m5 q i).set j (if r=true then 1 else 2))) lo (q+1)∧Ss L m (upd m5 q i ((m5 q i).set j (if r=true then 1 else 2))) lo (q+1)):=⟨by
  intro m5 h5 hG5 hS5
  refine ⟨fun q' i' j' h1 h2 h3 h4=>?_,fun q' i' j' h1 h3 h4=>?_⟩
  ·by_cases e:q'=q∧i'=i
   ·obtain ⟨rfl,rfl⟩:=e
    rw [upd_self]
    by_cases e2:j=j'
    ·subst e2
     rw [getD_lt (by omega),hT]
     exact .inr rfl
    ·rw [getD_ne _ e2,hS5 q' i' j' (by omega) h3 h4]
     exact hG q' i' j' h1 h2 h3 h4
   ·rw [upd_ne _ _ e]
    by_cases e2:q' < q
    ·exact hG5 q' i' j' h1 e2 h3 h4
    ·rw [hS5 q' i' j' (by omega) h3 h4]
     exact hG q' i' j' h1 h2 h3 h4
  ·rw [upd_ne _ _ (fun e=>h1 (by omega))]
   exact hS5 q' i' j' (by omega) h3 h4⟩
 obtain ⟨z0,z1,z2,z3,f0,f1,f2,f3⟩:=blk4 (hS.z ok)
 have c0:=hS.m0 ok hq
 have c1:=hS.m1 ok hq hi
 have c2:=hS.m2 hq hi hj
 have n0:=hS.n0 ok hq
 have q1:=eq_true hq
 have q2:=eq_true hi
 have q3:=eq_true hj
 have Hq:=zk hq
 have Hi:=zk hi
 have Hj:=zk hj
 rw [hv] at c2
 clear hS hB hG hv hq hj hT hf hi
 have e0:=ok.sg.2 q i Hq.out Hi.out
 have e1:=ok.sm.2 q i Hq.out Hi.out
 have e2:=(ok.st q Hq.out).2 q i Hq.out Hi.out
 have ST:∀ W':World,SSt l W1 L m W'→SSt l W1 L m W'.drew:=fun _ h=>⟨h.st,h.rw,h.le⟩
 have HST:=zk ST
 clear ST
 cases r
 ·simp only [if_true,Bool.false_eq_true,if_false] at HBit HE
  go_enter Tryz.func134,Tryz.ntmps134
  go_upto_region 4 with (fail)
  go_cut [] (fun wc=>∃ m5,Aside0 (SSt l W1 L m5 wc)∧Aside0 (Gs L T m5 lo (q+1))∧Aside0 (Ss L m m5 lo (q+1))∧Aside0 ((m5 q i).getD j 0=2)∧Aside0 (Below w0.heap.size w0 wc))
  case first =>
   clear n0 c2
   go_region_held3 (fun w'=>w'.cell? ⟨g,3,none⟩=some (.slice (some ⟨l.bm,0,none⟩) l.N l.cm)∧w'.cell? ⟨l.bm,q,none⟩=some (.slice (some ⟨l.tb q,0,none⟩) L (l.tc q))∧w'.cell? ⟨l.tb q,i,none⟩=some (.slice (some ⟨l.rb q i,0,none⟩) L L)) (first|go_keep|exact ⟨(cell_far e0 _).trans y3,(cell_far e1 _).trans d0,(cell_far e2 _).trans d1⟩)
    (first
     | (go_at_call 142;refine (HF0.out _ (HST.out _ HS.out) (below_drew HB.out)).mono ?_;rintro e w5 ⟨rfl,m5,S5,G5,SS5,B5⟩;have M5:=zk S5;have N5:=zk G5;have P5:=zk SS5;have Q5:=zk B5;clear S5 G5 SS5 B5;obtain ⟨y0,y1,y2,y3,g0,g1,g2,g3⟩:=blk4 (M5.out.z ok);have d0:=M5.out.m0 ok Hq.out;have d1:=M5.out.m1 ok Hq.out Hi.out;have d2:=M5.out.fr Hq.out Hi.out j;have d3:=M5.out.m2 Hq.out Hi.out Hj.out;generalize (m5 q i).getD j 0=vv at d3)
     | (go_at_call 113;refine (HBit.out _).mono ?_;rintro e w6 ⟨rfl,⟨nd,rfl⟩⟩))
   try go_wp2
   go_meet
   case rel =>
    have hl5:=(M5.out.rw q i Hq.out Hi.out).2
    have he:=HE.out m5 hl5 N5.out P5.out
    rw [show IntKind.i64.wrap 2=2 by decide]
    exact ⟨_,⟨(show SSt l W1 L m5 (w5.drewN nd) from ⟨M5.out.st,M5.out.rw,M5.out.le⟩).put ok Hq.out Hi.out j _⟩,⟨he.1⟩,⟨he.2⟩,⟨by rw [upd_self,getD_lt (by have:=Hj.out;omega)]⟩,⟨(show Below w0.heap.size w0 (w5.drewN nd) from pw_below_drewN Q5.out nd).setCell (ok.lo q i Hq.out Hi.out) _⟩⟩
  case rest =>
   clear z0 z1 z2 z3 f0 f1 f2 f3 c0 c1 c2 n0
   obtain ⟨m5,M5,N5,P5,V5,Q5⟩:=hcut
   obtain ⟨z0,z1,z2,z3,f0,f1,f2,f3⟩:=blk4 (M5.out.z ok)
   have c0:=M5.out.m0 ok Hq.out
   have c1:=M5.out.m1 ok Hq.out Hi.out
   have c2:=M5.out.m2 Hq.out Hi.out Hj.out
   rw [V5.out] at c2
   go_wp2
   go_ret
   exact ⟨rfl,m5,M5.out,N5.out,P5.out,Q5.out⟩
 ·simp only [if_true,Bool.false_eq_true,if_false] at HBit HE
  go_enter Tryz.func134,Tryz.ntmps134
  go_upto_region 4 with (fail)
  go_cut [] (fun wc=>∃ m5,Aside0 (SSt l W1 L m5 wc)∧Aside0 (Gs L T m5 lo (q+1))∧Aside0 (Ss L m m5 lo (q+1))∧Aside0 ((m5 q i).getD j 0=1)∧Aside0 (Below w0.heap.size w0 wc))
  case first =>
   clear n0 c2
   go_region_held3 (fun w'=>w'.cell? ⟨g,3,none⟩=some (.slice (some ⟨l.bm,0,none⟩) l.N l.cm)∧w'.cell? ⟨l.bm,q,none⟩=some (.slice (some ⟨l.tb q,0,none⟩) L (l.tc q))∧w'.cell? ⟨l.tb q,i,none⟩=some (.slice (some ⟨l.rb q i,0,none⟩) L L)) (first|go_keep|exact ⟨(cell_far e0 _).trans y3,(cell_far e1 _).trans d0,(cell_far e2 _).trans d1⟩)
    (first
     | (go_at_call 142;refine (HF0.out _ (HST.out _ HS.out) (below_drew HB.out)).mono ?_;rintro e w5 ⟨rfl,m5,S5,G5,SS5,B5⟩;have M5:=zk S5;have N5:=zk G5;have P5:=zk SS5;have Q5:=zk B5;clear S5 G5 SS5 B5;obtain ⟨y0,y1,y2,y3,g0,g1,g2,g3⟩:=blk4 (M5.out.z ok);have d0:=M5.out.m0 ok Hq.out;have d1:=M5.out.m1 ok Hq.out Hi.out;have d2:=M5.out.fr Hq.out Hi.out j;have d3:=M5.out.m2 Hq.out Hi.out Hj.out;generalize (m5 q i).getD j 0=vv at d3)
     | (go_at_call 113;refine (HBit.out _).mono ?_;rintro e w6 ⟨rfl,⟨nd,rfl⟩⟩))
   try go_wp2
   go_meet
   case rel =>
    have hl5:=(M5.out.rw q i Hq.out Hi.out).2
    have he:=HE.out m5 hl5 N5.out P5.out
    rw [show IntKind.i64.wrap 1=1 by decide]
    exact ⟨_,⟨(show SSt l W1 L m5 (w5.drewN nd) from ⟨M5.out.st,M5.out.rw,M5.out.le⟩).put ok Hq.out Hi.out j _⟩,⟨he.1⟩,⟨he.2⟩,⟨by rw [upd_self,getD_lt (by have:=Hj.out;omega)]⟩,⟨(show Below w0.heap.size w0 (w5.drewN nd) from pw_below_drewN Q5.out nd).setCell (ok.lo q i Hq.out Hi.out) _⟩⟩
  case rest =>
   clear z0 z1 z2 z3 f0 f1 f2 f3 c0 c1 c2 n0
   obtain ⟨m5,M5,N5,P5,V5,Q5⟩:=hcut
   obtain ⟨z0,z1,z2,z3,f0,f1,f2,f3⟩:=blk4 (M5.out.z ok)
   have c0:=M5.out.m0 ok Hq.out
   have c1:=M5.out.m1 ok Hq.out Hi.out
   have c2:=M5.out.m2 Hq.out Hi.out Hj.out
   rw [V5.out] at c2
   go_wp2
   go_ret
   exact ⟨rfl,m5,M5.out,N5.out,P5.out,Q5.out⟩
set_option maxHeartbeats 4000000 in
theorem is_star (hk:(l.kd q == 8)=true) (hG:Gs L T m lo (q+1)) (hv:(m q i).getD j 0=0)
  (hf:∀ (m:Nat→Nat→List Int) (W:World),SSt l W1 L m W→Gs L T m lo (q+1)→Below w0.heap.size w0 W→Calls Tryz.prog 141 #[.pointer (some ⟨g,0,none⟩),.int .i64 (q:Int),.int .i64 (i:Int)] W fun e W'=>∃ m',e = .returned (.tuple #[])∧SSt l W1 L m' W'∧Gs L T m' lo (q+1)∧Ss L m m' lo (q+1)∧(∀ k,i≤k→k < L→(m' q i).getD k 0=if T q i k=true then 1 else 2)∧Below w0.heap.size w0 W') :
  Calls Tryz.prog 134 #[.pointer (some ⟨g,0,none⟩),.int .i64 (q:Int),.int .i64 (i:Int),.int .i64 (j:Int)] W (SPost l w0 W1 L T m lo (q+1) (.bool r)):=by
 have hi:i < L:=by omega
 have HF:=zk (hf m W hS hG hB)
 have HT:=zk hT
 obtain ⟨z0,z1,z2,z3,f0,f1,f2,f3⟩:=blk4 (hS.z ok)
 have c0:=hS.m0 ok hq
 have c1:=hS.m1 ok hq hi
 have c2:=hS.m2 hq hi hj
 have n0:=hS.n0 ok hq
 have q1:=eq_true hq
 have q2:=eq_true hi
 have q3:=eq_true hj
 have Hq:=zk hq
 have Hi:=zk hi
 have Hj:=zk hj
 rw [hv] at c2
 clear hS hB hG hv hq hj hT hf hi
 cases r
 all_goals
  go_enter Tryz.func134,Tryz.ntmps134
  go_wp2_with (go_at_call 141;(with_reducible refine HF.out.mono ?_);rintro e w5 ⟨m5,rfl,S5,G5,SS5,V5,B5⟩;have M5:=zk S5;have N5:=zk G5;have P5:=zk SS5;have Q5:=zk B5;have d2:=M5.out.m2 Hq.out Hi.out Hj.out;rw [V5 j hij Hj.out,HT.out] at d2;clear S5 G5 SS5 V5 B5 z0 z1 z2 z3 f0 f1 f2 f3 c0 c1 c2 n0;simp only [if_true,Bool.false_eq_true,if_false] at d2;obtain ⟨z0,z1,z2,z3,f0,f1,f2,f3⟩:=blk4 (M5.out.z ok);have c0:=M5.out.m0 ok Hq.out;have c1:=M5.out.m1 ok Hq.out Hi.out)
  go_ret
  exact ⟨rfl,m5,M5.out,N5.out,P5.out,Q5.out⟩
end
def IC (l:Lay) (w0 W1:World) (g:Nat) (s:ByteArray) (L:Nat) (T:Nat→Nat→Nat→Bool) (t:Rx) (p lo:Nat):Prop :=
 ∀ (i j:Nat) (pv iv jv:Int) (m:Nat→Nat→List Int) (W:World),pv=(p:Int)→iv=(i:Int)→jv=(j:Int)→i≤j→j < L→SSt l W1 L m W→Gs L T m lo (p+1)→Below w0.heap.size w0 W →
  Calls Tryz.prog 134 #[.pointer (some ⟨g,0,none⟩),.int .i64 pv,.int .i64 iv,.int .i64 jv] W (SPost l w0 W1 L T m lo (p+1) (.bool (mt s t i j)))
section
variable (l : Lay) (w0 W1 : World) (g : Nat) (s : ByteArray) (L : Nat) (ok : LayOk l w0 W1 g s L) (hsL : s.size + 1 = L) (hL : L ≤ 401) (T : Nat → Nat → Nat → Bool) (lo q i j : Nat) (hlo : lo ≤ q) (hq : q < l.N) (hij : i ≤ j) (hj : j < L)
 (m:Nat→Nat→List Int) (W:World) (hS:SSt l W1 L m W) (hB:Below w0.heap.size w0 W) (hG:Gs L T m lo q)
include ok hsL hL hlo hq hij hj hS hB hG
set_option maxHeartbeats 4000000 in
theorem sfind_leaf (r:Bool) (hk:(l.kd q=1∧r=false)∨(l.kd q=2∧r=(i == j))∨(l.kd q=4∧r=(j == i+1))∨(l.kd q=3∧r=((s.extract i j).toList == (l.lt q).toList))) :
  Calls Tryz.prog 142 #[.pointer (some ⟨g,0,none⟩),.int .i64 (q:Int),.int .i64 (i:Int),.int .i64 (j:Int)] W (SPost l w0 W1 L T m lo q (.bool r)):=by
 have HS:=zk hS
 have HB:=zk hB
 have HG:=zk hG
 obtain ⟨z0,z1,z2,z3,f0,f1,f2,f3⟩:=blk4 (hS.z ok)
 have n0:=hS.n0 ok hq
 have n1:=hS.n1 ok hq
 have c0:=hS.a0 ok hq
 have q1:=eq_true hq
 have Hq:=zk hq
 have e1:((i:Int) == (j:Int))=(i == j):=by rw [Bool.eq_iff_iff];simp;omega
 have e2:((j:Int) == (i:Int)+1)=(j == i+1):=by rw [Bool.eq_iff_iff];simp;omega
 have hi9:i≤401:=by omega
 have hjs:=eq_true (show j≤s.size by omega)
 have hij2:=eq_true hij
 clear hS hB hG hq hij hj
 rcases hk with ⟨hk,rfl⟩|⟨hk,rfl⟩|⟨hk,rfl⟩|⟨hk,rfl⟩
 all_goals
  rw [hk] at n0
  clear hk
  go_enter Tryz.func142,Tryz.ntmps142
  go_wp2
  repeat (go_quiet (fail);try go_wp2)
  go_ret
  exact ⟨za40,m,⟨HS.out.st,HS.out.rw,HS.out.le⟩,HG.out,Ss.refl _ _ _ _,by repeat (first|exact HB.out|apply pw_below_drewN)⟩
set_option maxHeartbeats 4000000 in
theorem sfind_not (t:Rx) (a:Nat) (hk:l.kd q=9) (har:l.ar q = [(a:Int)]) (h1:lo≤a) (h3:a+1=q) (hx:IC l w0 W1 g s L T t a lo) :
  Calls Tryz.prog 142 #[.pointer (some ⟨g,0,none⟩),.int .i64 (q:Int),.int .i64 (i:Int),.int .i64 (j:Int)] W (SPost l w0 W1 L T m lo q (.bool (!mt s t i j))):=by
 have HS:=zk hS
 have HB:=zk hB
 have HG:=zk hG
 obtain ⟨z0,z1,z2,z3,f0,f1,f2,f3⟩:=blk4 (hS.z ok)
 have n0:=hS.n0 ok hq
 have n1:=hS.n1 ok hq
 have c0:=hS.a0 ok hq
 have q1:=eq_true hq
 have Hq:=zk hq
 obtain ⟨ab,ha,hst,x0⟩:=ok.a1 q hq 0 (by rw [har];simp)
 rw [har] at x0 c0
 rw [ha] at c0
 simp only [List.getD_cons_zero,List.length_cons,List.length_nil,Nat.zero_add] at x0 c0
 have y0:=hS.cell_ hst x0
 have HX:=zk (hx i j (a:Int) i j m W rfl rfl rfl hij hj hS (hG.sub (Nat.le_refl _) (by omega)) hB)
 have HN:=zk (show lo≤a∧a+1=q from ⟨h1,h3⟩)
 clear hS hB hG hq hij hj x0 hst ha har hx h1 h3
 rw [hk] at n0
 clear hk
 go_enter Tryz.func142,Tryz.ntmps142
 go_wp2_with (go_at_call 134;(with_reducible refine HX.out.mono ?_);rintro e w7 ⟨rfl,m7,S7,G7,SS7,B7⟩;have M7:=zk S7;have N7:=zk (HG.out.next G7 SS7);have P7:=zk (Ss.next (Ss.refl L m lo q) SS7 za25 za25);have Q7:=zk B7;clear S7 G7 SS7 B7)
 go_ret
 exact ⟨rfl,m7,M7.out,N7.out,P7.out,Q7.out⟩
set_option maxHeartbeats 4000000 in
theorem sfind_or (t u:Rx) (a b:Nat) (hk:l.kd q=6) (har:l.ar q = [(a:Int),(b:Int)]) (h1:lo≤a) (h2:a < b) (h3:b+1=q) (hx:IC l w0 W1 g s L T t a lo) (hy:IC l w0 W1 g s L T u b (a+1)) :
  Calls Tryz.prog 142 #[.pointer (some ⟨g,0,none⟩),.int .i64 (q:Int),.int .i64 (i:Int),.int .i64 (j:Int)] W (SPost l w0 W1 L T m lo q (.bool (mt s t i j || mt s u i j))):=by
 have HS:=zk hS
 have HB:=zk hB
 have HG:=zk hG
 obtain ⟨z0,z1,z2,z3,f0,f1,f2,f3⟩:=blk4 (hS.z ok)
 have n0:=hS.n0 ok hq
 have n1:=hS.n1 ok hq
 have c0:=hS.a0 ok hq
 have q1:=eq_true hq
 have Hq:=zk hq
 obtain ⟨ab,ha,hst,x0⟩:=ok.a1 q hq 0 (by rw [har];simp)
 obtain ⟨ab',ha',_,x1⟩:=ok.a1 q hq 1 (by rw [har];simp)
 obtain rfl:ab=ab':=by rw [ha] at ha';injection ha' with h;injection h
 clear ha'
 rw [har] at x0 x1 c0
 rw [ha] at c0
 simp only [List.getD_cons_zero,List.getD_cons_succ,List.length_cons,List.length_nil,Nat.zero_add,Nat.reduceAdd] at x0 x1 c0
 have X0:=zk x0
 have X1:=zk x1
 have HST:=zk hst
 have y0:=hS.cell_ hst x0
 have y1:=hS.cell_ hst x1
 have HN:=zk (show lo≤a∧a < b∧b+1=q from ⟨h1,h2,h3⟩)
 have HX:=zk (fun (m':Nat→Nat→List Int) (W':World) (hS':SSt l W1 L m' W') (hG':Gs L T m' lo q) (hB':Below w0.heap.size w0 W')=>hx i j (a:Int) i j m' W' rfl rfl rfl hij hj hS' (hG'.sub (Nat.le_refl _) (by omega)) hB')
 have HY:=zk (fun (m':Nat→Nat→List Int) (W':World) (hS':SSt l W1 L m' W') (hG':Gs L T m' lo q) (hB':Below w0.heap.size w0 W')=>hy i j (b:Int) i j m' W' rfl rfl rfl hij hj hS' (hG'.sub (by omega) (by omega)) hB')
 clear hS hB hG hq hij hj x0 x1 hst ha har hx hy h1 h2 h3
 rw [hk] at n0
 clear hk
 cases hv:mt s t i j
 all_goals go_enter Tryz.func142,Tryz.ntmps142
 ·go_wp2_with (first|(go_at_call 134;(with_reducible refine (HX.out m _ HS.out HG.out HB.out).mono ?_);rintro e w7 ⟨he,m7,S7,G7,SS7,B7⟩;rw [hv] at he;subst he;have M7:=zk S7;have N7:=zk (HG.out.next G7 SS7);have P7:=zk (Ss.next (Ss.refl L m lo q) SS7 za25 za25);have Q7:=zk B7;clear S7 G7 SS7 B7 z0 z1 z2 z3 f0 f1 f2 f3 n0 n1 c0 y0 y1;have y1:=M7.out.cell_ HST.out X1.out)|(go_at_call 134;(with_reducible refine (HY.out m7 _ M7.out N7.out Q7.out).mono ?_);rintro e w8 ⟨rfl,m8,S8,G8,SS8,B8⟩;have M8:=zk S8;have N8:=zk (N7.out.next G8 SS8);have P8:=zk (Ss.next P7.out SS8 za25 za25);have Q8:=zk B8;clear S8 G8 SS8 B8))
  go_ret
  exact ⟨za54,m8,M8.out,N8.out,P8.out,Q8.out⟩
 ·go_wp2_with (go_at_call 134;(with_reducible refine (HX.out m _ HS.out HG.out HB.out).mono ?_);rintro e w7 ⟨he,m7,S7,G7,SS7,B7⟩;rw [hv] at he;subst he;have M7:=zk S7;have N7:=zk (HG.out.next G7 SS7);have P7:=zk (Ss.next (Ss.refl L m lo q) SS7 za25 za25);have Q7:=zk B7;clear S7 G7 SS7 B7 z0 z1 z2 z3 f0 f1 f2 f3 n0 n1 c0 y0 y1;have y1:=M7.out.cell_ HST.out X1.out)
  go_ret
  exact ⟨za54,m7,M7.out,N7.out,P7.out,Q7.out⟩
set_option maxHeartbeats 4000000 in
theorem sfind_and (t u:Rx) (a b:Nat) (hk:l.kd q=7) (har:l.ar q = [(a:Int),(b:Int)]) (h1:lo≤a) (h2:a < b) (h3:b+1=q) (hx:IC l w0 W1 g s L T t a lo) (hy:IC l w0 W1 g s L T u b (a+1)) :
  Calls Tryz.prog 142 #[.pointer (some ⟨g,0,none⟩),.int .i64 (q:Int),.int .i64 (i:Int),.int .i64 (j:Int)] W (SPost l w0 W1 L T m lo q (.bool (mt s t i j && mt s u i j))):=by
 have HS:=zk hS
 have HB:=zk hB
 have HG:=zk hG
 obtain ⟨z0,z1,z2,z3,f0,f1,f2,f3⟩:=blk4 (hS.z ok)
 have n0:=hS.n0 ok hq
 have n1:=hS.n1 ok hq
 have c0:=hS.a0 ok hq
 have q1:=eq_true hq
 have Hq:=zk hq
 obtain ⟨ab,ha,hst,x0⟩:=ok.a1 q hq 0 (by rw [har];simp)
 obtain ⟨ab',ha',_,x1⟩:=ok.a1 q hq 1 (by rw [har];simp)
 obtain rfl:ab=ab':=by rw [ha] at ha';injection ha' with h;injection h
 clear ha'
 rw [har] at x0 x1 c0
 rw [ha] at c0
 simp only [List.getD_cons_zero,List.getD_cons_succ,List.length_cons,List.length_nil,Nat.zero_add,Nat.reduceAdd] at x0 x1 c0
 have X0:=zk x0
 have X1:=zk x1
 have HST:=zk hst
 have y0:=hS.cell_ hst x0
 have y1:=hS.cell_ hst x1
 have HN:=zk (show lo≤a∧a < b∧b+1=q from ⟨h1,h2,h3⟩)
 have HX:=zk (fun (m':Nat→Nat→List Int) (W':World) (hS':SSt l W1 L m' W') (hG':Gs L T m' lo q) (hB':Below w0.heap.size w0 W')=>hx i j (a:Int) i j m' W' rfl rfl rfl hij hj hS' (hG'.sub (Nat.le_refl _) (by omega)) hB')
 have HY:=zk (fun (m':Nat→Nat→List Int) (W':World) (hS':SSt l W1 L m' W') (hG':Gs L T m' lo q) (hB':Below w0.heap.size w0 W')=>hy i j (b:Int) i j m' W' rfl rfl rfl hij hj hS' (hG'.sub (by omega) (by omega)) hB')
 clear hS hB hG hq hij hj x0 x1 hst ha har hx hy h1 h2 h3
 rw [hk] at n0
 clear hk
 cases hv:mt s t i j
 all_goals go_enter Tryz.func142,Tryz.ntmps142
 ·go_wp2_with (go_at_call 134;(with_reducible refine (HX.out m _ HS.out HG.out HB.out).mono ?_);rintro e w7 ⟨he,m7,S7,G7,SS7,B7⟩;rw [hv] at he;subst he;have M7:=zk S7;have N7:=zk (HG.out.next G7 SS7);have P7:=zk (Ss.next (Ss.refl L m lo q) SS7 za25 za25);have Q7:=zk B7;clear S7 G7 SS7 B7 z0 z1 z2 z3 f0 f1 f2 f3 n0 n1 c0 y0 y1;have y1:=M7.out.cell_ HST.out X1.out)
  go_ret
  exact ⟨za54,m7,M7.out,N7.out,P7.out,Q7.out⟩
 ·go_wp2_with (first|(go_at_call 134;(with_reducible refine (HX.out m _ HS.out HG.out HB.out).mono ?_);rintro e w7 ⟨he,m7,S7,G7,SS7,B7⟩;rw [hv] at he;subst he;have M7:=zk S7;have N7:=zk (HG.out.next G7 SS7);have P7:=zk (Ss.next (Ss.refl L m lo q) SS7 za25 za25);have Q7:=zk B7;clear S7 G7 SS7 B7 z0 z1 z2 z3 f0 f1 f2 f3 n0 n1 c0 y0 y1;have y1:=M7.out.cell_ HST.out X1.out)|(go_at_call 134;(with_reducible refine (HY.out m7 _ M7.out N7.out Q7.out).mono ?_);rintro e w8 ⟨rfl,m8,S8,G8,SS8,B8⟩;have M8:=zk S8;have N8:=zk (N7.out.next G8 SS8);have P8:=zk (Ss.next P7.out SS8 za25 za25);have Q8:=zk B8;clear S8 G8 SS8 B8))
  go_ret
  exact ⟨za54,m8,M8.out,N8.out,P8.out,Q8.out⟩
set_option maxHeartbeats 4000000 in
theorem sfind_cat (t u:Rx) (a b:Nat) (hk:l.kd q=5) (har:l.ar q = [(a:Int),(b:Int)]) (h1:lo≤a) (h2:a < b) (h3:b+1=q) (hx:IC l w0 W1 g s L T t a lo) (hy:IC l w0 W1 g s L T u b (a+1)) :
  Calls Tryz.prog 142 #[.pointer (some ⟨g,0,none⟩),.int .i64 (q:Int),.int .i64 (i:Int),.int .i64 (j:Int)] W (SPost l w0 W1 L T m lo q (.bool (exIn (fun k=>mt s t i k && mt s u k j) i j))):=by
 have HS:=zk hS
 have HB:=zk hB
 have HG:=zk hG
 obtain ⟨z0,z1,z2,z3,f0,f1,f2,f3⟩:=blk4 (hS.z ok)
 have n0:=hS.n0 ok hq
 have n1:=hS.n1 ok hq
 have c0:=hS.a0 ok hq
 have q1:=eq_true hq
 have Hq:=zk hq
 obtain ⟨ab,ha,hst,x0⟩:=ok.a1 q hq 0 (by rw [har];simp)
 obtain ⟨ab',ha',_,x1⟩:=ok.a1 q hq 1 (by rw [har];simp)
 obtain rfl:ab=ab':=by rw [ha] at ha';injection ha' with h;injection h
 clear ha'
 rw [har] at x0 x1 c0
 rw [ha] at c0
 simp only [List.getD_cons_zero,List.getD_cons_succ,List.length_cons,List.length_nil,Nat.zero_add,Nat.reduceAdd] at x0 x1 c0
 have X0:=zk x0
 have X1:=zk x1
 have HST:=zk hst
 have y0:=hS.cell_ hst x0
 have y1:=hS.cell_ hst x1
 have HN:=zk (show lo≤a∧a < b∧b+1=q from ⟨h1,h2,h3⟩)
 have HX:=zk (fun (kk:Nat) (m':Nat→Nat→List Int) (W':World) (g1:i≤kk) (g2:kk≤j) (hS':SSt l W1 L m' W') (hG':Gs L T m' lo q) (hB':Below w0.heap.size w0 W')=>hx i kk (a:Int) i kk m' W' rfl rfl rfl g1 (by omega) hS' (hG'.sub (Nat.le_refl _) (by omega)) hB')
 have HY:=zk (fun (kk:Nat) (m':Nat→Nat→List Int) (W':World) (g1:i≤kk) (g2:kk≤j) (hS':SSt l W1 L m' W') (hG':Gs L T m' lo q) (hB':Below w0.heap.size w0 W')=>hy kk j (b:Int) kk j m' W' rfl rfl rfl g2 hj hS' (hG'.sub (by omega) (by omega)) hB')
 have hj9:j≤401:=by omega
 clear hS hB hG hq x0 x1 hst ha har hx hy h1 h2 h3
 rw [hk] at n0
 clear hk
 go_enter Tryz.func142,Tryz.ntmps142
 go_wp2
 clear z0 z1 z2 z3 f0 f1 f2 f3 n0 n1 c0 y0 y1
 go_loopg [10] (j+1 - i) (fun kq v10 w'=>∃ (kk:Nat) (mm:Nat→Nat→List Int),v10 = .int .i64 (kk:Int)∧Aside0 (kk+kq=j+1)∧Aside0 (i≤kk)∧Aside0 (∀ k',i≤k'→k' < kk→(mt s t i k' && mt s u k' j)=false)∧Aside0 (SSt l W1 L mm w')∧Aside0 (Gs L T mm lo q)∧Aside0 (Ss L m mm lo q)∧Aside0 (Below w0.heap.size w0 w'))
 case atStart=>exact ⟨i,m,rfl,⟨by omega⟩,⟨Nat.le_refl _⟩,⟨fun k' h1 h2=>by omega⟩,HS,HG,⟨Ss.refl _ _ _ _⟩,HB⟩
 case round =>
  clear HS HG HB
  obtain ⟨kk,mm,rfl,HQ,HK1,HE,HS,HG,HP,HB⟩:=hrel
  have y0:=HS.out.cell_ HST.out X0.out
  have y1:=HS.out.cell_ HST.out X1.out
  by_cases hle:kk≤j
  ·have HK2:=zk hle
   have hd:decide (kk≤j)=true:=decide_eq_true hle
   clear hle
   have hk9:kk≤401:=by have:=HK2.out;omega
   cases gk with
   | zero=>exact absurd HQ.out za50
   | succ k1 =>
    cases hv:mt s t i kk
    ·go_wp2_with (go_at_call 134;(with_reducible refine (HX.out kk mm _ HK1.out HK2.out HS.out HG.out HB.out).mono ?_);rintro e w7 ⟨he,m7,S7,G7,SS7,B7⟩;rw [hv] at he;subst he;have M7:=zk S7;have N7:=zk (HG.out.next G7 SS7);have P7:=zk (Ss.next HP.out SS7 za25 za25);have Q7:=zk B7;clear S7 G7 SS7 B7 y0 y1;have y1:=M7.out.cell_ HST.out X1.out)
     go_roundg k1
     case measure=>omega
     case rel=>exact ⟨kk+1,m7,za54,⟨za48⟩,⟨za17⟩,⟨fun k' h1 h2=>by
       by_cases e:k'=kk
       ·subst e;rw [hv];rfl
       ·exact HE.out k' h1 (by omega)⟩,M7,N7,P7,Q7⟩
    ·cases hv2:mt s u kk j
     ·go_wp2_with (first|(go_at_call 134;(with_reducible refine (HX.out kk mm _ HK1.out HK2.out HS.out HG.out HB.out).mono ?_);rintro e w7 ⟨he,m7,S7,G7,SS7,B7⟩;rw [hv] at he;subst he;have M7:=zk S7;have N7:=zk (HG.out.next G7 SS7);have P7:=zk (Ss.next HP.out SS7 za25 za25);have Q7:=zk B7;clear S7 G7 SS7 B7 y0 y1;have y1:=M7.out.cell_ HST.out X1.out)|(go_at_call 134;(with_reducible refine (HY.out kk m7 _ HK1.out HK2.out M7.out N7.out Q7.out).mono ?_);rintro e w8 ⟨he,m8,S8,G8,SS8,B8⟩;rw [hv2] at he;subst he;have M8:=zk S8;have N8:=zk (N7.out.next G8 SS8);have P8:=zk (Ss.next P7.out SS8 za25 za25);have Q8:=zk B8;clear S8 G8 SS8 B8))
      go_roundg k1
      case measure=>omega
      case rel=>exact ⟨kk+1,m8,za54,⟨za48⟩,⟨za17⟩,⟨fun k' h1 h2=>by
        by_cases e:k'=kk
        ·subst e;rw [hv,hv2];rfl
        ·exact HE.out k' h1 (by omega)⟩,M8,N8,P8,Q8⟩
     ·go_wp2_with (first|(go_at_call 134;(with_reducible refine (HX.out kk mm _ HK1.out HK2.out HS.out HG.out HB.out).mono ?_);rintro e w7 ⟨he,m7,S7,G7,SS7,B7⟩;rw [hv] at he;subst he;have M7:=zk S7;have N7:=zk (HG.out.next G7 SS7);have P7:=zk (Ss.next HP.out SS7 za25 za25);have Q7:=zk B7;clear S7 G7 SS7 B7 y0 y1;have y1:=M7.out.cell_ HST.out X1.out)|(go_at_call 134;(with_reducible refine (HY.out kk m7 _ HK1.out HK2.out M7.out N7.out Q7.out).mono ?_);rintro e w8 ⟨he,m8,S8,G8,SS8,B8⟩;rw [hv2] at he;subst he;have M8:=zk S8;have N8:=zk (N7.out.next G8 SS8);have P8:=zk (Ss.next P7.out SS8 za25 za25);have Q8:=zk B8;clear S8 G8 SS8 B8))
      go_ret
      exact ⟨by rw [(exIn_iff _ _ _).2 ⟨kk,HK1.out,HK2.out,by rw [hv,hv2];rfl⟩];rfl,m8,M8.out,N8.out,P8.out,Q8.out⟩
  ·have hd:decide (kk≤j)=false:=decide_eq_false hle
   have HF:exIn (fun k=>mt s t i k && mt s u k j) i j=false:=by
    rw [Bool.eq_false_iff]
    intro h
    obtain ⟨k',h1,h2,h3⟩:=(exIn_iff _ _ _).1 h
    rw [HE.out k' h1 (by omega)] at h3
    exact absurd h3 (by simp)
   have HF2:=zk HF
   clear hle HF
   go_wp2
   go_ret
   exact ⟨by rw [HF2.out];rfl,mm,HS.out,HG.out,HP.out,HB.out⟩
end
def tv (b:Bool):Int:=if b=true then 1 else 2
theorem tv_true:tv true=1:=rfl
theorem tv_false:tv false=2:=rfl
section
variable (l : Lay) (w0 W1 : World) (g : Nat) (s : ByteArray) (L : Nat) (ok : LayOk l w0 W1 g s L) (hsL : s.size + 1 = L) (hL : L ≤ 401) (T : Nat → Nat → Nat → Bool) (lo q i : Nat) (hlo : lo ≤ q) (hq : q < l.N) (hi : i < L)
 (t:Rx) (a:Nat) (har:l.ar q = [(a:Int)]) (h1:lo≤a) (h3:a+1=q) (hx:IC l w0 W1 g s L T t a lo) (hT:∀ i j,T q i j=mt s (.star t) i j)
 (m:Nat→Nat→List Int) (W:World) (hS:SSt l W1 L m W) (hB:Below w0.heap.size w0 W) (hG:Gs L T m lo (q+1))
include ok hsL hL hlo hq hi har h1 h3 hx hT hS hB hG
theorem star_calls:Calls Tryz.prog 141 #[.pointer (some ⟨g,0,none⟩),.int .i64 (q:Int),.int .i64 (i:Int)] W fun e W'=>∃ m',e = .returned (.tuple #[])∧SSt l W1 L m' W'∧Gs L T m' lo (q+1)∧Ss L m m' lo (q+1)∧(∀ k,i≤k→k < L→(m' q i).getD k 0=if T q i k=true then 1 else 2)∧Below w0.heap.size w0 W':=by
 obtain ⟨ab,ha,hst,x0⟩:=ok.a1 q hq 0 (by rw [har];simp)
 have hac:l.aA q=some ⟨ab,0,none⟩:=ha
 have hal:(l.ar q).length=1:=by rw [har];rfl
 rw [har] at x0
 simp only [List.getD_cons_zero] at x0
 have X0:=zk x0
 have HST:=zk hst
 have HAC:Aside0 (∀ μ W',SSt l W1 L μ W'→W'.cell? ⟨l.ba,q,none⟩=some (.slice (some ⟨ab,0,none⟩) 1 (l.ac q))):=⟨fun μ W' h=>by have:=h.a0 ok hq;rwa [hac,hal] at this⟩
 have HS:=zk hS
 have HB:=zk hB
 have HG:=zk hG
 have Hq:=zk hq
 have Hi:=zk hi
 have q1:=eq_true hq
 have q2:=eq_true hi
 have HN:=zk (show lo≤a∧a+1=q from ⟨h1,h3⟩)
 have HX:=zk (fun (p kk:Nat) (m':Nat→Nat→List Int) (W':World) (g1:p≤kk) (g2:kk < L) (hS':SSt l W1 L m' W') (hG':Gs L T m' lo q) (hB':Below w0.heap.size w0 W')=>hx p kk (a:Int) p kk m' W' rfl rfl rfl g1 g2 hS' (hG'.sub (Nat.le_refl _) (by omega)) hB')
 have HT:=zk hT
 have HBt:=zk (fun (W':World)=>bit_calls true W')
 have HBf:=zk (fun (W':World)=>bit_calls false W')
 have HL:=zk hL
 have hi9:i≤401:=by omega
 clear hS hB hG hq hi x0 hst ha har hx h1 h3 hac hal hT hL
 go_enter Tryz.func141,Tryz.ntmps141
 go_wp2
 go_loopg [6] (L - i) (fun kq v6 w'=>∃ (kk:Nat) (μ:Nat→Nat→List Int),v6 = .int .i64 (kk:Int)∧Aside0 (kk+kq=L)∧Aside0 (i≤kk)∧Aside0 (∀ k,i≤k→k < kk→(μ q i).getD k 0=tv (mt s (.star t) i k))∧Aside0 (SSt l W1 L μ w')∧Aside0 (Gs L T μ lo (q+1))∧Aside0 (Ss L m μ lo (q+1))∧Aside0 (Below w0.heap.size w0 w'))
 case atStart=>exact ⟨i,m,rfl,⟨by have:=Hi.out;omega⟩,⟨Nat.le_refl _⟩,⟨fun k h1 h2=>by omega⟩,HS,HG,⟨Ss.refl _ _ _ _⟩,HB⟩
 case round =>
  clear HS HG HB
  obtain ⟨kk,μ,rfl,HQ,HK1,HE,HS,HG,HP,HB⟩:=hrel
  obtain ⟨z0,z1,z2,z3,f0,f1,f2,f3⟩:=blk4 (HS.out.z ok)
  by_cases hle:kk≤s.size
  ·have HK2:=zk (show kk < L by omega)
   have hd:decide (kk≤s.size)=true:=decide_eq_true hle
   have q3:=eq_true (show kk < L by omega)
   clear hle
   have hk9:kk≤401:=by have:=HK2.out;have:=HL.out;omega
   cases gk with
   | zero=>exact absurd HQ.out za50
   | succ k1 =>
    have c0:=HS.out.m0 ok Hq.out
    have c1:=HS.out.m1 ok Hq.out Hi.out
    have c2:=HS.out.m2 Hq.out Hi.out HK2.out
    generalize (μ q i).getD kk 0=vv at c2
    have d2:=HS.out.fr Hq.out Hi.out kk
    have e0:=ok.sg.2 q i Hq.out Hi.out
    have e1:=ok.sm.2 q i Hq.out Hi.out
    have e2:=(ok.st q Hq.out).2 q i Hq.out Hi.out
    go_upto_region 3 with (fail)
    go_cut [] (fun wc=>∃ μ2,Aside0 (SSt l W1 L μ2 wc)∧Aside0 (∀ q' i' j',¬ (q'=q∧i'=i∧j'=kk)→(μ2 q' i').getD j' 0=(μ q' i').getD j' 0)∧Aside0 ((μ2 q i).getD kk 0=if kk=i then 1 else 2)∧Aside0 (Below w0.heap.size w0 wc))
    case first =>
     by_cases hki:kk=i
     ·have hb1:((kk:Int) == (i:Int))=true:=by simp;omega
      have hb2:(kk == i)=true:=by simpa using hki
      have HKI:=zk hki
      clear hki
      go_region_held3 (fun w'=>w'.cell? ⟨g,3,none⟩=some (.slice (some ⟨l.bm,0,none⟩) l.N l.cm)∧w'.cell? ⟨l.bm,q,none⟩=some (.slice (some ⟨l.tb q,0,none⟩) L (l.tc q))∧w'.cell? ⟨l.tb q,i,none⟩=some (.slice (some ⟨l.rb q i,0,none⟩) L L)) (first|go_keep|exact ⟨(cell_far e0 _).trans z3,(cell_far e1 _).trans c0,(cell_far e2 _).trans c1⟩)
       (first|(go_at_call 113;refine (HBt.out _).mono ?_;rintro e w6 ⟨rfl,⟨nd,rfl⟩⟩))
      try go_wp2
      go_meet
      case rel =>
       have hl5:=(HS.out.rw q i Hq.out Hi.out).2
       rw [show IntKind.i64.wrap 1=1 by decide]
       exact ⟨_,⟨(show SSt l W1 L μ (wr.drewN (1+nd)) from ⟨HS.out.st,HS.out.rw,HS.out.le⟩).put ok Hq.out Hi.out kk _⟩,⟨fun q' i' j' h=>by
        by_cases e:q'=q∧i'=i
        ·rw [e.1,e.2,upd_self,getD_ne _ (fun e'=>h ⟨e.1,e.2,e'.symm⟩)]
        ·rw [upd_ne _ _ e]⟩,⟨by rw [upd_self,getD_lt za50,if_pos HKI.out]⟩,⟨(show Below w0.heap.size w0 (wr.drewN (1+nd)) from pw_below_drewN HB.out _).setCell (ok.lo q i Hq.out Hi.out) _⟩⟩
     ·have hb1:((kk:Int) == (i:Int))=false:=by simp;omega
      have hb2:(kk == i)=false:=by simpa using hki
      have HKI:=zk hki
      clear hki
      go_region_held3 (fun w'=>w'.cell? ⟨g,3,none⟩=some (.slice (some ⟨l.bm,0,none⟩) l.N l.cm)∧w'.cell? ⟨l.bm,q,none⟩=some (.slice (some ⟨l.tb q,0,none⟩) L (l.tc q))∧w'.cell? ⟨l.tb q,i,none⟩=some (.slice (some ⟨l.rb q i,0,none⟩) L L)) (first|go_keep|exact ⟨(cell_far e0 _).trans z3,(cell_far e1 _).trans c0,(cell_far e2 _).trans c1⟩)
       (first|(go_at_call 113;refine (HBf.out _).mono ?_;rintro e w6 ⟨rfl,⟨nd,rfl⟩⟩))
      try go_wp2
      go_meet
      case rel =>
       have hl5:=(HS.out.rw q i Hq.out Hi.out).2
       rw [show IntKind.i64.wrap 2=2 by decide]
       exact ⟨_,⟨(show SSt l W1 L μ (wr.drewN (1+nd)) from ⟨HS.out.st,HS.out.rw,HS.out.le⟩).put ok Hq.out Hi.out kk _⟩,⟨fun q' i' j' h=>by
        by_cases e:q'=q∧i'=i
        ·rw [e.1,e.2,upd_self,getD_ne _ (fun e'=>h ⟨e.1,e.2,e'.symm⟩)]
        ·rw [upd_ne _ _ e]⟩,⟨by rw [upd_self,getD_lt za50,if_neg HKI.out]⟩,⟨(show Below w0.heap.size w0 (wr.drewN (1+nd)) from pw_below_drewN HB.out _).setCell (ok.lo q i Hq.out Hi.out) _⟩⟩
    case rest =>
     clear z0 z1 z2 z3 f0 f1 f2 f3 c0 c1 c2 d2 e0 e1 e2
     obtain ⟨μ2,HS2,HD2,HV2,HB2⟩:=hcut
     have HP2:Aside0 (Ss L m μ2 lo (q+1)):=⟨fun q' i' j' h h1 h2=>by rw [HD2.out q' i' j' (fun e=>h za25)];exact HP.out q' i' j' h h1 h2⟩
     have HG2:Aside0 (∀ q' i' j',lo≤q'→q' < q+1→i'≤j'→j' < L→¬ (q'=q∧i'=i∧j'=kk)→(μ2 q' i').getD j' 0=0∨(μ2 q' i').getD j' 0=if T q' i' j'=true then 1 else 2):=⟨fun q' i' j' h1 h2 h3 h4 h5=>by rw [HD2.out q' i' j' h5];exact HG.out q' i' j' h1 h2 h3 h4⟩
     have HE2:Aside0 (∀ k,i≤k→k < kk→(μ2 q i).getD k 0=tv (mt s (.star t) i k)):=⟨fun k h1 h2=>by rw [HD2.out q i k (fun e=>by omega)];exact HE.out k h1 h2⟩
     have HV3:Aside0 (((μ2 q i).getD kk 0=1∧mt s (.star t) i kk=true)∨((μ2 q i).getD kk 0=2∧i < kk)):=⟨by
      by_cases e:kk=i
      ·left;refine ⟨by rw [HV2.out,if_pos e],by rw [e];exact star_self _ _ _⟩
      ·right;exact ⟨by rw [HV2.out,if_neg e],za17⟩⟩
     clear HS HG HP HE HB HD2 HV2
     go_wp2
     go_loopg [7] (kk+1 - i) (fun kq v7 w'=>∃ (p:Nat) (ν:Nat→Nat→List Int),v7 = .int .i64 (p:Int)∧Aside0 (p+kq=kk+1)∧Aside0 (i≤p∧p≤kk)∧Aside0 (∀ k,i≤k→k < kk→(ν q i).getD k 0=tv (mt s (.star t) i k))∧Aside0 (SSt l W1 L ν w')∧Aside0 (∀ q' i' j',lo≤q'→q' < q+1→i'≤j'→j' < L→¬ (q'=q∧i'=i∧j'=kk)→(ν q' i').getD j' 0=0∨(ν q' i').getD j' 0=if T q' i' j'=true then 1 else 2)∧Aside0 (Ss L m ν lo (q+1))∧Aside0 (((ν q i).getD kk 0=1∧mt s (.star t) i kk=true)∨((ν q i).getD kk 0=2∧i < kk∧∀ p',i≤p'→p' < p→(mt s (.star t) i p' && mt s t p' kk)=false))∧Aside0 (Below w0.heap.size w0 w'))
     case atStart=>exact ⟨i,μ2,rfl,⟨za17⟩,⟨Nat.le_refl _,HK1.out⟩,HE2,HS2,HG2,HP2,⟨by
      rcases HV3.out with h|h
      ·exact .inl h
      ·exact .inr ⟨h.1,h.2,fun p' h1 h2=>by omega⟩⟩,HB2⟩
     case round =>
      clear HS2 HG2 HE2 HP2 HV3 HB2
      obtain ⟨p,ν,rfl,HQ2,HR,HE,HS,HG,HP,HV,HB⟩:=hrel
      obtain ⟨z0,z1,z2,z3,f0,f1,f2,f3⟩:=blk4 (HS.out.z ok)
      have c0:=HS.out.m0 ok Hq.out
      have c1:=HS.out.m1 ok Hq.out Hi.out
      have c2:=HS.out.m2 Hq.out Hi.out HK2.out
      have DONE:Aside0 (∀ b,(ν q i).getD kk 0=tv b→mt s (.star t) i kk=b→Gs L T ν lo (q+1)∧∀ k,i≤k→k < kk+1→(ν q i).getD k 0=tv (mt s (.star t) i k)):=⟨fun b hb hb2=>⟨fun q' i' j' h1 h2 h3 h4=>by
        by_cases e:q'=q∧i'=i∧j'=kk
        ·rw [e.1,e.2.1,e.2.2,hb,HT.out,hb2];exact .inr rfl
        ·exact HG.out q' i' j' h1 h2 h3 h4 e,fun k h1 h2=>by
        by_cases e:k=kk
        ·subst e;rw [hb,hb2]
        ·exact HE.out k h1 (by omega)⟩⟩
      rcases HV.out with ⟨hv,hst⟩|⟨hv,hik,hno⟩
      ·rw [hv] at c2
       have DN:=zk (DONE.out true (by rw [hv];rfl) hst)
       clear hv hst DONE
       by_cases hpk:p < kk
       ·have hd2:decide (p < kk)=true:=decide_eq_true hpk
        clear hpk
        go_wp2
        go_roundg k1
        case measure=>omega
        case rel=>exact ⟨kk+1,ν,za54,⟨za48⟩,⟨za17⟩,⟨DN.out.2⟩,HS,⟨DN.out.1⟩,HP,HB⟩
       ·have hd2:decide (p < kk)=false:=decide_eq_false hpk
        clear hpk
        go_wp2
        go_roundg k1
        case measure=>omega
        case rel=>exact ⟨kk+1,ν,za54,⟨za48⟩,⟨za17⟩,⟨DN.out.2⟩,HS,⟨DN.out.1⟩,HP,HB⟩
      ·by_cases hpk:p < kk
       ·have hd2:decide (p < kk)=true:=decide_eq_true hpk
        have HPK:=zk hpk
        have hp9:p≤401:=by omega
        have HGq:Aside0 (Gs L T ν lo q):=⟨fun q' i' j' h1 h2 h3 h4=>HG.out q' i' j' h1 (by omega) h3 h4 (fun e=>by omega)⟩
        have HNO:=zk hno
        have HIK:=zk hik
        have HV2:=zk hv
        have c3:=HS.out.m2 Hq.out Hi.out (show p < L by have:=HPK.out;have:=HK2.out;omega)
        have q4:=eq_true (show p < L by have:=HPK.out;have:=HK2.out;omega)
        rw [HE.out p HR.out.1 hpk] at c3
        rw [hv] at c2
        clear hv hno hik hpk DONE
        obtain ⟨k2,rfl⟩:∃ k2,gk=k2+1:=⟨gk - 1,by have:=HQ2.out;have:=HPK.out;omega⟩
        cases hv1:mt s (.star t) i p
        ·rw [hv1,tv_false] at c3
         go_wp2
         go_roundg k2
         case measure=>omega
         case rel=>exact ⟨p+1,ν,za54,⟨by have:=HQ2.out;omega⟩,⟨by have:=HR.out;omega,by have:=HPK.out;omega⟩,HE,HS,HG,HP,⟨.inr ⟨HV2.out,HIK.out,fun p' h1 h2=>by
           by_cases e:p'=p
           ·rw [e,hv1];rfl
           ·exact HNO.out p' h1 (by omega)⟩⟩,HB⟩
        ·rw [hv1,tv_true] at c3
         have y0:=HS.out.cell_ HST.out X0.out
         have a0:=HAC.out _ _ HS.out
         cases hv2:mt s t p kk
         ·go_wp2_with (go_at_call 134;(with_reducible refine (HX.out p kk ν _ HR.out.2 HK2.out HS.out HGq.out HB.out).mono ?_);rintro e w7 ⟨he,m7,S7,G7,SS7,B7⟩;rw [hv2] at he;subst he;have M7:=zk S7;have Q7:=zk B7;have V7:=zk (show (m7 q i).getD kk 0=2 by rw [SS7 q i kk za25 HK1.out HK2.out,HV2.out]);have E7:Aside0 (∀ k,i≤k→k < kk→(m7 q i).getD k 0=tv (mt s (.star t) i k)):=⟨fun k h1 h2=>by rw [SS7 q i k za25 h1 za50];exact HE.out k h1 h2⟩;have N7:Aside0 (∀ q' i' j',lo≤q'→q' < q+1→i'≤j'→j' < L→¬ (q'=q∧i'=i∧j'=kk)→(m7 q' i').getD j' 0=0∨(m7 q' i').getD j' 0=if T q' i' j'=true then 1 else 2):=⟨fun q' i' j' h1 h2 h3 h4 h5=>by by_cases e:q' < a+1;exact G7 q' i' j' h1 e h3 h4;rw [SS7 q' i' j' (by omega) h3 h4];exact HG.out q' i' j' h1 h2 h3 h4 h5⟩;have P7:=zk (Ss.next HP.out SS7 za25 za25);clear S7 G7 SS7 B7 z0 z1 z2 z3 f0 f1 f2 f3 c0 c1 c2 c3 y0 a0)
          go_roundg k2
          case measure=>omega
          case rel=>exact ⟨p+1,m7,za54,⟨by have:=HQ2.out;omega⟩,⟨by have:=HR.out;omega,by have:=HPK.out;omega⟩,E7,M7,N7,P7,⟨.inr ⟨V7.out,HIK.out,fun p' h1 h2=>by
            by_cases e:p'=p
            ·rw [e,hv1,hv2];rfl
            ·exact HNO.out p' h1 (by omega)⟩⟩,Q7⟩
         ·go_wp2_with (go_at_call 134;(with_reducible refine (HX.out p kk ν _ HR.out.2 HK2.out HS.out HGq.out HB.out).mono ?_);rintro e w7 ⟨he,m7,S7,G7,SS7,B7⟩;rw [hv2] at he;subst he;have M7:=zk S7;have Q7:=zk B7;have V7:=zk (show (m7 q i).getD kk 0=2 by rw [SS7 q i kk za25 HK1.out HK2.out,HV2.out]);have E7:Aside0 (∀ k,i≤k→k < kk→(m7 q i).getD k 0=tv (mt s (.star t) i k)):=⟨fun k h1 h2=>by rw [SS7 q i k za25 h1 za50];exact HE.out k h1 h2⟩;have N7:Aside0 (∀ q' i' j',lo≤q'→q' < q+1→i'≤j'→j' < L→¬ (q'=q∧i'=i∧j'=kk)→(m7 q' i').getD j' 0=0∨(m7 q' i').getD j' 0=if T q' i' j'=true then 1 else 2):=⟨fun q' i' j' h1 h2 h3 h4 h5=>by by_cases e:q' < a+1;exact G7 q' i' j' h1 e h3 h4;rw [SS7 q' i' j' (by omega) h3 h4];exact HG.out q' i' j' h1 h2 h3 h4 h5⟩;have P7:=zk (Ss.next HP.out SS7 za25 za25);clear S7 G7 SS7 B7 z0 z1 z2 z3 f0 f1 f2 f3 c0 c1 c2 c3 y0 a0;obtain ⟨z0,z1,z2,z3,f0,f1,f2,f3⟩:=blk4 (M7.out.z ok);have c0:=M7.out.m0 ok Hq.out;have c1:=M7.out.m1 ok Hq.out Hi.out;have c2:=M7.out.m2 Hq.out Hi.out HK2.out;rw [V7.out] at c2;have d2:=M7.out.fr Hq.out Hi.out kk)
          go_roundg k2
          case measure=>omega
          case rel =>
           have hlk:kk < (m7 q i).length:=by rw [(M7.out.rw q i Hq.out Hi.out).2];exact HK2.out
           exact ⟨p+1,upd m7 q i ((m7 q i).set kk 1),za54,⟨by have:=HQ2.out;omega⟩,⟨by have:=HR.out;omega,by have:=HPK.out;omega⟩,⟨fun k h1 h2=>by rw [upd_self,getD_ne _ (by omega)];exact E7.out k h1 h2⟩,⟨M7.out.put ok Hq.out Hi.out kk 1⟩,⟨fun q' i' j' h1 h2 h3 h4 h5=>by
            by_cases e:q'=q∧i'=i
            ·rw [e.1,e.2,upd_self,getD_ne _ (fun e'=>h5 ⟨e.1,e.2,e'.symm⟩)]
             have:=N7.out q' i' j' h1 h2 h3 h4 h5
             rw [e.1,e.2] at this
             exact this
            ·rw [upd_ne _ _ e];exact N7.out q' i' j' h1 h2 h3 h4 h5⟩,⟨fun q' i' j' h1 h2 h3=>by
            rw [upd_ne _ _ (fun e=>h1 za25)];exact P7.out q' i' j' h1 h2 h3⟩,⟨.inl ⟨by rw [upd_self,getD_lt hlk],by
            rw [star_last s t i kk HIK.out]
            exact (exIn_iff _ _ _).2 ⟨p,HR.out.1,by have:=HPK.out;omega,by rw [hv1,hv2];rfl⟩⟩⟩,⟨Q7.out.setCell (ok.lo q i Hq.out Hi.out) _⟩⟩
       ·have hpe:p=kk:=by have:=HR.out;omega
        have hd2:decide (p < kk)=false:=decide_eq_false hpk
        have DN:=zk (DONE.out false (by rw [hv];rfl) (by
         rw [star_last s t i kk hik,Bool.eq_false_iff]
         intro h
         obtain ⟨p',h1,h2,h3⟩:=(exIn_iff _ _ _).1 h
         rw [hno p' h1 (by omega)] at h3
         exact absurd h3 (by simp)))
        clear hv hno hpk DONE c2 hpe
        go_wp2
        go_roundg k1
        case measure=>omega
        case rel=>exact ⟨kk+1,ν,za54,⟨za48⟩,⟨za17⟩,⟨DN.out.2⟩,HS,⟨DN.out.1⟩,HP,HB⟩
  ·have hd:decide (kk≤s.size)=false:=decide_eq_false hle
   have hkL:kk=L:=by have:=HQ.out;omega
   have HKL:=zk hkL
   clear hle hkL
   go_wp2
   go_end0
   refine ⟨μ,rfl,HS.out,HG.out,HP.out,fun k h1 h2=>?_,HB.out⟩
   rw [HE.out k h1 (by have:=HKL.out;omega),HT.out]
   rfl
end
end Go.Proofs.YtffjfdoghofkdaaGreat.Ext
