/- FnExactFormatProblemCard: what its proof needs, put together by this session's program wip/merge.py out of the texts that wip/xp.py printed and of this session's own. -/
import Derived.Test.YtdchpohiiigobaaDoorQFnExactFormatProblemCard1
set_option linter.unusedVariables false
set_option linter.unusedSimpArgs false
set_option linter.unusedSectionVars false
set_option maxHeartbeats 8000000
set_option maxRecDepth 100000
namespace Go.Proofs.YtdchpohiiigobaaDoor.A
open Go.RowKit YtdchpohiiigobaaDoor.Ext YtdchpohiiigobaaDoorW.PrintWords YtdchpohiiigobaaDoorW.PrintLast YtdchpohiiigobaaDoorW.PrintMore
attribute [local go_sem] max2_int min2_int max_two min_two max_three min_three max_four min_four
def laws_szProblem.f (k:Nat) (l0_0:List (S27)) (a1:Int):Option (Int):=(laws_szConstraintS.f k l0_0 a1).bind fun t10002=>(if t10002 < 0 then (some (-1)) else (some t10002))
theorem laws_szProblem.mono:∀ a0 a1 k,LeO (laws_szProblem.f k a0 a1) (laws_szProblem.f (k+1) a0 a1):=by
 intro a0 a1 k
 unfold laws_szProblem.f
 repeat' first
  | with_reducible first|exact laws_szConstraintS.mono _ _ _|exact LeO.refl _|exact LeO.none _|refine LeO.ite ?_ ?_|refine LeO.bind ?_ (fun _=>?_)
theorem laws_szProblem.calls (k:Nat) (A0_0:Option Addr) (c0_0:Nat) (l0_0:List (S27)) (a1:Int) (r:Int) (w:World) (hr0_0:Kd.C k27 w A0_0 l0_0.length l0_0) (hc0_0:l0_0.length≤c0_0) (h:laws_szProblem.f k l0_0 a1=some r) :
   Calls Tryd.prog 10 #[.agg #[.slice A0_0 l0_0.length c0_0],.int .i64 a1] w fun e w'=>e = .returned (.int .i64 r)∧Below w.heap.size w w':=by
 have hu40:=Tryd.underlying40
 have HR0_0:=zk hr0_0
 have HC0_0:=zk hc0_0
 clear hr0_0 hc0_0
 have HB:=zk (Below.refl w.heap.size w)
 have H:((laws_szConstraintS.f k l0_0 a1).bind fun t10002=>(if t10002 < 0 then (some (-1)) else (some t10002)))=some r:=h
 clear h
 replace H:=zo H
 obtain ⟨t10002,A30,H⟩:=H
 replace H:(if t10002 < 0 then (some (-1)) else (some t10002))=some r:=H
 have A3:=zk A30
 clear A30
 by_cases c4:t10002 < 0
 rw [if_pos c4] at H
 have c4b0:decide (t10002 < 0)=true:=decide_eq_true c4
 rotate_left
 rw [if_neg c4] at H
 have c4b0:decide (t10002 < 0)=false:=decide_eq_false c4
 rotate_left
 all_goals
  clear c4
  obtain rfl:=zi H
  go_enter Tryd.func10,Tryd.ntmps10
  go_wp2_with (first|((with_reducible refine gate_dst (N:=2) rfl ?_);refine zE (N:=2) (cs:=#[.slice A0_0 l0_0.length c0_0]) (t:=40) ?_;intro gb10001 hg w8 hbox hb;have n0_:=zk (below_step za2 hb);have n1_:=zk (hbox);have n2_:=zk (zs (w:=w) hg za2);have n3_:=zk (zs (w:=w) hg za2);clear HB;have HB:=n0_;have BK10001:=n1_;have GW10001:=n2_;have GE10001:=n3_;clear n0_ n1_ n2_ n3_;clear hb hbox hg;obtain ⟨hcz9_0,hfz9_0⟩:=blk1 BK10001.out)|((with_reducible refine gate_callee (f:=31) rfl ?_);refine goesL_ (some 8) rfl rfl Tryd.func31 (by kernel_rfl) rfl #[.slice A0_0 l0_0.length c0_0,.int .i64 a1] rfl za5 ?_;(with_reducible refine (laws_szConstraintS.calls k _ _ l0_0 a1 t10002 _ ?side1 ?side2 A3.out).mono ?_);(case side1=>repeat (first|exact (Kd.C_below HR0_0.out HB.out)|(with_reducible refine Kd.C_alloc ?_ _)|(with_reducible refine Kd.C_drewN ?_ _)|(with_reducible refine Kd.C_drew ?_)));(case side2=>exact HC0_0.out);rintro e w10 ⟨rfl,hb⟩;refine ⟨_,rfl,?_⟩;have n0_:=zk (zb BK10001.out hb);have n1_:=zk (below_step za2 hb);clear BK10001;clear HB;have BK10001:=n0_;have HB:=n1_;clear n0_ n1_;(try clear hb);(try clear hb2);(try clear hk);(try clear hi)))
  go_ret
  exact ⟨za6,za2⟩
def laws_toProblem.f (k:Nat) (l0_0:List (S27)):Option ((List (S34))):=(laws_toConstraintS.f k l0_0).bind fun t12004=>(some t12004)
theorem laws_toProblem.mono:∀ a0 k,LeO (laws_toProblem.f k a0) (laws_toProblem.f (k+1) a0):=by
 intro a0 k
 unfold laws_toProblem.f
 repeat' first
  | with_reducible first|exact laws_toConstraintS.mono _ _|exact LeO.refl _|exact LeO.none _|refine LeO.ite ?_ ?_|refine LeO.bind ?_ (fun _=>?_)
theorem laws_toProblem.calls (k:Nat) (A0_0:Option Addr) (c0_0:Nat) (l0_0:List (S27)) (r:List (S34)) (w:World) (hr0_0:Kd.C k27 w A0_0 l0_0.length l0_0) (hc0_0:l0_0.length≤c0_0) (h:laws_toProblem.f k l0_0=some r) :
  Calls Tryd.prog 12 #[.agg #[.slice A0_0 l0_0.length c0_0]] w fun e w'=>∃ v0_:Value,e = .returned (.agg #[v0_])∧Kd.R k34 34 w' w.heap.size (fun _=>True) v0_ r∧Below w.heap.size w w':=by
 have hu40:=Tryd.underlying40
 have hu45:=Tryd.underlying45
 have HR0_0:=zk hr0_0
 have HC0_0:=zk hc0_0
 clear hr0_0 hc0_0
 have HB:=zk (Below.refl w.heap.size w)
 have H:((laws_toConstraintS.f k l0_0).bind fun t12004=>(some t12004))=some r:=h
 clear h
 replace H:=zo H
 obtain ⟨t12004,A20,H⟩:=H
 replace H:(some t12004)=some r:=H
 have A2:=zk A20
 clear A20
 obtain rfl:=zi H
 go_enter Tryd.func12,Tryd.ntmps12
 go_wp2_with (first|((with_reducible refine gate_dst (N:=1) rfl ?_);refine zE (N:=1) (cs:=#[.slice A0_0 l0_0.length c0_0]) (t:=40) ?_;intro gb12001 hg w3 hbox hb;have n0_:=zk (below_step za2 hb);have n1_:=zk (hbox);have n2_:=zk (zs (w:=w) hg za2);have n3_:=zk (zs (w:=w) hg za2);clear HB;have HB:=n0_;have BK12001:=n1_;have GW12001:=n2_;have GE12001:=n3_;clear n0_ n1_ n2_ n3_;clear hb hbox hg)|((with_reducible refine gate_dst (N:=2) rfl ?_);refine zE (N:=2) (cs:=#[.slice none 0 0]) (t:=45) ?_;intro gb12002 hg w4 hbox hb;have n0_:=zk (zb BK12001.out hb);have n1_:=zk (below_step za2 hb);have n2_:=zk (hbox);have n3_:=zk (zs (w:=w) hg za2);have n4_:=zk (zs (w:=w) hg za2);have n5_:=zk ((by rw [hg];exact Nat.ne_of_lt (zl BK12001.out):gb12001 ≠ gb12002));have n6_:=zk ((by rw [hg];exact Nat.ne_of_gt (zl BK12001.out):gb12002 ≠ gb12001));clear BK12001;clear HB;have BK12001:=n0_;have HB:=n1_;have BK12002:=n2_;have GW12002:=n3_;have GE12002:=n4_;have NB12001_12002:=n5_;have NB12002_12001:=n6_;clear n0_ n1_ n2_ n3_ n4_ n5_ n6_;clear hb hbox hg)|((with_reducible refine gate_dst (N:=3) rfl ?_);refine zE (N:=3) (cs:=#[.slice none 0 0]) (t:=45) ?_;intro gb12003 hg w5 hbox hb;have n0_:=zk (zb BK12001.out hb);have n1_:=zk (zb BK12002.out hb);have n2_:=zk (below_step za2 hb);have n3_:=zk (hbox);have n4_:=zk (zs (w:=w) hg za2);have n5_:=zk (zs (w:=w) hg za2);have n6_:=zk ((by rw [hg];exact Nat.ne_of_lt (zl BK12001.out):gb12001 ≠ gb12003));have n7_:=zk ((by rw [hg];exact Nat.ne_of_gt (zl BK12001.out):gb12003 ≠ gb12001));have n8_:=zk ((by rw [hg];exact Nat.ne_of_lt (zl BK12002.out):gb12002 ≠ gb12003));have n9_:=zk ((by rw [hg];exact Nat.ne_of_gt (zl BK12002.out):gb12003 ≠ gb12002));clear BK12001;clear BK12002;clear HB;have BK12001:=n0_;have BK12002:=n1_;have HB:=n2_;have BK12003:=n3_;have GW12003:=n4_;have GE12003:=n5_;have NB12001_12003:=n6_;have NB12003_12001:=n7_;have NB12002_12003:=n8_;have NB12003_12002:=n9_;clear n0_ n1_ n2_ n3_ n4_ n5_ n6_ n7_ n8_ n9_;clear hb hbox hg;have hnb6:=NB12001_12002.out;have hnc6:=NB12002_12001.out;have hnb7:=NB12001_12003.out;have hnc7:=NB12003_12001.out;obtain ⟨hcz8_0,hfz8_0⟩:=blk1 BK12001.out)|((with_reducible refine gate_callee (f:=33) rfl ?_);refine goesL_ (some 6) rfl rfl Tryd.func33 (by kernel_rfl) rfl #[.slice A0_0 l0_0.length c0_0] rfl za5 ?_;(with_reducible refine (laws_toConstraintS.calls k _ _ l0_0 t12004 _ ?side1 ?side2 A2.out).mono ?_);(case side1=>repeat (first|exact (Kd.C_below HR0_0.out HB.out)|(with_reducible refine Kd.C_alloc ?_ _)|(with_reducible refine Kd.C_drewN ?_ _)|(with_reducible refine Kd.C_drew ?_)));(case side2=>exact HC0_0.out);rintro e w9 ⟨v12005,rfl,ho0,hb⟩;refine ⟨_,rfl,?_⟩;have n0_:=zk (Kd.R_lower ho0 (below_size za2));have n1_:=zk (zb BK12001.out hb);have n2_:=zk (zb BK12002.out hb);have n3_:=zk (zb BK12003.out hb);have n4_:=zk (below_step za2 hb);clear BK12001;clear BK12002;clear BK12003;clear HB;have HO12006:=n0_;have BK12001:=n1_;have BK12002:=n2_;have BK12003:=n3_;have HB:=n4_;clear n0_ n1_ n2_ n3_ n4_;(try clear hb);(try clear hb2);(try clear hk);(try clear hi);(try clear ho0);obtain ⟨Ao10,co10,eo10⟩:=Kd.R_slice HO12006.out;subst eo10;have hnb11:=NB12003_12002.out;have hnc11:=NB12002_12003.out;obtain ⟨hcz12_0,hfz12_0⟩:=blk1 BK12003.out;obtain ⟨hcz13_0,hfz13_0⟩:=blk1 BK12002.out))
 refine bodyPost_ret (results_cell_row rfl _ _ gb12002 45 #[.slice Ao10 t12004.length co10] (0,0) _ rfl (by (with_reducible repeat (first|refine blk_drewN ?_ _|refine blk_drew ?_|refine blk_alloc ?_ _));refine blk_put (cs:=#[.slice none 0 0]) ?_ 0 _ rfl;(with_reducible repeat (first|refine blk_drewN ?_ _|refine blk_drew ?_|refine blk_alloc ?_ _));refine blk_far ?_ NB12002_12003.out _;(with_reducible repeat (first|refine blk_drewN ?_ _|refine blk_drew ?_|refine blk_alloc ?_ _));exact BK12002.out) Tryd.underlying45 rfl (by kernel_rfl)) rfl ?_
 exact ⟨_,za6,by (with_reducible repeat (first|apply Kd.R_alloc|apply Kd.R_drewN|apply Kd.R_drew));exact Kd.R_mono (Kd.R_far (p:=⟨gb12002,0,none⟩) (Kd.R_far (p:=⟨gb12003,0,none⟩) (Kd.R_types (Kd.R_types HO12006.out BK12003.out (by decide)) BK12002.out (by decide)) (fun _ hk=>hk.1.2) (.slice Ao10 t12004.length co10)) (fun _ hk=>hk.2) (.slice Ao10 t12004.length co10)) (fun _ hk=>trivial),za2⟩
def laws_eqProblem.f (k:Nat) (l0_0:List (S34)) (l1_0:List (S34)):Option (Bool):=(laws_eqConstraintS.f k l0_0 l1_0).bind fun t14003=>(if t14003=true then (some true) else (some false))
theorem laws_eqProblem.mono:∀ a0 a1 k,LeO (laws_eqProblem.f k a0 a1) (laws_eqProblem.f (k+1) a0 a1):=by
 intro a0 a1 k
 unfold laws_eqProblem.f
 repeat' first
  | with_reducible first|exact laws_eqConstraintS.mono _ _ _|exact LeO.refl _|exact LeO.none _|refine LeO.ite ?_ ?_|refine LeO.bind ?_ (fun _=>?_)
theorem laws_eqProblem.calls (k:Nat) (A0_0:Option Addr) (c0_0:Nat) (l0_0:List (S34)) (A1_0:Option Addr) (c1_0:Nat) (l1_0:List (S34)) (r:Bool) (w:World) (hr0_0:Kd.C k34 w A0_0 l0_0.length l0_0) (hc0_0:l0_0.length≤c0_0) (hr1_0:Kd.C k34 w A1_0 l1_0.length l1_0) (hc1_0:l1_0.length≤c1_0) (h:laws_eqProblem.f k l0_0 l1_0=some r) :
   Calls Tryd.prog 14 #[.agg #[.slice A0_0 l0_0.length c0_0],.agg #[.slice A1_0 l1_0.length c1_0]] w fun e w'=>e = .returned (.bool r)∧Below w.heap.size w w':=by
 have hu45:=Tryd.underlying45
 have HR0_0:=zk hr0_0
 have HC0_0:=zk hc0_0
 clear hr0_0 hc0_0
 have HR1_0:=zk hr1_0
 have HC1_0:=zk hc1_0
 clear hr1_0 hc1_0
 have HB:=zk (Below.refl w.heap.size w)
 have H:((laws_eqConstraintS.f k l0_0 l1_0).bind fun t14003=>(if t14003=true then (some true) else (some false)))=some r:=h
 clear h
 replace H:=zo H
 obtain ⟨t14003,A30,H⟩:=H
 replace H:(if t14003=true then (some true) else (some false))=some r:=H
 have A3:=zk A30
 clear A30
 by_cases c4:t14003=true
 subst c4
 have H1:(some true)=some r:=by rw [if_pos rfl] at H;exact H
 rotate_left
 replace c4:=Bool.eq_false_iff.mpr c4
 subst c4
 have H1:(some false)=some r:=by rw [if_neg (show ¬ (false=true) by decide)] at H;exact H
 rotate_left
 all_goals
  clear H
  have H:=H1
  clear H1
  obtain rfl:=zi H
  go_enter Tryd.func14,Tryd.ntmps14
  go_wp2_with (first|((with_reducible refine gate_dst (N:=2) rfl ?_);refine zE (N:=2) (cs:=#[.slice A0_0 l0_0.length c0_0]) (t:=45) ?_;intro gb14001 hg w11 hbox hb;have n0_:=zk (below_step za2 hb);have n1_:=zk (hbox);have n2_:=zk (zs (w:=w) hg za2);have n3_:=zk (zs (w:=w) hg za2);clear HB;have HB:=n0_;have BK14001:=n1_;have GW14001:=n2_;have GE14001:=n3_;clear n0_ n1_ n2_ n3_;clear hb hbox hg)|((with_reducible refine gate_dst (N:=3) rfl ?_);refine zE (N:=3) (cs:=#[.slice A1_0 l1_0.length c1_0]) (t:=45) ?_;intro gb14002 hg w12 hbox hb;have n0_:=zk (zb BK14001.out hb);have n1_:=zk (below_step za2 hb);have n2_:=zk (hbox);have n3_:=zk (zs (w:=w) hg za2);have n4_:=zk (zs (w:=w) hg za2);have n5_:=zk ((by rw [hg];exact Nat.ne_of_lt (zl BK14001.out):gb14001 ≠ gb14002));have n6_:=zk ((by rw [hg];exact Nat.ne_of_gt (zl BK14001.out):gb14002 ≠ gb14001));clear BK14001;clear HB;have BK14001:=n0_;have HB:=n1_;have BK14002:=n2_;have GW14002:=n3_;have GE14002:=n4_;have NB14001_14002:=n5_;have NB14002_14001:=n6_;clear n0_ n1_ n2_ n3_ n4_ n5_ n6_;clear hb hbox hg;have hnb13:=NB14001_14002.out;have hnc13:=NB14002_14001.out;obtain ⟨hcz14_0,hfz14_0⟩:=blk1 BK14001.out;obtain ⟨hcz15_0,hfz15_0⟩:=blk1 BK14002.out)|((with_reducible refine gate_callee (f:=35) rfl ?_);refine goesL_ (some 9) rfl rfl Tryd.func35 (by kernel_rfl) rfl #[.slice A0_0 l0_0.length c0_0,.slice A1_0 l1_0.length c1_0] rfl za5 ?_;(with_reducible refine (laws_eqConstraintS.calls k _ _ l0_0 _ _ l1_0 _ _ ?side1 ?side2 ?side3 ?side4 A3.out).mono ?_);(case side1=>repeat (first|exact (Kd.C_below HR0_0.out HB.out)|(with_reducible refine Kd.C_alloc ?_ _)|(with_reducible refine Kd.C_drewN ?_ _)|(with_reducible refine Kd.C_drew ?_)));(case side2=>exact HC0_0.out);(case side3=>repeat (first|exact (Kd.C_below HR1_0.out HB.out)|(with_reducible refine Kd.C_alloc ?_ _)|(with_reducible refine Kd.C_drewN ?_ _)|(with_reducible refine Kd.C_drew ?_)));(case side4=>exact HC1_0.out);rintro e w16 ⟨rfl,hb⟩;refine ⟨_,rfl,?_⟩;have n0_:=zk (zb BK14001.out hb);have n1_:=zk (zb BK14002.out hb);have n2_:=zk (below_step za2 hb);clear BK14001;clear BK14002;clear HB;have BK14001:=n0_;have BK14002:=n1_;have HB:=n2_;clear n0_ n1_ n2_;(try clear hb);(try clear hb2);(try clear hk);(try clear hi)))
  go_ret
  exact ⟨za6,za2⟩
def spec_LetterIndex.l0:Nat→Int→Int→Option (Int)
 | 0,_,_=>none
 | k+1,x0,x3=>if x3 < 3 then (if 0≤x3 then (if (bt (⟨#[97,98,99]⟩:ByteArray) x3)=x0 then (some x3) else (spec_LetterIndex.l0 k x0 (wrap64 (x3+1)))) else (none)) else (some (-1))
def spec_LetterIndex.f (k:Nat) (a0:Int):Option (Int):=spec_LetterIndex.l0 k a0 0
theorem spec_LetterIndex.mono_l:∀ k,(∀ y0 y1,LeO (spec_LetterIndex.l0 k y0 y1) (spec_LetterIndex.l0 (k+1) y0 y1))
 | 0=>fun _ _ r h=>by simp [spec_LetterIndex.l0] at h
 | k+1=>by
  have ih0:=spec_LetterIndex.mono_l k
  ·intro y0 y1
   unfold spec_LetterIndex.l0
   repeat' first
   | with_reducible first|exact ih0 _ _|exact LeO.refl _|exact LeO.none _|refine LeO.ite ?_ ?_|refine LeO.bind ?_ (fun _=>?_)
theorem spec_LetterIndex.mono:∀ a0 k,LeO (spec_LetterIndex.f k a0) (spec_LetterIndex.f (k+1) a0):=by
 intro a0 k
 have ih0:=spec_LetterIndex.mono_l k
 unfold spec_LetterIndex.f
 repeat' first
  | with_reducible first|exact ih0 _ _|exact LeO.refl _|exact LeO.none _|refine LeO.ite ?_ ?_|refine LeO.bind ?_ (fun _=>?_)
theorem spec_LetterIndex.calls (k:Nat) (a0:Int) (r:Int) (w:World) (h:spec_LetterIndex.f k a0=some r) :
   Calls Tryd.prog 56 #[.int .u8 a0] w fun e w'=>e = .returned (.int .i64 r)∧Drawn0 w w':=by
 have H:(spec_LetterIndex.l0 k a0 0)=some r:=h
 clear h
 have H':=zk H
 clear H
 go_enter Tryd.func56,Tryd.ntmps56
 go_wp2
 first|go_loopg [3] k (fun kq v3 w'=>∃ (x3_1:Int),v3 = .int .i64 x3_1∧Aside0 (spec_LetterIndex.l0 kq a0 x3_1=some r)∧Aside0 (kq≤k)∧Drawn0 w w')|(simp only [Act.put,zt,zv,zu];go_loopg [3] k (fun kq v3 w'=>∃ (x3_1:Int),v3 = .int .i64 x3_1∧Aside0 (spec_LetterIndex.l0 kq a0 x3_1=some r)∧Aside0 (kq≤k)∧Drawn0 w w'))
 case atStart=>exact ⟨(0),za7,H',⟨Nat.le_refl _⟩,za9⟩
 case round =>
  clear H'
  obtain ⟨x3_1,rfl,HA,HK1,⟨m1,rfl⟩⟩:=hrel
  cases gk with
  | zero=>exact absurd HA.out (by simp [spec_LetterIndex.l0])
  | succ k1 =>
   have H:=HA.out
   clear HA
   simp only [spec_LetterIndex.l0] at H
   by_cases c2:x3_1 < 3
   rw [if_pos c2] at H
   have c2b0:decide (x3_1 < 3)=true:=decide_eq_true c2
   clear c2
   by_cases c3:0≤x3_1
   rw [if_pos c3] at H
   have c3b0:decide (0≤x3_1)=true:=decide_eq_true c3
   clear c3
   by_cases c5:(bt (⟨#[97,98,99]⟩:ByteArray) x3_1)=a0
   ·rw [if_pos c5] at H
    have c5b0:((bt (⟨#[97,98,99]⟩:ByteArray) x3_1) == a0)=true:=beq_iff_eq.mpr c5
    have c5b1:((bt (⟨#[97,98,99]⟩:ByteArray) x3_1) != a0)=false:=bne_eq_false_iff_eq.mpr c5
    clear c5
    obtain rfl:=zi H
    have p4:0≤(x3_1:Int):=of_decide_eq_true za8
    have q4:x3_1 < (3:Int):=of_decide_eq_true za8
    have hx4:=bt_at (⟨#[97,98,99]⟩:ByteArray) x3_1
    replace p4:=eq_true p4
    replace q4:=eq_true q4
    go_wp2
    go_ret
    exact ⟨za7,za9⟩
   ·rw [if_neg c5] at H
    have c5b0:((bt (⟨#[97,98,99]⟩:ByteArray) x3_1) == a0)=false:=beq_eq_false_iff_ne.mpr c5
    have c5b1:((bt (⟨#[97,98,99]⟩:ByteArray) x3_1) != a0)=true:=bne_iff_ne.mpr c5
    have H':=zk H
    clear H
    have p4:0≤(x3_1:Int):=of_decide_eq_true za8
    have q4:x3_1 < (3:Int):=of_decide_eq_true za8
    have hx4:=bt_at (⟨#[97,98,99]⟩:ByteArray) x3_1
    replace p4:=eq_true p4
    replace q4:=eq_true q4
    go_wp2
    go_roundg k1
    case measure=>have:=HK1.out;omega
    case rel=>exact ⟨(wrap64 (x3_1+1)),za7,H',⟨za13⟩,za9⟩
   ·rw [if_neg c3] at H
    exact absurd H (by simp)
   ·rw [if_neg c2] at H
    have c2b0:decide (x3_1 < 3)=false:=decide_eq_false c2
    clear c2
    obtain rfl:=zi H
    go_wp2
    go_ret
    exact ⟨za7,za9⟩
def spec_IsWord.l0:Nat→ByteArray→Int→Option (Bool)
 | 0,_,_=>none
 | k+1,x0,x3=>if x3 < (x0.size:Int) then (if 0≤x3 then ((spec_LetterIndex.f k (bt x0 x3)).bind fun t71001=>(if t71001 < 0 then (some false) else (spec_IsWord.l0 k x0 (wrap64 (x3+1))))) else (none)) else (some (decide ((x0.size:Int)≤30)))
def spec_IsWord.f (k:Nat) (a0:ByteArray):Option (Bool):=spec_IsWord.l0 k a0 0
theorem spec_IsWord.mono_l:∀ k,(∀ y0 y1,LeO (spec_IsWord.l0 k y0 y1) (spec_IsWord.l0 (k+1) y0 y1))
 | 0=>fun _ _ r h=>by simp [spec_IsWord.l0] at h
 | k+1=>by
  have ih0:=spec_IsWord.mono_l k
  ·intro y0 y1
   unfold spec_IsWord.l0
   repeat' first
   | with_reducible first|exact ih0 _ _|exact spec_LetterIndex.mono _ _|exact LeO.refl _|exact LeO.none _|refine LeO.ite ?_ ?_|refine LeO.bind ?_ (fun _=>?_)
theorem spec_IsWord.mono:∀ a0 k,LeO (spec_IsWord.f k a0) (spec_IsWord.f (k+1) a0):=by
 intro a0 k
 have ih0:=spec_IsWord.mono_l k
 unfold spec_IsWord.f
 repeat' first
  | with_reducible first|exact ih0 _ _|exact spec_LetterIndex.mono _ _|exact LeO.refl _|exact LeO.none _|refine LeO.ite ?_ ?_|refine LeO.bind ?_ (fun _=>?_)
theorem spec_IsWord.calls (k:Nat) (a0:ByteArray) (r:Bool) (w:World) (h:spec_IsWord.f k a0=some r) :
   Calls Tryd.prog 71 #[.string a0] w fun e w'=>e = .returned (.bool r)∧Drawn0 w w':=by
 have H:(spec_IsWord.l0 k a0 0)=some r:=h
 clear h
 have H':=zk H
 clear H
 go_enter Tryd.func71,Tryd.ntmps71
 go_wp2
 first|go_loopg [3] k (fun kq v3 w'=>∃ (x3_1:Int),v3 = .int .i64 x3_1∧Aside0 (spec_IsWord.l0 kq a0 x3_1=some r)∧Aside0 (kq≤k)∧Drawn0 w w')|(simp only [Act.put,zt,zv,zu];go_loopg [3] k (fun kq v3 w'=>∃ (x3_1:Int),v3 = .int .i64 x3_1∧Aside0 (spec_IsWord.l0 kq a0 x3_1=some r)∧Aside0 (kq≤k)∧Drawn0 w w'))
 case atStart=>exact ⟨(0),za7,H',⟨Nat.le_refl _⟩,za9⟩
 case round =>
  clear H'
  obtain ⟨x3_1,rfl,HA,HK1,⟨m1,rfl⟩⟩:=hrel
  cases gk with
  | zero=>exact absurd HA.out (by simp [spec_IsWord.l0])
  | succ k1 =>
   have H:=HA.out
   clear HA
   simp only [spec_IsWord.l0] at H
   by_cases c2:x3_1 < (a0.size:Int)
   rw [if_pos c2] at H
   have c2b0:decide (x3_1 < (a0.size:Int))=true:=decide_eq_true c2
   clear c2
   by_cases c3:0≤x3_1
   rw [if_pos c3] at H
   have c3b0:decide (0≤x3_1)=true:=decide_eq_true c3
   clear c3
   replace H:=zo H
   obtain ⟨t71001,A50,H⟩:=H
   replace H:(if t71001 < 0 then (some false) else (spec_IsWord.l0 k1 a0 (wrap64 (x3_1+1))))=some r:=H
   have A5:=zk A50
   clear A50
   by_cases c6:t71001 < 0
   rw [if_pos c6] at H
   have c6b0:decide (t71001 < 0)=true:=decide_eq_true c6
   clear c6
   obtain rfl:=zi H
   have fin0_:=zk trivial
   rotate_left
   rw [if_neg c6] at H
   have c6b0:decide (t71001 < 0)=false:=decide_eq_false c6
   clear c6
   have H':=zk H
   clear H
   have fin1_:=zk trivial
   rotate_left
   · rw [if_neg c3] at H
     exact absurd H (by simp)
   · rw [if_neg c2] at H
     have c2b0:decide (x3_1 < (a0.size:Int))=false:=decide_eq_false c2
     clear c2
     obtain rfl:=zi H
     go_wp2
     go_ret
     exact ⟨za7,za9⟩
   all_goals
    have p4:0≤(x3_1:Int):=of_decide_eq_true za8
    have q4:x3_1 < (a0.size:Int):=of_decide_eq_true za8
    have hx4:=bt_at a0 x3_1
    replace p4:=eq_true p4
    replace q4:=eq_true q4
    go_wp2_with (((with_reducible refine gate_callee (f:=56) rfl ?_);refine goesL_ (some 13) rfl rfl Tryd.func56 (by kernel_rfl) rfl #[.int .u8 (bt a0 x3_1)] rfl za5 ?_;(with_reducible refine (spec_LetterIndex.calls k1 (bt a0 x3_1) t71001 _ A5.out).mono ?_);rintro e w' ⟨rfl,⟨nd,rfl⟩⟩;refine ⟨_,rfl,?_⟩))
    first
    | (
      clear fin0_
      go_ret
      exact ⟨za7,za9⟩)
    | (
      clear fin1_
      go_roundg k1
      case measure=>have:=HK1.out;omega
      case rel=>exact ⟨(wrap64 (x3_1+1)),za7,H',⟨za13⟩,za9⟩)
def spec_l8Var.f (a0:Int):Option (Bool):=if a0 ≥ 88 then (some (decide (a0≤90))) else (some false)
theorem spec_l8Var.calls (a0:Int) (r:Bool) (w:World) (h:spec_l8Var.f a0=some r) :
   Calls Tryd.prog 57 #[.int .u8 a0] w fun e w'=>e = .returned (.bool r)∧Drawn0 w w':=by
 have H:(if a0 ≥ 88 then (some (decide (a0≤90))) else (some false))=some r:=h
 clear h
 by_cases c2:a0 ≥ 88
 rw [if_pos c2] at H
 have c2b0:decide (88≤a0)=true:=decide_eq_true c2
 rotate_left
 rw [if_neg c2] at H
 have c2b0:decide (88≤a0)=false:=decide_eq_false c2
 rotate_left
 all_goals
  clear c2
  obtain rfl:=zi H
  go_enter Tryd.func57,Tryd.ntmps57
  go_wp2
  go_ret
  exact ⟨za7,za9⟩
def spec_IsTerm.l0:Nat→ByteArray→Int→Option (Bool)
 | 0,_,_=>none
 | k+1,x0,x3=>if x3 < (x0.size:Int) then (if 0≤x3 then ((spec_LetterIndex.f k (bt x0 x3)).bind fun t37001=>(if t37001 < 0 then ((spec_l8Var.f (bt x0 x3)).bind fun t37002=>(if t37002=true then (spec_IsTerm.l0 k x0 (wrap64 (x3+1))) else (some false))) else (spec_IsTerm.l0 k x0 (wrap64 (x3+1))))) else (none)) else (some (decide ((x0.size:Int)≤12)))
def spec_IsTerm.f (k:Nat) (a0:ByteArray):Option (Bool):=spec_IsTerm.l0 k a0 0
theorem spec_IsTerm.mono_l:∀ k,(∀ y0 y1,LeO (spec_IsTerm.l0 k y0 y1) (spec_IsTerm.l0 (k+1) y0 y1))
 | 0=>fun _ _ r h=>by simp [spec_IsTerm.l0] at h
 | k+1=>by
  have ih0:=spec_IsTerm.mono_l k
  ·intro y0 y1
   unfold spec_IsTerm.l0
   repeat' first
   | with_reducible first|exact ih0 _ _|exact spec_LetterIndex.mono _ _|exact LeO.refl _|exact LeO.none _|refine LeO.ite ?_ ?_|refine LeO.bind ?_ (fun _=>?_)
theorem spec_IsTerm.mono:∀ a0 k,LeO (spec_IsTerm.f k a0) (spec_IsTerm.f (k+1) a0):=by
 intro a0 k
 have ih0:=spec_IsTerm.mono_l k
 unfold spec_IsTerm.f
 repeat' first
  | with_reducible first|exact ih0 _ _|exact spec_LetterIndex.mono _ _|exact LeO.refl _|exact LeO.none _|refine LeO.ite ?_ ?_|refine LeO.bind ?_ (fun _=>?_)
theorem spec_IsTerm.calls (k:Nat) (a0:ByteArray) (r:Bool) (w:World) (h:spec_IsTerm.f k a0=some r) :
   Calls Tryd.prog 37 #[.string a0] w fun e w'=>e = .returned (.bool r)∧Drawn0 w w':=by
 have H:(spec_IsTerm.l0 k a0 0)=some r:=h
 clear h
 have H':=zk H
 clear H
 go_enter Tryd.func37,Tryd.ntmps37
 go_wp2
 first|go_loopg [3] k (fun kq v3 w'=>∃ (x3_1:Int),v3 = .int .i64 x3_1∧Aside0 (spec_IsTerm.l0 kq a0 x3_1=some r)∧Aside0 (kq≤k)∧Drawn0 w w')|(simp only [Act.put,zt,zv,zu];go_loopg [3] k (fun kq v3 w'=>∃ (x3_1:Int),v3 = .int .i64 x3_1∧Aside0 (spec_IsTerm.l0 kq a0 x3_1=some r)∧Aside0 (kq≤k)∧Drawn0 w w'))
 case atStart=>exact ⟨(0),za7,H',⟨Nat.le_refl _⟩,za9⟩
 case round =>
  clear H'
  obtain ⟨x3_1,rfl,HA,HK1,⟨m1,rfl⟩⟩:=hrel
  cases gk with
  | zero=>exact absurd HA.out (by simp [spec_IsTerm.l0])
  | succ k1 =>
   have H:=HA.out
   clear HA
   simp only [spec_IsTerm.l0] at H
   by_cases c2:x3_1 < (a0.size:Int)
   rw [if_pos c2] at H
   have c2b0:decide (x3_1 < (a0.size:Int))=true:=decide_eq_true c2
   clear c2
   by_cases c3:0≤x3_1
   rw [if_pos c3] at H
   have c3b0:decide (0≤x3_1)=true:=decide_eq_true c3
   clear c3
   replace H:=zo H
   obtain ⟨t37001,A50,H⟩:=H
   replace H:(if t37001 < 0 then ((spec_l8Var.f (bt a0 x3_1)).bind fun t37002=>(if t37002=true then (spec_IsTerm.l0 k1 a0 (wrap64 (x3_1+1))) else (some false))) else (spec_IsTerm.l0 k1 a0 (wrap64 (x3_1+1))))=some r:=H
   have A5:=zk A50
   clear A50
   by_cases c6:t37001 < 0
   rw [if_pos c6] at H
   have c6b0:decide (t37001 < 0)=true:=decide_eq_true c6
   clear c6
   replace H:=zo H
   obtain ⟨t37002,A80,H⟩:=H
   replace H:(if t37002=true then (spec_IsTerm.l0 k1 a0 (wrap64 (x3_1+1))) else (some false))=some r:=H
   have A8:=zk A80
   clear A80
   by_cases c9:t37002=true
   subst c9
   have H1:(spec_IsTerm.l0 k1 a0 (wrap64 (x3_1+1)))=some r:=by rw [if_pos rfl] at H;exact H
   clear H
   have H:=H1
   clear H1
   have H':=zk H
   clear H
   have fin0_:=zk trivial
   rotate_left
   replace c9:=Bool.eq_false_iff.mpr c9
   subst c9
   have H1:(some false)=some r:=by rw [if_neg (show ¬ (false=true) by decide)] at H;exact H
   clear H
   have H:=H1
   clear H1
   obtain rfl:=zi H
   have fin1_:=zk trivial
   rotate_left
   · rw [if_neg c6] at H
     have c6b0:decide (t37001 < 0)=false:=decide_eq_false c6
     clear c6
     have H':=zk H
     clear H
     have p4:0≤(x3_1:Int):=of_decide_eq_true za8
     have q4:x3_1 < (a0.size:Int):=of_decide_eq_true za8
     have hx4:=bt_at a0 x3_1
     replace p4:=eq_true p4
     replace q4:=eq_true q4
     go_wp2_with (first|((with_reducible refine gate_callee (f:=56) rfl ?_);refine goesL_ (some 13) rfl rfl Tryd.func56 (by kernel_rfl) rfl #[.int .u8 (bt a0 x3_1)] rfl za5 ?_;(with_reducible refine (spec_LetterIndex.calls k1 (bt a0 x3_1) t37001 _ A5.out).mono ?_);rintro e w' ⟨rfl,⟨nd,rfl⟩⟩;refine ⟨_,rfl,?_⟩))
     go_roundg k1
     case measure=>have:=HK1.out;omega
     case rel=>exact ⟨(wrap64 (x3_1+1)),za7,H',⟨za13⟩,za9⟩
   · rw [if_neg c3] at H
     exact absurd H (by simp)
   · rw [if_neg c2] at H
     have c2b0:decide (x3_1 < (a0.size:Int))=false:=decide_eq_false c2
     clear c2
     obtain rfl:=zi H
     go_wp2
     go_ret
     exact ⟨za7,za9⟩
   all_goals
    have p4:0≤(x3_1:Int):=of_decide_eq_true za8
    have q4:x3_1 < (a0.size:Int):=of_decide_eq_true za8
    have hx4:=bt_at a0 x3_1
    replace p4:=eq_true p4
    replace q4:=eq_true q4
    go_wp2_with (first|((with_reducible refine gate_callee (f:=56) rfl ?_);refine goesL_ (some 13) rfl rfl Tryd.func56 (by kernel_rfl) rfl #[.int .u8 (bt a0 x3_1)] rfl za5 ?_;(with_reducible refine (spec_LetterIndex.calls k1 (bt a0 x3_1) t37001 _ A5.out).mono ?_);rintro e w' ⟨rfl,⟨nd,rfl⟩⟩;refine ⟨_,rfl,?_⟩;have p7:0≤(x3_1:Int):=of_decide_eq_true za8;have q7:x3_1 < (a0.size:Int):=of_decide_eq_true za8;have hx7:=bt_at a0 x3_1;replace p7:=eq_true p7;replace q7:=eq_true q7)|(go_at_call 57;(with_reducible refine (spec_l8Var.calls (bt a0 x3_1) _ _ A8.out).mono ?_);rintro e w' ⟨rfl,⟨nd,rfl⟩⟩))
    first
    | (
      clear fin0_
      go_roundg k1
      case measure=>have:=HK1.out;omega
      case rel=>exact ⟨(wrap64 (x3_1+1)),za7,H',⟨za13⟩,za9⟩)
    | (
      clear fin1_
      go_ret
      exact ⟨za7,za9⟩)
def spec_l1Max.f (a0:Int) (a1:Int):Option (Int):=if a0 > a1 then (some a0) else (some a1)
theorem spec_l1Max.calls (a0:Int) (a1:Int) (r:Int) (w:World) (h:spec_l1Max.f a0 a1=some r) :
   Calls Tryd.prog 70 #[.int .i64 a0,.int .i64 a1] w fun e w'=>e = .returned (.int .i64 r)∧Drawn0 w w':=by
 have H:(if a0 > a1 then (some a0) else (some a1))=some r:=h
 clear h
 by_cases c3:a0 > a1
 rw [if_pos c3] at H
 have c3b0:decide (a1 < a0)=true:=decide_eq_true c3
 rotate_left
 rw [if_neg c3] at H
 have c3b0:decide (a1 < a0)=false:=decide_eq_false c3
 rotate_left
 all_goals
  clear c3
  obtain rfl:=zi H
  go_enter Tryd.func70,Tryd.ntmps70
  go_wp2
  go_ret
  exact ⟨za7,za9⟩
def spec_l1In.f (a0:Int) (a1:Int) (a2:Int):Option (Bool):=if a0 ≥ a1 then (some (decide (a0≤a2))) else (some false)
theorem spec_l1In.calls (a0:Int) (a1:Int) (a2:Int) (r:Bool) (w:World) (h:spec_l1In.f a0 a1 a2=some r) :
   Calls Tryd.prog 41 #[.int .i64 a0,.int .i64 a1,.int .i64 a2] w fun e w'=>e = .returned (.bool r)∧Drawn0 w w':=by
 have H:(if a0 ≥ a1 then (some (decide (a0≤a2))) else (some false))=some r:=h
 clear h
 by_cases c4:a0 ≥ a1
 rw [if_pos c4] at H
 have c4b0:decide (a1≤a0)=true:=decide_eq_true c4
 rotate_left
 rw [if_neg c4] at H
 have c4b0:decide (a1≤a0)=false:=decide_eq_false c4
 rotate_left
 all_goals
  clear c4
  obtain rfl:=zi H
  go_enter Tryd.func41,Tryd.ntmps41
  go_wp2
  go_ret
  exact ⟨za7,za9⟩
def spec_FormatInt.l0:Nat→Int→Bool→ByteArray→Option (ByteArray)
 | 0,_,_,_=>none
 | k+1,x0,x3,x4=>if x0=0 then (if x3=true then (if 1+x4.size≤9223372036854775807 then (some ((⟨#[45]⟩:ByteArray) ++ x4)) else (none)) else (some x4)) else (if (Int.tmod x0 10) < 0 then ((some (([(wrap64 (48+(wrap64 (-(Int.tmod x0 10))))) % 256]:List Int):List Int)).bind fun y20001=>(if (strOfNums y20001).size+x4.size≤9223372036854775807 then (spec_FormatInt.l0 k (wrap64 (Int.tdiv x0 10)) x3 ((strOfNums y20001) ++ x4)) else (none))) else ((some (([(wrap64 (48+(Int.tmod x0 10))) % 256]:List Int):List Int)).bind fun y20004=>(if (strOfNums y20004).size+x4.size≤9223372036854775807 then (spec_FormatInt.l0 k (wrap64 (Int.tdiv x0 10)) x3 ((strOfNums y20004) ++ x4)) else (none))))
def spec_FormatInt.f (k:Nat) (a0:Int):Option (ByteArray):=if a0=0 then (some (⟨#[48]⟩:ByteArray)) else (spec_FormatInt.l0 k a0 (decide (a0 < 0)) (⟨#[]⟩:ByteArray))
theorem spec_FormatInt.mono_l:∀ k,(∀ y0 y1 y2,LeO (spec_FormatInt.l0 k y0 y1 y2) (spec_FormatInt.l0 (k+1) y0 y1 y2))
 | 0=>fun _ _ _ r h=>by simp [spec_FormatInt.l0] at h
 | k+1=>by
  have ih0:=spec_FormatInt.mono_l k
  ·intro y0 y1 y2
   unfold spec_FormatInt.l0
   repeat' first
   | (with_reducible exact ih0 _ _ _)
   | (with_reducible exact LeO.refl _)
   | (with_reducible exact LeO.none _)
   | (with_reducible refine LeO.ite ?_ ?_)
   | (with_reducible refine LeO.bind ?_ (fun _=>?_))
theorem spec_FormatInt.mono:∀ a0 k,LeO (spec_FormatInt.f k a0) (spec_FormatInt.f (k+1) a0):=by
 intro a0 k
 have ih0:=spec_FormatInt.mono_l k
 unfold spec_FormatInt.f
 repeat' first
  | (with_reducible exact ih0 _ _ _)
  | (with_reducible exact LeO.refl _)
  | (with_reducible exact LeO.none _)
  | (with_reducible refine LeO.ite ?_ ?_)
  | (with_reducible refine LeO.bind ?_ (fun _=>?_))
theorem spec_FormatInt.calls (k:Nat) (a0:Int) (r:ByteArray) (w:World) (h:spec_FormatInt.f k a0=some r) :
  Calls Tryd.prog 20 #[.int .i64 a0] w fun e w'=>e = .returned (.string r)∧Below w.heap.size w w':=by
 have HB:=zk (Below.refl w.heap.size w)
 have H:(if a0=0 then (some (⟨#[48]⟩:ByteArray)) else (spec_FormatInt.l0 k a0 (decide (a0 < 0)) (⟨#[]⟩:ByteArray)))=some r:=h
 clear h
 obtain ⟨bl,hbl⟩:∃ bl,decide (a0 < 0)=bl:=⟨_,rfl⟩
 rw [hbl] at H
 by_cases c2:a0=0
 ·rw [if_pos c2] at H
  have c2b0:(a0 == 0)=true:=beq_iff_eq.mpr c2
  have c2b1:(a0 != 0)=false:=bne_eq_false_iff_eq.mpr c2
  clear c2
  obtain rfl:=zi H
  go_enter Tryd.func20,Tryd.ntmps20
  go_wp2
  go_ret
  exact ⟨za6,za11⟩
 ·rw [if_neg c2] at H
  have c2b0:(a0 == 0)=false:=beq_eq_false_iff_ne.mpr c2
  have c2b1:(a0 != 0)=true:=bne_iff_ne.mpr c2
  have H':=zk H
  clear H
  go_enter Tryd.func20,Tryd.ntmps20
  go_wp2
  first|go_loopg [0,4] k (fun kq v0 v4 w'=>∃ (x0_1:Int) (x4_1:ByteArray),v0 = .int .i64 x0_1∧v4 = .string x4_1∧Aside0 (spec_FormatInt.l0 kq x0_1 bl x4_1=some r)∧Aside0 (kq≤k)∧Aside0 (Below w.heap.size w w'))|(simp only [Act.put,zt,zv,zu];go_loopg [0,4] k (fun kq v0 v4 w'=>∃ (x0_1:Int) (x4_1:ByteArray),v0 = .int .i64 x0_1∧v4 = .string x4_1∧Aside0 (spec_FormatInt.l0 kq x0_1 bl x4_1=some r)∧Aside0 (kq≤k)∧Aside0 (Below w.heap.size w w')))
  case atStart=>exact ⟨(a0),((⟨#[]⟩:ByteArray)),za7,za7,H',⟨Nat.le_refl _⟩,⟨za11⟩⟩
  case round =>
   clear H'
   try clear c2
   try clear c2b0
   try clear c2b1
   try clear p2
   obtain ⟨x0_1,x4_1,rfl,rfl,HA,HK1,HB⟩:=hrel
   cases gk with
   | zero=>exact absurd HA.out (by simp [spec_FormatInt.l0])
   | succ k1 =>
    have H:=HA.out
    clear HA
    simp only [spec_FormatInt.l0] at H
    by_cases c3:x0_1=0
    ·rw [if_pos c3] at H
     have c3b0:(x0_1 == 0)=true:=beq_iff_eq.mpr c3
     have c3b1:(x0_1 != 0)=false:=bne_eq_false_iff_eq.mpr c3
     clear c3
     by_cases c4:bl=true
     ·rw [if_pos c4] at H
      subst c4
      by_cases c5:1+x4_1.size≤9223372036854775807
      ·rw [if_pos c5] at H
       have c5z:=c5
       try simp at c5z
       try replace c5z:=eq_false (Nat.not_lt.2 c5z)
       have c5b0:=eq_true c5
       have c5b1:decide (1+x4_1.size≤9223372036854775807)=true:=decide_eq_true c5
       try have c5b2:(9223372036854775807 < 1+x4_1.size)=False:=eq_false (Nat.not_lt.2 c5)
       obtain rfl:=zi H
       go_wp2
       go_ret
       exact ⟨za6,za11⟩
      ·rw [if_neg c5] at H
       exact absurd H (by simp)
     ·rw [if_neg c4] at H
      replace c4:=Bool.eq_false_iff.mpr c4
      subst c4
      obtain rfl:=zi H
      go_wp2
      go_ret
      exact ⟨za6,za11⟩
    ·rw [if_neg c3] at H
     have c3b0:(x0_1 == 0)=false:=beq_eq_false_iff_ne.mpr c3
     have c3b1:(x0_1 != 0)=true:=bne_iff_ne.mpr c3
     by_cases c6:(Int.tmod x0_1 10) < 0
     ·rw [if_pos c6] at H
      have c6b0:decide ((Int.tmod x0_1 10) < 0)=true:=decide_eq_true c6
      clear c6
      obtain ⟨y20001,hy20001⟩:∃ y_:List Int,y_=(([(wrap64 (48+(wrap64 (-(Int.tmod x0_1 10))))) % 256]:List Int)):=⟨_,rfl⟩
      replace H:(if (strOfNums y20001).size+x4_1.size≤9223372036854775807 then (spec_FormatInt.l0 k1 (wrap64 (Int.tdiv x0_1 10)) bl ((strOfNums y20001) ++ x4_1)) else (none))=some r:=by first|(rw [hy20001];with_reducible exact H)|(have H2_:=(Option.bind_some _ _).symm.trans H;rw [hy20001];with_reducible exact H2_)|(have H2_:=(Option.bind_some _ _).symm.trans H;with_reducible exact H2_)|with_reducible exact H|(rw [hy20001];exact H)|exact H
      have Ny20001:=zk hy20001
      clear hy20001
      by_cases c7:(strOfNums y20001).size+x4_1.size≤9223372036854775807
      ·rw [if_pos c7] at H
       have c7z:=c7
       try simp at c7z
       try replace c7z:=eq_false (Nat.not_lt.2 c7z)
       have c7b0:=eq_true c7
       have c7b1:decide ((strOfNums y20001).size+x4_1.size≤9223372036854775807)=true:=decide_eq_true c7
       try have c7b2:(9223372036854775807 < (strOfNums y20001).size+x4_1.size)=False:=eq_false (Nat.not_lt.2 c7)
       have H':=zk H
       clear H
       go_wp2_with (first|((with_reducible refine gate_dst (N:=21) rfl ?_);refine Kd.R_lit (Kd.int .u8) _ 5 ?hg (N:=21) ?hd (xs:=([(wrap64 (48+(wrap64 (-(Int.tmod x0_1 10))))) % 256]:List Int)) (inner:=[.int .u8 ((wrap64 (48+(wrap64 (-(Int.tmod x0_1 10))))) % 256)]) (ok:=fun _=>True) (okp:=fun _=>True) ?hr ?hp (fun _ hk=>hk) trivial (Below.refl _ _) (Nat.le_refl _) (by simp) ?_;(case hd=>rfl);(case hg=>rfl);(case hr=>first|(go_simp;done)|(go_simp;rfl));(case hp=>exact (Reps.one (show Kd.M (Kd.int .u8) _ _ _ ((wrap64 (48+(wrap64 (-(Int.tmod x0_1 10))))) % 256) [.int .u8 ((wrap64 (48+(wrap64 (-(Int.tmod x0_1 10))))) % 256)] from rfl) (Reps.none _ _)));intro v20002 w8 ho9 hb hg_ hnew_;clear hg_ hnew_;(first|rw [← Ny20001.out] at ho9|(simp only [Int.reduceToNat] at ho9;rw [← Ny20001.out] at ho9));have n0_:=zk (Kd.R_lower ho9 (below_size za11));have n1_:=zk (below_step za11 hb);clear HB;have HO20003:=n0_;have HB:=n1_;clear n0_ n1_;clear hb ho9;have hcv10:=own_string (P:=Tryd.prog) Tryd.underlying70 Tryd.underlying5 Tryd.underlying9 (Kd.own_of_R HO20003.out)))
       go_roundg k1
       case measure=>have:=HK1.out;omega
       case rel=>exact ⟨(wrap64 (Int.tdiv x0_1 10)),((strOfNums y20001) ++ x4_1),za7,za7,H',⟨za13⟩,⟨za11⟩⟩
      ·rw [if_neg c7] at H
       exact absurd H (by simp)
     ·rw [if_neg c6] at H
      have c6b0:decide ((Int.tmod x0_1 10) < 0)=false:=decide_eq_false c6
      clear c6
      obtain ⟨y20004,hy20004⟩:∃ y_:List Int,y_=(([(wrap64 (48+(Int.tmod x0_1 10))) % 256]:List Int)):=⟨_,rfl⟩
      replace H:(if (strOfNums y20004).size+x4_1.size≤9223372036854775807 then (spec_FormatInt.l0 k1 (wrap64 (Int.tdiv x0_1 10)) bl ((strOfNums y20004) ++ x4_1)) else (none))=some r:=by first|(rw [hy20004];with_reducible exact H)|(have H2_:=(Option.bind_some _ _).symm.trans H;rw [hy20004];with_reducible exact H2_)|(have H2_:=(Option.bind_some _ _).symm.trans H;with_reducible exact H2_)|with_reducible exact H|(rw [hy20004];exact H)|exact H
      have Ny20004:=zk hy20004
      clear hy20004
      by_cases c11:(strOfNums y20004).size+x4_1.size≤9223372036854775807
      ·rw [if_pos c11] at H
       have c11z:=c11
       try simp at c11z
       try replace c11z:=eq_false (Nat.not_lt.2 c11z)
       have c11b0:=eq_true c11
       have c11b1:decide ((strOfNums y20004).size+x4_1.size≤9223372036854775807)=true:=decide_eq_true c11
       try have c11b2:(9223372036854775807 < (strOfNums y20004).size+x4_1.size)=False:=eq_false (Nat.not_lt.2 c11)
       have H':=zk H
       clear H
       go_wp2_with (first|((with_reducible refine gate_dst (N:=21) rfl ?_);refine Kd.R_lit (Kd.int .u8) _ 5 ?hg (N:=21) ?hd (xs:=([(wrap64 (48+(Int.tmod x0_1 10))) % 256]:List Int)) (inner:=[.int .u8 ((wrap64 (48+(Int.tmod x0_1 10))) % 256)]) (ok:=fun _=>True) (okp:=fun _=>True) ?hr ?hp (fun _ hk=>hk) trivial (Below.refl _ _) (Nat.le_refl _) (by simp) ?_;(case hd=>rfl);(case hg=>rfl);(case hr=>first|(go_simp;done)|(go_simp;rfl));(case hp=>exact (Reps.one (show Kd.M (Kd.int .u8) _ _ _ ((wrap64 (48+(Int.tmod x0_1 10))) % 256) [.int .u8 ((wrap64 (48+(Int.tmod x0_1 10))) % 256)] from rfl) (Reps.none _ _)));intro v20005 w12 ho13 hb hg_ hnew_;clear hg_ hnew_;(first|rw [← Ny20004.out] at ho13|(simp only [Int.reduceToNat] at ho13;rw [← Ny20004.out] at ho13));have n0_:=zk (Kd.R_lower ho13 (below_size za11));have n1_:=zk (below_step za11 hb);clear HB;have HO20006:=n0_;have HB:=n1_;clear n0_ n1_;clear hb ho13;have hcv14:=own_string (P:=Tryd.prog) Tryd.underlying70 Tryd.underlying5 Tryd.underlying9 (Kd.own_of_R HO20006.out)))
       go_roundg k1
       case measure=>have:=HK1.out;omega
       case rel=>exact ⟨(wrap64 (Int.tdiv x0_1 10)),((strOfNums y20004) ++ x4_1),za7,za7,H',⟨za13⟩,⟨za11⟩⟩
      ·rw [if_neg c11] at H
       exact absurd H (by simp)
mutual
def spec_l3Left.l0:Nat→Int→Int→Int→ByteArray→List (S32)→Option (Int)
 | 0,_,_,_,_,_=>none
 | k+1,x1,x5,x58002000,x58002001,x58002002=>if x5 < (x58002002.length:Int) then (if x1 ≥ 0 then (if 0≤x5 then ((spec_l3Left.f k ((rd_T32 x58002002 x5).f0) ((rd_T32 x58002002 x5).f1) ((rd_T32 x58002002 x5).f2) x1).bind fun t58003=>(spec_l3Left.l0 k t58003 (wrap64 (x5+1)) x58002000 x58002001 x58002002)) else (none)) else (some x1)) else (some x1)
def spec_l3Left.f:Nat→Int→ByteArray→List (S32)→Int→Option (Int)
 | 0,_,_,_,_=>none
 | k+1,a0_0,a0_1,l0_2,a1=>spec_l3Left.l0 k (wrap64 (a1 - 1)) 0 a0_0 a0_1 l0_2
end
theorem spec_l3Left.mono_l:∀ k,(∀ y0 y1 y2 y3,LeO (spec_l3Left.f k y0 y1 y2 y3) (spec_l3Left.f (k+1) y0 y1 y2 y3))∧(∀ y0 y1 y2 y3 y4,LeO (spec_l3Left.l0 k y0 y1 y2 y3 y4) (spec_l3Left.l0 (k+1) y0 y1 y2 y3 y4))
 | 0=>⟨fun _ _ _ _ r h=>by simp [spec_l3Left.f] at h,fun _ _ _ _ _ r h=>by simp [spec_l3Left.l0] at h⟩
 | k+1=>by
  obtain ⟨ih0,ih1⟩:=spec_l3Left.mono_l k
  refine ⟨?_,?_⟩
  ·intro y0 y1 y2 y3
   unfold spec_l3Left.f
   repeat' first
   | with_reducible first|exact ih0 _ _ _ _|exact ih1 _ _ _ _ _|exact LeO.refl _|exact LeO.none _|refine LeO.ite ?_ ?_|refine LeO.bind ?_ (fun _=>?_)
  ·intro y0 y1 y2 y3 y4
   unfold spec_l3Left.l0
   repeat' first
   | with_reducible first|exact ih0 _ _ _ _|exact ih1 _ _ _ _ _|exact LeO.refl _|exact LeO.none _|refine LeO.ite ?_ ?_|refine LeO.bind ?_ (fun _=>?_)
theorem spec_l3Left.mono:∀ a0 a1 a2 a3 k,LeO (spec_l3Left.f k a0 a1 a2 a3) (spec_l3Left.f (k+1) a0 a1 a2 a3):=by
 intro a0 a1 a2 a3 k
 obtain ⟨ih0,ih1⟩:=spec_l3Left.mono_l k
 exact ih0 a0 a1 a2 a3
theorem spec_l3Left.calls (k:Nat):∀ (a0_0:Int) (a0_1:ByteArray) (A0_2:Option Addr) (c0_2:Nat) (l0_2:List (S32)) (a1:Int) (r:Int) (w:World) (hr0_2:Kd.C k32 w A0_2 l0_2.length l0_2) (hc0_2:l0_2.length≤c0_2) (h:spec_l3Left.f k a0_0 a0_1 l0_2 a1=some r),
   Calls Tryd.prog 58 #[.agg #[.int .i64 a0_0,.string a0_1,.slice A0_2 l0_2.length c0_2],.int .i64 a1] w fun e w'=>e = .returned (.int .i64 r)∧Below w.heap.size w w':=by
 induction k using Nat.strongRecOn with
 | _ k ih =>
 intro a0_0 a0_1 A0_2 c0_2 l0_2 a1 r w hr0_2 hc0_2 h
 cases k with
 | zero=>exact absurd h (by simp [spec_l3Left.f])
 | succ k =>
 simp only [spec_l3Left.f] at h
 have hu32:=Tryd.underlying32
 have HR0_2:=zk hr0_2
 have HC0_2:=zk hc0_2
 clear hr0_2 hc0_2
 have HB:=zk (Below.refl w.heap.size w)
 have H:(spec_l3Left.l0 k (wrap64 (a1 - 1)) 0 a0_0 a0_1 l0_2)=some r:=h
 clear h
 have H':=zk H
 clear H
 go_enter Tryd.func58,Tryd.ntmps58
 go_wp2_with (first|((with_reducible refine gate_dst (N:=2) rfl ?_);refine zE (N:=2) (cs:=#[.int .i64 a0_0,.string a0_1,.slice A0_2 l0_2.length c0_2]) (t:=32) ?_;intro gb58001 hg w3 hbox hb;have n0_:=zk (below_step za2 hb);have n1_:=zk (hbox);have n2_:=zk (zs (w:=w) hg za2);have n3_:=zk (zs (w:=w) hg za2);clear HB;have HB:=n0_;have BK58001:=n1_;have GW58001:=n2_;have GE58001:=n3_;clear n0_ n1_ n2_ n3_;clear hb hbox hg))
 first|go_loopg [1,5] k (fun kq v1 v5 w'=>∃ (x1_1:Int) (x5_1:Int),v1 = .int .i64 x1_1∧v5 = .int .i64 x5_1∧Aside0 (spec_l3Left.l0 kq x1_1 x5_1 a0_0 a0_1 l0_2=some r)∧Aside0 (kq≤k)∧Aside0 (w'.heap[gb58001]? = some (.cells #[.int .i64 a0_0,.string a0_1,(.slice A0_2 l0_2.length c0_2)] 32 (0,0)))∧Aside0 (Below w.heap.size w w'))|(simp only [Act.put,zt,zv,zu];go_loopg [1,5] k (fun kq v1 v5 w'=>∃ (x1_1:Int) (x5_1:Int),v1 = .int .i64 x1_1∧v5 = .int .i64 x5_1∧Aside0 (spec_l3Left.l0 kq x1_1 x5_1 a0_0 a0_1 l0_2=some r)∧Aside0 (kq≤k)∧Aside0 (w'.heap[gb58001]? = some (.cells #[.int .i64 a0_0,.string a0_1,(.slice A0_2 l0_2.length c0_2)] 32 (0,0)))∧Aside0 (Below w.heap.size w w')))
 case atStart=>exact ⟨(wrap64 (a1 - 1)),(0),za7,za7,H',⟨Nat.le_refl _⟩,⟨za0 BK58001.out⟩,⟨za2⟩⟩
 case round =>
  clear H'
  obtain ⟨x1_1,x5_1,rfl,rfl,HA,HK1,BK58001,HB⟩:=hrel
  cases gk with
  | zero=>exact absurd HA.out (by simp [spec_l3Left.l0])
  | succ k1 =>
   have H:=HA.out
   clear HA
   simp only [spec_l3Left.l0] at H
   by_cases c4:x5_1 < (l0_2.length:Int)
   rw [if_pos c4] at H
   have c4b0:decide (x5_1 < (l0_2.length:Int))=true:=decide_eq_true c4
   clear c4
   by_cases c5:x1_1 ≥ 0
   rw [if_pos c5] at H
   have c5b0:decide (0≤x1_1)=true:=decide_eq_true c5
   clear c5
   by_cases c6:0≤x5_1
   · rw [if_pos c6] at H
     have c6b0:decide (0≤x5_1)=true:=decide_eq_true c6
     clear c6
     replace H:=zo H
     obtain ⟨t58003,A70,H⟩:=H
     replace H:(spec_l3Left.l0 k1 t58003 (wrap64 (x5_1+1)) a0_0 a0_1 l0_2)=some r:=H
     have A7:=zk A70
     clear A70
     have H':=zk H
     clear H
     obtain ⟨hcz8_0,hcz8_1,hcz8_2,hfz8_0,hfz8_1,hfz8_2⟩:=blk3 BK58001.out
     have p58002:0≤(x5_1:Int):=of_decide_eq_true za8
     have q58002:x5_1 < (l0_2.length:Int):=of_decide_eq_true za8
     obtain ⟨ad58002,A58002_2,c58002_2,e58002,hx58002_0,hx58002_1,hx58002_2,hl58002_2,hi58002_2⟩:=at_T32 HR0_2.out x5_1 p58002 q58002
     cases e58002
     replace hx58002_0:=zx HB.out hx58002_0
     replace hx58002_1:=zx HB.out hx58002_1
     replace hx58002_2:=zx HB.out hx58002_2
     have HR58002_2:=zk hi58002_2
     have HC58002_2:=zk hl58002_2
     clear hi58002_2 hl58002_2
     replace p58002:=eq_true p58002
     replace q58002:=eq_true q58002
     go_wp2_with (first|((with_reducible refine gate_callee (f:=58) rfl ?_);refine goesL_ (some 25) rfl rfl Tryd.func58 (by kernel_rfl) rfl #[.agg #[.int .i64 ((rd_T32 l0_2 x5_1).f0),.string ((rd_T32 l0_2 x5_1).f1),.slice A58002_2 ((rd_T32 l0_2 x5_1).f2).length c58002_2],.int .i64 x1_1] rfl za5 ?_;(with_reducible refine (ih k1 za13 ((rd_T32 l0_2 x5_1).f0) ((rd_T32 l0_2 x5_1).f1) _ _ ((rd_T32 l0_2 x5_1).f2) x1_1 t58003 _ ?side1 ?side2 A7.out).mono ?_);(case side1=>repeat (first|exact (Kd.C_below HR58002_2.out HB.out)|(with_reducible refine Kd.C_alloc ?_ _)|(with_reducible refine Kd.C_drewN ?_ _)|(with_reducible refine Kd.C_drew ?_)));(case side2=>exact HC58002_2.out);rintro e w9 ⟨rfl,hb⟩;refine ⟨_,rfl,?_⟩;have n0_:=zk (zb BK58001.out hb);have n1_:=zk (below_step za2 hb);clear BK58001;clear HB;have BK58001:=n0_;have HB:=n1_;clear n0_ n1_;(try clear hb);(try clear hb2);(try clear hk);(try clear hi)))
     go_roundg k1
     case measure=>have:=HK1.out;omega
     case rel=>exact ⟨(t58003),(wrap64 (x5_1+1)),za7,za7,H',⟨za13⟩,⟨za0 BK58001.out⟩,⟨za2⟩⟩
   · rw [if_neg c6] at H
     exact absurd H (by simp)
   rw [if_neg c5] at H
   have c5b0:decide (0≤x1_1)=false:=decide_eq_false c5
   clear c5
   rotate_left
   rw [if_neg c4] at H
   have c4b0:decide (x5_1 < (l0_2.length:Int))=false:=decide_eq_false c4
   clear c4
   rotate_left
   all_goals
    obtain rfl:=zi H
    obtain ⟨hcz10_0,hcz10_1,hcz10_2,hfz10_0,hfz10_1,hfz10_2⟩:=blk3 BK58001.out
    go_wp2
    go_ret
    exact ⟨za6,za2⟩
mutual
def spec_l3Depth.l0:Nat→Int→Int→Int→ByteArray→List (S32)→Option (Int)
 | 0,_,_,_,_,_=>none
 | k+1,x3,x4,x59002000,x59002001,x59002002=>if x4 < (x59002002.length:Int) then (if 0≤x4 then ((spec_l3Depth.f k ((rd_T32 x59002002 x4).f0) ((rd_T32 x59002002 x4).f1) ((rd_T32 x59002002 x4).f2)).bind fun t59003=>((spec_l1Max.f x3 t59003).bind fun t59004=>(spec_l3Depth.l0 k t59004 (wrap64 (x4+1)) x59002000 x59002001 x59002002))) else (none)) else (some (wrap64 (x3+1)))
def spec_l3Depth.f:Nat→Int→ByteArray→List (S32)→Option (Int)
 | 0,_,_,_=>none
 | k+1,a0_0,a0_1,l0_2=>spec_l3Depth.l0 k 0 0 a0_0 a0_1 l0_2
end
theorem spec_l3Depth.mono_l:∀ k,(∀ y0 y1 y2,LeO (spec_l3Depth.f k y0 y1 y2) (spec_l3Depth.f (k+1) y0 y1 y2))∧(∀ y0 y1 y2 y3 y4,LeO (spec_l3Depth.l0 k y0 y1 y2 y3 y4) (spec_l3Depth.l0 (k+1) y0 y1 y2 y3 y4))
 | 0=>⟨fun _ _ _ r h=>by simp [spec_l3Depth.f] at h,fun _ _ _ _ _ r h=>by simp [spec_l3Depth.l0] at h⟩
 | k+1=>by
  obtain ⟨ih0,ih1⟩:=spec_l3Depth.mono_l k
  refine ⟨?_,?_⟩
  ·intro y0 y1 y2
   unfold spec_l3Depth.f
   repeat' first
   | with_reducible first|exact ih0 _ _ _|exact ih1 _ _ _ _ _|exact LeO.refl _|exact LeO.none _|refine LeO.ite ?_ ?_|refine LeO.bind ?_ (fun _=>?_)
  ·intro y0 y1 y2 y3 y4
   unfold spec_l3Depth.l0
   repeat' first
   | with_reducible first|exact ih0 _ _ _|exact ih1 _ _ _ _ _|exact LeO.refl _|exact LeO.none _|refine LeO.ite ?_ ?_|refine LeO.bind ?_ (fun _=>?_)
theorem spec_l3Depth.mono:∀ a0 a1 a2 k,LeO (spec_l3Depth.f k a0 a1 a2) (spec_l3Depth.f (k+1) a0 a1 a2):=by
 intro a0 a1 a2 k
 obtain ⟨ih0,ih1⟩:=spec_l3Depth.mono_l k
 exact ih0 a0 a1 a2
theorem spec_l3Depth.calls (k:Nat):∀ (a0_0:Int) (a0_1:ByteArray) (A0_2:Option Addr) (c0_2:Nat) (l0_2:List (S32)) (r:Int) (w:World) (hr0_2:Kd.C k32 w A0_2 l0_2.length l0_2) (hc0_2:l0_2.length≤c0_2) (h:spec_l3Depth.f k a0_0 a0_1 l0_2=some r),
   Calls Tryd.prog 59 #[.agg #[.int .i64 a0_0,.string a0_1,.slice A0_2 l0_2.length c0_2]] w fun e w'=>e = .returned (.int .i64 r)∧Below w.heap.size w w':=by
 induction k using Nat.strongRecOn with
 | _ k ih =>
 intro a0_0 a0_1 A0_2 c0_2 l0_2 r w hr0_2 hc0_2 h
 cases k with
 | zero=>exact absurd h (by simp [spec_l3Depth.f])
 | succ k =>
 simp only [spec_l3Depth.f] at h
 have hu32:=Tryd.underlying32
 have HR0_2:=zk hr0_2
 have HC0_2:=zk hc0_2
 clear hr0_2 hc0_2
 have HB:=zk (Below.refl w.heap.size w)
 have H:(spec_l3Depth.l0 k 0 0 a0_0 a0_1 l0_2)=some r:=h
 clear h
 have H':=zk H
 clear H
 go_enter Tryd.func59,Tryd.ntmps59
 go_wp2_with (first|((with_reducible refine gate_dst (N:=1) rfl ?_);refine zE (N:=1) (cs:=#[.int .i64 a0_0,.string a0_1,.slice A0_2 l0_2.length c0_2]) (t:=32) ?_;intro gb59001 hg w2 hbox hb;have n0_:=zk (below_step za2 hb);have n1_:=zk (hbox);have n2_:=zk (zs (w:=w) hg za2);have n3_:=zk (zs (w:=w) hg za2);clear HB;have HB:=n0_;have BK59001:=n1_;have GW59001:=n2_;have GE59001:=n3_;clear n0_ n1_ n2_ n3_;clear hb hbox hg))
 first|go_loopg [3,4] k (fun kq v3 v4 w'=>∃ (x3_1:Int) (x4_1:Int),v3 = .int .i64 x3_1∧v4 = .int .i64 x4_1∧Aside0 (spec_l3Depth.l0 kq x3_1 x4_1 a0_0 a0_1 l0_2=some r)∧Aside0 (kq≤k)∧Aside0 (w'.heap[gb59001]? = some (.cells #[.int .i64 a0_0,.string a0_1,(.slice A0_2 l0_2.length c0_2)] 32 (0,0)))∧Aside0 (Below w.heap.size w w'))|(simp only [Act.put,zt,zv,zu];go_loopg [3,4] k (fun kq v3 v4 w'=>∃ (x3_1:Int) (x4_1:Int),v3 = .int .i64 x3_1∧v4 = .int .i64 x4_1∧Aside0 (spec_l3Depth.l0 kq x3_1 x4_1 a0_0 a0_1 l0_2=some r)∧Aside0 (kq≤k)∧Aside0 (w'.heap[gb59001]? = some (.cells #[.int .i64 a0_0,.string a0_1,(.slice A0_2 l0_2.length c0_2)] 32 (0,0)))∧Aside0 (Below w.heap.size w w')))
 case atStart=>exact ⟨(0),(0),za7,za7,H',⟨Nat.le_refl _⟩,⟨za0 BK59001.out⟩,⟨za2⟩⟩
 case round =>
  clear H'
  obtain ⟨x3_1,x4_1,rfl,rfl,HA,HK1,BK59001,HB⟩:=hrel
  cases gk with
  | zero=>exact absurd HA.out (by simp [spec_l3Depth.l0])
  | succ k1 =>
   have H:=HA.out
   clear HA
   simp only [spec_l3Depth.l0] at H
   by_cases c3:x4_1 < (l0_2.length:Int)
   rw [if_pos c3] at H
   have c3b0:decide (x4_1 < (l0_2.length:Int))=true:=decide_eq_true c3
   clear c3
   by_cases c4:0≤x4_1
   ·rw [if_pos c4] at H
    have c4b0:decide (0≤x4_1)=true:=decide_eq_true c4
    clear c4
    replace H:=zo H
    obtain ⟨t59003,A50,H⟩:=H
    replace H:((spec_l1Max.f x3_1 t59003).bind fun t59004=>(spec_l3Depth.l0 k1 t59004 (wrap64 (x4_1+1)) a0_0 a0_1 l0_2))=some r:=H
    have A5:=zk A50
    clear A50
    replace H:=zo H
    obtain ⟨t59004,A60,H⟩:=H
    replace H:(spec_l3Depth.l0 k1 t59004 (wrap64 (x4_1+1)) a0_0 a0_1 l0_2)=some r:=H
    have A6:=zk A60
    clear A60
    have H':=zk H
    clear H
    obtain ⟨hcz7_0,hcz7_1,hcz7_2,hfz7_0,hfz7_1,hfz7_2⟩:=blk3 BK59001.out
    have p59002:0≤(x4_1:Int):=of_decide_eq_true za8
    have q59002:x4_1 < (l0_2.length:Int):=of_decide_eq_true za8
    obtain ⟨ad59002,A59002_2,c59002_2,e59002,hx59002_0,hx59002_1,hx59002_2,hl59002_2,hi59002_2⟩:=at_T32 HR0_2.out x4_1 p59002 q59002
    cases e59002
    replace hx59002_0:=zx HB.out hx59002_0
    replace hx59002_1:=zx HB.out hx59002_1
    replace hx59002_2:=zx HB.out hx59002_2
    have HR59002_2:=zk hi59002_2
    have HC59002_2:=zk hl59002_2
    clear hi59002_2 hl59002_2
    replace p59002:=eq_true p59002
    replace q59002:=eq_true q59002
    go_wp2_with (first|((with_reducible refine gate_callee (f:=59) rfl ?_);refine goesL_ (some 18) rfl rfl Tryd.func59 (by kernel_rfl) rfl #[.agg #[.int .i64 ((rd_T32 l0_2 x4_1).f0),.string ((rd_T32 l0_2 x4_1).f1),.slice A59002_2 ((rd_T32 l0_2 x4_1).f2).length c59002_2]] rfl za5 ?_;(with_reducible refine (ih k1 za13 ((rd_T32 l0_2 x4_1).f0) ((rd_T32 l0_2 x4_1).f1) _ _ ((rd_T32 l0_2 x4_1).f2) t59003 _ ?side1 ?side2 A5.out).mono ?_);(case side1=>repeat (first|exact (Kd.C_below HR59002_2.out HB.out)|(with_reducible refine Kd.C_alloc ?_ _)|(with_reducible refine Kd.C_drewN ?_ _)|(with_reducible refine Kd.C_drew ?_)));(case side2=>exact HC59002_2.out);rintro e w8 ⟨rfl,hb⟩;refine ⟨_,rfl,?_⟩;have n0_:=zk (zb BK59001.out hb);have n1_:=zk (below_step za2 hb);clear BK59001;clear HB;have BK59001:=n0_;have HB:=n1_;clear n0_ n1_;(try clear hb);(try clear hb2);(try clear hk);(try clear hi))|((with_reducible refine gate_callee (f:=70) rfl ?_);refine goesL_ (some 19) rfl rfl Tryd.func70 (by kernel_rfl) rfl #[.int .i64 x3_1,.int .i64 t59003] rfl za5 ?_;(with_reducible refine (spec_l1Max.calls x3_1 t59003 t59004 _ A6.out).mono ?_);rintro e w' ⟨rfl,⟨nd,rfl⟩⟩;refine ⟨_,rfl,?_⟩))
    go_roundg k1
    case measure=>have:=HK1.out;omega
    case rel=>exact ⟨(t59004),(wrap64 (x4_1+1)),za7,za7,H',⟨za13⟩,⟨za0 BK59001.out⟩,⟨za2⟩⟩
   ·rw [if_neg c4] at H
    exact absurd H (by simp)
   ·rw [if_neg c3] at H
    have c3b0:decide (x4_1 < (l0_2.length:Int))=false:=decide_eq_false c3
    clear c3
    obtain rfl:=zi H
    obtain ⟨hcz9_0,hcz9_1,hcz9_2,hfz9_0,hfz9_1,hfz9_2⟩:=blk3 BK59001.out
    go_wp2
    go_ret
    exact ⟨za6,za2⟩
def spec_l3Args.j0:Nat→Int→Bool→Option (Int)
 | 0,_,_=>none
 | k+1,x3,x4=>if x4=true then (some 2) else (if x3=8 then (some 1) else (if x3=9 then (some 1) else (some 0)))
def spec_l3Args.f (k:Nat) (a0:Int):Option (Int):=if a0=5 then (spec_l3Args.j0 k a0 (a0 == 5)) else (if a0=6 then (spec_l3Args.j0 k a0 (a0 == 6)) else (spec_l3Args.j0 k a0 (a0 == 7)))
theorem spec_l3Args.mono_l:∀ k,(∀ y0 y1,LeO (spec_l3Args.j0 k y0 y1) (spec_l3Args.j0 (k+1) y0 y1))
 | 0=>fun _ _ r h=>by simp [spec_l3Args.j0] at h
 | k+1=>by
  have ih0:=spec_l3Args.mono_l k
  ·intro y0 y1
   unfold spec_l3Args.j0
   repeat' first
   | with_reducible first|exact ih0 _ _|exact LeO.refl _|exact LeO.none _|refine LeO.ite ?_ ?_|refine LeO.bind ?_ (fun _=>?_)
theorem spec_l3Args.mono:∀ a0 k,LeO (spec_l3Args.f k a0) (spec_l3Args.f (k+1) a0):=by
 intro a0 k
 have ih0:=spec_l3Args.mono_l k
 unfold spec_l3Args.f
 repeat' first
  | with_reducible first|exact ih0 _ _|exact LeO.refl _|exact LeO.none _|refine LeO.ite ?_ ?_|refine LeO.bind ?_ (fun _=>?_)
theorem spec_l3Args.calls (k:Nat) (a0:Int) (r:Int) (w:World) (h:spec_l3Args.f k a0=some r) :
   Calls Tryd.prog 72 #[.int .i64 a0] w fun e w'=>e = .returned (.int .i64 r)∧Drawn0 w w':=by
 have H:(if a0=5 then (spec_l3Args.j0 k a0 (a0 == 5)) else (if a0=6 then (spec_l3Args.j0 k a0 (a0 == 6)) else (spec_l3Args.j0 k a0 (a0 == 7))))=some r:=h
 clear h
 have HC2:=zk H
 clear H
 go_enter Tryd.func72,Tryd.ntmps72
 go_upto_if 4 with (fail)
 go_cut [4] (fun v4 wc=>∃ (kq:Nat) (x4_1:Bool),v4 = .bool x4_1∧Aside0 (spec_l3Args.j0 kq a0 x4_1=some r)∧Aside0 (kq≤k)∧Drawn0 w wc)
 case first =>
  have H:=HC2.out
  clear HC2
  by_cases c3:a0=5
  · rw [if_pos c3] at H
    have c3b0:(a0 == 5)=true:=beq_iff_eq.mpr c3
    have c3b1:(a0 != 5)=false:=bne_eq_false_iff_eq.mpr c3
    clear c3
    (first|rw [c3b0]|(simp only [i64_w,i32_w];rw [c3b0])|skip)
    have H':=zk H
    clear H
    go_wp2
    go_meet
    case rel=>exact ⟨_,((a0 == 5)),za7,H',⟨za17⟩,za9⟩
  rw [if_neg c3] at H
  have c3b0:(a0 == 5)=false:=beq_eq_false_iff_ne.mpr c3
  have c3b1:(a0 != 5)=true:=bne_iff_ne.mpr c3
  (first|rw [c3b0]|(simp only [i64_w,i32_w];rw [c3b0])|skip)
  by_cases c4:a0=6
  · rw [if_pos c4] at H
    have c4b0:(a0 == 6)=true:=beq_iff_eq.mpr c4
    have c4b1:(a0 != 6)=false:=bne_eq_false_iff_eq.mpr c4
    clear c4
    have H':=zk H
    clear H
    go_wp2
    go_meet
    case rel=>exact ⟨_,((a0 == 6)),za7,H',⟨za17⟩,za9⟩
  · rw [if_neg c4] at H
    have c4b0:(a0 == 6)=false:=beq_eq_false_iff_ne.mpr c4
    have c4b1:(a0 != 6)=true:=bne_iff_ne.mpr c4
    have H':=zk H
    clear H
    go_wp2
    go_meet
    case rel=>exact ⟨_,((a0 == 7)),za7,H',⟨za17⟩,za9⟩
 case rest =>
  clear HC2
  obtain ⟨kq,x4_1,rfl,HA,HJ1,⟨mc1,rfl⟩⟩:=hcut
  cases kq with
  | zero=>exact absurd HA.out (by simp [spec_l3Args.j0])
  | succ kj1 =>
   have H:=HA.out
   clear HA
   simp only [spec_l3Args.j0] at H
   by_cases c5:x4_1=true
   subst c5
   have H1:(some 2)=some r:=by rw [if_pos rfl] at H;exact H
   clear H
   have H:=H1
   clear H1
   rotate_left
   replace c5:=Bool.eq_false_iff.mpr c5
   subst c5
   have H1:(if a0=8 then (some 1) else (if a0=9 then (some 1) else (some 0)))=some r:=by rw [if_neg (show ¬ (false=true) by decide)] at H;exact H
   clear H
   have H:=H1
   clear H1
   by_cases c6:a0=8
   rw [if_pos c6] at H
   have c6b0:(a0 == 8)=true:=beq_iff_eq.mpr c6
   have c6b1:(a0 != 8)=false:=bne_eq_false_iff_eq.mpr c6
   clear c6
   rotate_left
   rw [if_neg c6] at H
   have c6b0:(a0 == 8)=false:=beq_eq_false_iff_ne.mpr c6
   have c6b1:(a0 != 8)=true:=bne_iff_ne.mpr c6
   by_cases c7:a0=9
   rw [if_pos c7] at H
   have c7b0:(a0 == 9)=true:=beq_iff_eq.mpr c7
   have c7b1:(a0 != 9)=false:=bne_eq_false_iff_eq.mpr c7
   clear c7
   rotate_left
   rw [if_neg c7] at H
   have c7b0:(a0 == 9)=false:=beq_eq_false_iff_ne.mpr c7
   have c7b1:(a0 != 9)=true:=bne_iff_ne.mpr c7
   rotate_left
   all_goals
    obtain rfl:=zi H
    go_wp2
    go_ret
    exact ⟨za7,za9⟩
mutual
def spec_l3All.l0:Nat→Int→Int→ByteArray→List (S32)→Option (Bool)
 | 0,_,_,_,_=>none
 | k+1,x3,x60002000,x60002001,x60002002=>if x3 < (x60002002.length:Int) then (if 0≤x3 then ((spec_l3All.f k ((rd_T32 x60002002 x3).f0) ((rd_T32 x60002002 x3).f1) ((rd_T32 x60002002 x3).f2)).bind fun t60003=>(if t60003=true then (spec_l3All.l0 k (wrap64 (x3+1)) x60002000 x60002001 x60002002) else (some false))) else (none)) else (if x60002000=3 then (if (x60002001.size:Int)=1 then ((spec_IsWord.f k x60002001).bind fun t60004=>(if t60004=true then (some ((x60002002.length:Int) == 0)) else (some false))) else (some false)) else ((spec_l1In.f x60002000 1 9).bind fun t60005=>(if t60005=true then (if x60002001.toList=([]:List UInt8) then ((spec_l3Args.f k x60002000).bind fun t60006=>(some ((x60002002.length:Int) == t60006))) else (some false)) else (some false))))
def spec_l3All.f:Nat→Int→ByteArray→List (S32)→Option (Bool)
 | 0,_,_,_=>none
 | k+1,a0_0,a0_1,l0_2=>spec_l3All.l0 k 0 a0_0 a0_1 l0_2
end
theorem spec_l3All.mono_l:∀ k,(∀ y0 y1 y2,LeO (spec_l3All.f k y0 y1 y2) (spec_l3All.f (k+1) y0 y1 y2))∧(∀ y0 y1 y2 y3,LeO (spec_l3All.l0 k y0 y1 y2 y3) (spec_l3All.l0 (k+1) y0 y1 y2 y3))
 | 0=>⟨fun _ _ _ r h=>by simp [spec_l3All.f] at h,fun _ _ _ _ r h=>by simp [spec_l3All.l0] at h⟩
 | k+1=>by
  obtain ⟨ih0,ih1⟩:=spec_l3All.mono_l k
  refine ⟨?_,?_⟩
  ·intro y0 y1 y2
   unfold spec_l3All.f
   repeat' first
   | with_reducible first|exact ih0 _ _ _|exact ih1 _ _ _ _|exact spec_IsWord.mono _ _|exact spec_l3Args.mono _ _|exact LeO.refl _|exact LeO.none _|refine LeO.ite ?_ ?_|refine LeO.bind ?_ (fun _=>?_)
  ·intro y0 y1 y2 y3
   unfold spec_l3All.l0
   repeat' first
   | with_reducible first|exact ih0 _ _ _|exact ih1 _ _ _ _|exact spec_IsWord.mono _ _|exact spec_l3Args.mono _ _|exact LeO.refl _|exact LeO.none _|refine LeO.ite ?_ ?_|refine LeO.bind ?_ (fun _=>?_)
theorem spec_l3All.mono:∀ a0 a1 a2 k,LeO (spec_l3All.f k a0 a1 a2) (spec_l3All.f (k+1) a0 a1 a2):=by
 intro a0 a1 a2 k
 obtain ⟨ih0,ih1⟩:=spec_l3All.mono_l k
 exact ih0 a0 a1 a2
theorem spec_l3All.calls (k:Nat):∀ (a0_0:Int) (a0_1:ByteArray) (A0_2:Option Addr) (c0_2:Nat) (l0_2:List (S32)) (r:Bool) (w:World) (hr0_2:Kd.C k32 w A0_2 l0_2.length l0_2) (hc0_2:l0_2.length≤c0_2) (h:spec_l3All.f k a0_0 a0_1 l0_2=some r),
   Calls Tryd.prog 60 #[.agg #[.int .i64 a0_0,.string a0_1,.slice A0_2 l0_2.length c0_2]] w fun e w'=>e = .returned (.bool r)∧Below w.heap.size w w':=by
 induction k using Nat.strongRecOn with
 | _ k ih =>
 intro a0_0 a0_1 A0_2 c0_2 l0_2 r w hr0_2 hc0_2 h
 cases k with
 | zero=>exact absurd h (by simp [spec_l3All.f])
 | succ k =>
 simp only [spec_l3All.f] at h
 have hu32:=Tryd.underlying32
 have HR0_2:=zk hr0_2
 have HC0_2:=zk hc0_2
 clear hr0_2 hc0_2
 have HB:=zk (Below.refl w.heap.size w)
 have H:(spec_l3All.l0 k 0 a0_0 a0_1 l0_2)=some r:=h
 clear h
 have H':=zk H
 clear H
 go_enter Tryd.func60,Tryd.ntmps60
 go_wp2_with (first|((with_reducible refine gate_dst (N:=1) rfl ?_);(try (refine gate_guard (by rfl) ?_;dsimp only));refine zE (N:=1) (cs:=#[.int .i64 a0_0,.string a0_1,.slice A0_2 l0_2.length c0_2]) (t:=32) ?_;intro gb60001 hg w2 hbox hb;have n0_:=zk (below_step za2 hb);have n1_:=zk (hbox);have n2_:=zk (zs (w:=w) hg za2);have n3_:=zk (zs (w:=w) hg za2);clear HB;have HB:=n0_;have BK60001:=n1_;have GW60001:=n2_;have GE60001:=n3_;clear n0_ n1_ n2_ n3_;clear hb hbox hg))
 repeat (go_quiet (first|((with_reducible refine gate_dst (N:=1) rfl ?_);(try (refine gate_guard (by rfl) ?_;dsimp only));refine zE (N:=1) (cs:=#[.int .i64 a0_0,.string a0_1,.slice A0_2 l0_2.length c0_2]) (t:=32) ?_;intro gb60001 hg w2 hbox hb;have n0_:=zk (below_step za2 hb);have n1_:=zk (hbox);have n2_:=zk (zs (w:=w) hg za2);have n3_:=zk (zs (w:=w) hg za2);clear HB;have HB:=n0_;have BK60001:=n1_;have GW60001:=n2_;have GE60001:=n3_;clear n0_ n1_ n2_ n3_;clear hb hbox hg));try go_wp2_with (first|((with_reducible refine gate_dst (N:=1) rfl ?_);(try (refine gate_guard (by rfl) ?_;dsimp only));refine zE (N:=1) (cs:=#[.int .i64 a0_0,.string a0_1,.slice A0_2 l0_2.length c0_2]) (t:=32) ?_;intro gb60001 hg w2 hbox hb;have n0_:=zk (below_step za2 hb);have n1_:=zk (hbox);have n2_:=zk (zs (w:=w) hg za2);have n3_:=zk (zs (w:=w) hg za2);clear HB;have HB:=n0_;have BK60001:=n1_;have GW60001:=n2_;have GE60001:=n3_;clear n0_ n1_ n2_ n3_;clear hb hbox hg)))
 first|go_loopg [3] k (fun kq v3 w'=>∃ (x3_1:Int),v3 = .int .i64 x3_1∧Aside0 (spec_l3All.l0 kq x3_1 a0_0 a0_1 l0_2=some r)∧Aside0 (kq≤k)∧Aside0 (w'.heap[gb60001]? = some (.cells #[.int .i64 a0_0,.string a0_1,(.slice A0_2 l0_2.length c0_2)] 32 (0,0)))∧Aside0 (Below w.heap.size w w'))|(simp only [Act.put,zt,zv,zu];go_loopg [3] k (fun kq v3 w'=>∃ (x3_1:Int),v3 = .int .i64 x3_1∧Aside0 (spec_l3All.l0 kq x3_1 a0_0 a0_1 l0_2=some r)∧Aside0 (kq≤k)∧Aside0 (w'.heap[gb60001]? = some (.cells #[.int .i64 a0_0,.string a0_1,(.slice A0_2 l0_2.length c0_2)] 32 (0,0)))∧Aside0 (Below w.heap.size w w')))
 case atStart=>exact ⟨(0),za7,H',⟨Nat.le_refl _⟩,⟨za0 BK60001.out⟩,⟨za2⟩⟩
 case round =>
  clear H'
  obtain ⟨x3_1,rfl,HA,HK1,BK60001,HB⟩:=hrel
  cases gk with
  | zero=>exact absurd HA.out (by simp [spec_l3All.l0])
  | succ k1 =>
   have H:=HA.out
   clear HA
   simp only [spec_l3All.l0] at H
   by_cases c3:x3_1 < (l0_2.length:Int)
   rw [if_pos c3] at H
   have c3b0:decide (x3_1 < (l0_2.length:Int))=true:=decide_eq_true c3
   clear c3
   by_cases c4:0≤x3_1
   rw [if_pos c4] at H
   have c4b0:decide (0≤x3_1)=true:=decide_eq_true c4
   clear c4
   replace H:=zo H
   obtain ⟨t60003,A50,H⟩:=H
   replace H:(if t60003=true then (spec_l3All.l0 k1 (wrap64 (x3_1+1)) a0_0 a0_1 l0_2) else (some false))=some r:=H
   have A5:=zk A50
   clear A50
   by_cases c6:t60003=true
   · subst c6
     have H1:(spec_l3All.l0 k1 (wrap64 (x3_1+1)) a0_0 a0_1 l0_2)=some r:=by rw [if_pos rfl] at H;exact H
     clear H
     have H:=H1
     clear H1
     have H':=zk H
     clear H
     obtain ⟨hcz7_0,hcz7_1,hcz7_2,hfz7_0,hfz7_1,hfz7_2⟩:=blk3 BK60001.out
     have p60002:0≤(x3_1:Int):=of_decide_eq_true za8
     have q60002:x3_1 < (l0_2.length:Int):=of_decide_eq_true za8
     obtain ⟨ad60002,A60002_2,c60002_2,e60002,hx60002_0,hx60002_1,hx60002_2,hl60002_2,hi60002_2⟩:=at_T32 HR0_2.out x3_1 p60002 q60002
     cases e60002
     replace hx60002_0:=zx HB.out hx60002_0
     replace hx60002_1:=zx HB.out hx60002_1
     replace hx60002_2:=zx HB.out hx60002_2
     have HR60002_2:=zk hi60002_2
     have HC60002_2:=zk hl60002_2
     clear hi60002_2 hl60002_2
     replace p60002:=eq_true p60002
     replace q60002:=eq_true q60002
     go_wp2_with (first|(go_at_call 60;(with_reducible refine (ih k1 za13 ((rd_T32 l0_2 x3_1).f0) ((rd_T32 l0_2 x3_1).f1) _ _ ((rd_T32 l0_2 x3_1).f2) true _ ?side1 ?side2 A5.out).mono ?_);(case side1=>repeat (first|exact (Kd.C_below HR60002_2.out HB.out)|(with_reducible refine Kd.C_alloc ?_ _)|(with_reducible refine Kd.C_drewN ?_ _)|(with_reducible refine Kd.C_drew ?_)));(case side2=>exact HC60002_2.out);rintro e w8 ⟨rfl,hb⟩;have n0_:=zk (zb BK60001.out hb);have n1_:=zk (below_step za2 hb);clear BK60001;clear HB;have BK60001:=n0_;have HB:=n1_;clear n0_ n1_;(try clear hb);(try clear hb2);(try clear hk);(try clear hi)))
     repeat (go_quiet (first|(go_at_call 60;(with_reducible refine (ih k1 za13 ((rd_T32 l0_2 x3_1).f0) ((rd_T32 l0_2 x3_1).f1) _ _ ((rd_T32 l0_2 x3_1).f2) true _ ?side1 ?side2 A5.out).mono ?_);(case side1=>repeat (first|exact (Kd.C_below HR60002_2.out HB.out)|(with_reducible refine Kd.C_alloc ?_ _)|(with_reducible refine Kd.C_drewN ?_ _)|(with_reducible refine Kd.C_drew ?_)));(case side2=>exact HC60002_2.out);rintro e w8 ⟨rfl,hb⟩;have n0_:=zk (zb BK60001.out hb);have n1_:=zk (below_step za2 hb);clear BK60001;clear HB;have BK60001:=n0_;have HB:=n1_;clear n0_ n1_;(try clear hb);(try clear hb2);(try clear hk);(try clear hi)));try go_wp2_with (first|(go_at_call 60;(with_reducible refine (ih k1 za13 ((rd_T32 l0_2 x3_1).f0) ((rd_T32 l0_2 x3_1).f1) _ _ ((rd_T32 l0_2 x3_1).f2) true _ ?side1 ?side2 A5.out).mono ?_);(case side1=>repeat (first|exact (Kd.C_below HR60002_2.out HB.out)|(with_reducible refine Kd.C_alloc ?_ _)|(with_reducible refine Kd.C_drewN ?_ _)|(with_reducible refine Kd.C_drew ?_)));(case side2=>exact HC60002_2.out);rintro e w8 ⟨rfl,hb⟩;have n0_:=zk (zb BK60001.out hb);have n1_:=zk (below_step za2 hb);clear BK60001;clear HB;have BK60001:=n0_;have HB:=n1_;clear n0_ n1_;(try clear hb);(try clear hb2);(try clear hk);(try clear hi))))
     go_roundg k1
     case measure=>have:=HK1.out;omega
     case rel=>exact ⟨(wrap64 (x3_1+1)),za7,H',⟨za13⟩,⟨za0 BK60001.out⟩,⟨za2⟩⟩
   replace c6:=Bool.eq_false_iff.mpr c6
   subst c6
   have H1:(some false)=some r:=by rw [if_neg (show ¬ (false=true) by decide)] at H;exact H
   clear H
   have H:=H1
   clear H1
   obtain rfl:=zi H
   obtain ⟨hcz9_0,hcz9_1,hcz9_2,hfz9_0,hfz9_1,hfz9_2⟩:=blk3 BK60001.out
   have p60002:0≤(x3_1:Int):=of_decide_eq_true za8
   have q60002:x3_1 < (l0_2.length:Int):=of_decide_eq_true za8
   obtain ⟨ad60002,A60002_2,c60002_2,e60002,hx60002_0,hx60002_1,hx60002_2,hl60002_2,hi60002_2⟩:=at_T32 HR0_2.out x3_1 p60002 q60002
   cases e60002
   replace hx60002_0:=zx HB.out hx60002_0
   replace hx60002_1:=zx HB.out hx60002_1
   replace hx60002_2:=zx HB.out hx60002_2
   have HR60002_2:=zk hi60002_2
   have HC60002_2:=zk hl60002_2
   clear hi60002_2 hl60002_2
   replace p60002:=eq_true p60002
   replace q60002:=eq_true q60002
   rotate_left
   · rw [if_neg c4] at H
     exact absurd H (by simp)
   rw [if_neg c3] at H
   have c3b0:decide (x3_1 < (l0_2.length:Int))=false:=decide_eq_false c3
   clear c3
   by_cases c11:a0_0=3
   rw [if_pos c11] at H
   have c11b0:(a0_0 == 3)=true:=beq_iff_eq.mpr c11
   have c11b1:(a0_0 != 3)=false:=bne_eq_false_iff_eq.mpr c11
   clear c11
   by_cases c12:(a0_1.size:Int)=1
   rw [if_pos c12] at H
   have c12b0:((a0_1.size:Int) == 1)=true:=beq_iff_eq.mpr c12
   have c12b1:((a0_1.size:Int) != 1)=false:=bne_eq_false_iff_eq.mpr c12
   clear c12
   replace H:=zo H
   obtain ⟨t60004,A130,H⟩:=H
   replace H:(if t60004=true then (some ((l0_2.length:Int) == 0)) else (some false))=some r:=H
   have A13:=zk A130
   clear A130
   by_cases c14:t60004=true
   subst c14
   have H1:(some ((l0_2.length:Int) == 0))=some r:=by rw [if_pos rfl] at H;exact H
   clear H
   have H:=H1
   clear H1
   obtain rfl:=zi H
   obtain ⟨hcz15_0,hcz15_1,hcz15_2,hfz15_0,hfz15_1,hfz15_2⟩:=blk3 BK60001.out
   rotate_left
   replace c14:=Bool.eq_false_iff.mpr c14
   subst c14
   have H1:(some false)=some r:=by rw [if_neg (show ¬ (false=true) by decide)] at H;exact H
   clear H
   have H:=H1
   clear H1
   obtain rfl:=zi H
   obtain ⟨hcz16_0,hcz16_1,hcz16_2,hfz16_0,hfz16_1,hfz16_2⟩:=blk3 BK60001.out
   rotate_left
   rw [if_neg c12] at H
   have c12b0:((a0_1.size:Int) == 1)=false:=beq_eq_false_iff_ne.mpr c12
   have c12b1:((a0_1.size:Int) != 1)=true:=bne_iff_ne.mpr c12
   obtain rfl:=zi H
   obtain ⟨hcz17_0,hcz17_1,hcz17_2,hfz17_0,hfz17_1,hfz17_2⟩:=blk3 BK60001.out
   rotate_left
   rw [if_neg c11] at H
   have c11b0:(a0_0 == 3)=false:=beq_eq_false_iff_ne.mpr c11
   have c11b1:(a0_0 != 3)=true:=bne_iff_ne.mpr c11
   replace H:=zo H
   obtain ⟨t60005,A180,H⟩:=H
   replace H:(if t60005=true then (if a0_1.toList=([]:List UInt8) then ((spec_l3Args.f k1 a0_0).bind fun t60006=>(some ((l0_2.length:Int) == t60006))) else (some false)) else (some false))=some r:=H
   have A18:=zk A180
   clear A180
   by_cases c19:t60005=true
   subst c19
   have H1:(if a0_1.toList=([]:List UInt8) then ((spec_l3Args.f k1 a0_0).bind fun t60006=>(some ((l0_2.length:Int) == t60006))) else (some false))=some r:=by rw [if_pos rfl] at H;exact H
   clear H
   have H:=H1
   clear H1
   by_cases c20:a0_1.toList=([]:List UInt8)
   rw [if_pos c20] at H
   have c20b0:(a0_1.toList == ([]:List UInt8))=true:=beq_iff_eq.mpr c20
   have c20b1:(a0_1.toList != ([]:List UInt8))=false:=bne_eq_false_iff_eq.mpr c20
   clear c20
   replace H:=zo H
   obtain ⟨t60006,A210,H⟩:=H
   replace H:(some ((l0_2.length:Int) == t60006))=some r:=H
   have A21:=zk A210
   clear A210
   obtain rfl:=zi H
   obtain ⟨hcz22_0,hcz22_1,hcz22_2,hfz22_0,hfz22_1,hfz22_2⟩:=blk3 BK60001.out
   rotate_left
   rw [if_neg c20] at H
   have c20b0:(a0_1.toList == ([]:List UInt8))=false:=beq_eq_false_iff_ne.mpr c20
   have c20b1:(a0_1.toList != ([]:List UInt8))=true:=bne_iff_ne.mpr c20
   obtain rfl:=zi H
   obtain ⟨hcz23_0,hcz23_1,hcz23_2,hfz23_0,hfz23_1,hfz23_2⟩:=blk3 BK60001.out
   rotate_left
   replace c19:=Bool.eq_false_iff.mpr c19
   subst c19
   have H1:(some false)=some r:=by rw [if_neg (show ¬ (false=true) by decide)] at H;exact H
   clear H
   have H:=H1
   clear H1
   obtain rfl:=zi H
   obtain ⟨hcz24_0,hcz24_1,hcz24_2,hfz24_0,hfz24_1,hfz24_2⟩:=blk3 BK60001.out
   rotate_left
   all_goals
    go_wp2_with (first|(go_at_call 60;(with_reducible refine (ih k1 za13 ((rd_T32 l0_2 x3_1).f0) ((rd_T32 l0_2 x3_1).f1) _ _ ((rd_T32 l0_2 x3_1).f2) false _ ?side1 ?side2 A5.out).mono ?_);(case side1=>repeat (first|exact (Kd.C_below HR60002_2.out HB.out)|(with_reducible refine Kd.C_alloc ?_ _)|(with_reducible refine Kd.C_drewN ?_ _)|(with_reducible refine Kd.C_drew ?_)));(case side2=>exact HC60002_2.out);rintro e w10 ⟨rfl,hb⟩;have n0_:=zk (zb BK60001.out hb);have n1_:=zk (below_step za2 hb);clear BK60001;clear HB;have BK60001:=n0_;have HB:=n1_;clear n0_ n1_;(try clear hb);(try clear hb2);(try clear hk);(try clear hi))|(go_at_call 41;(with_reducible refine (spec_l1In.calls a0_0 1 9 _ _ A18.out).mono ?_);rintro e w' ⟨rfl,⟨nd,rfl⟩⟩;(try first|exact ⟨rfl,_,World.drewN_drewN _ _ _⟩|exact ⟨rfl,_,Eq.trans (World.drewN_drewN _ _ _) (congrArg (World.drewN _) (Nat.add_assoc _ _ _))⟩))|(go_at_call 72;(with_reducible refine (spec_l3Args.calls k1 a0_0 t60006 _ A21.out).mono ?_);rintro e w' ⟨rfl,⟨nd,rfl⟩⟩;(try first|exact ⟨rfl,_,World.drewN_drewN _ _ _⟩|exact ⟨rfl,_,Eq.trans (World.drewN_drewN _ _ _) (congrArg (World.drewN _) (Nat.add_assoc _ _ _))⟩))|(go_at_call 71;(with_reducible refine (spec_IsWord.calls k1 a0_1 _ _ A13.out).mono ?_);rintro e w' ⟨rfl,⟨nd,rfl⟩⟩;(try first|exact ⟨rfl,_,World.drewN_drewN _ _ _⟩|exact ⟨rfl,_,Eq.trans (World.drewN_drewN _ _ _) (congrArg (World.drewN _) (Nat.add_assoc _ _ _))⟩)))
    repeat (go_quiet (first|(go_at_call 60;(with_reducible refine (ih k1 za13 ((rd_T32 l0_2 x3_1).f0) ((rd_T32 l0_2 x3_1).f1) _ _ ((rd_T32 l0_2 x3_1).f2) false _ ?side1 ?side2 A5.out).mono ?_);(case side1=>repeat (first|exact (Kd.C_below HR60002_2.out HB.out)|(with_reducible refine Kd.C_alloc ?_ _)|(with_reducible refine Kd.C_drewN ?_ _)|(with_reducible refine Kd.C_drew ?_)));(case side2=>exact HC60002_2.out);rintro e w10 ⟨rfl,hb⟩;have n0_:=zk (zb BK60001.out hb);have n1_:=zk (below_step za2 hb);clear BK60001;clear HB;have BK60001:=n0_;have HB:=n1_;clear n0_ n1_;(try clear hb);(try clear hb2);(try clear hk);(try clear hi))|(go_at_call 41;(with_reducible refine (spec_l1In.calls a0_0 1 9 _ _ A18.out).mono ?_);rintro e w' ⟨rfl,⟨nd,rfl⟩⟩;(try first|exact ⟨rfl,_,World.drewN_drewN _ _ _⟩|exact ⟨rfl,_,Eq.trans (World.drewN_drewN _ _ _) (congrArg (World.drewN _) (Nat.add_assoc _ _ _))⟩))|(go_at_call 72;(with_reducible refine (spec_l3Args.calls k1 a0_0 t60006 _ A21.out).mono ?_);rintro e w' ⟨rfl,⟨nd,rfl⟩⟩;(try first|exact ⟨rfl,_,World.drewN_drewN _ _ _⟩|exact ⟨rfl,_,Eq.trans (World.drewN_drewN _ _ _) (congrArg (World.drewN _) (Nat.add_assoc _ _ _))⟩))|(go_at_call 71;(with_reducible refine (spec_IsWord.calls k1 a0_1 _ _ A13.out).mono ?_);rintro e w' ⟨rfl,⟨nd,rfl⟩⟩;(try first|exact ⟨rfl,_,World.drewN_drewN _ _ _⟩|exact ⟨rfl,_,Eq.trans (World.drewN_drewN _ _ _) (congrArg (World.drewN _) (Nat.add_assoc _ _ _))⟩)));try go_wp2_with (first|(go_at_call 60;(with_reducible refine (ih k1 za13 ((rd_T32 l0_2 x3_1).f0) ((rd_T32 l0_2 x3_1).f1) _ _ ((rd_T32 l0_2 x3_1).f2) false _ ?side1 ?side2 A5.out).mono ?_);(case side1=>repeat (first|exact (Kd.C_below HR60002_2.out HB.out)|(with_reducible refine Kd.C_alloc ?_ _)|(with_reducible refine Kd.C_drewN ?_ _)|(with_reducible refine Kd.C_drew ?_)));(case side2=>exact HC60002_2.out);rintro e w10 ⟨rfl,hb⟩;have n0_:=zk (zb BK60001.out hb);have n1_:=zk (below_step za2 hb);clear BK60001;clear HB;have BK60001:=n0_;have HB:=n1_;clear n0_ n1_;(try clear hb);(try clear hb2);(try clear hk);(try clear hi))|(go_at_call 41;(with_reducible refine (spec_l1In.calls a0_0 1 9 _ _ A18.out).mono ?_);rintro e w' ⟨rfl,⟨nd,rfl⟩⟩;(try first|exact ⟨rfl,_,World.drewN_drewN _ _ _⟩|exact ⟨rfl,_,Eq.trans (World.drewN_drewN _ _ _) (congrArg (World.drewN _) (Nat.add_assoc _ _ _))⟩))|(go_at_call 72;(with_reducible refine (spec_l3Args.calls k1 a0_0 t60006 _ A21.out).mono ?_);rintro e w' ⟨rfl,⟨nd,rfl⟩⟩;(try first|exact ⟨rfl,_,World.drewN_drewN _ _ _⟩|exact ⟨rfl,_,Eq.trans (World.drewN_drewN _ _ _) (congrArg (World.drewN _) (Nat.add_assoc _ _ _))⟩))|(go_at_call 71;(with_reducible refine (spec_IsWord.calls k1 a0_1 _ _ A13.out).mono ?_);rintro e w' ⟨rfl,⟨nd,rfl⟩⟩;(try first|exact ⟨rfl,_,World.drewN_drewN _ _ _⟩|exact ⟨rfl,_,Eq.trans (World.drewN_drewN _ _ _) (congrArg (World.drewN _) (Nat.add_assoc _ _ _))⟩))))
    go_ret
    exact ⟨za6,za2⟩
def spec_IsValidRegex.f (k:Nat) (a0_0:Int) (a0_1:ByteArray) (l0_2:List (S32)):Option (Bool):=(spec_l3Left.f k a0_0 a0_1 l0_2 16).bind fun t39002=>(if t39002 ≥ 0 then ((spec_l3Depth.f k a0_0 a0_1 l0_2).bind fun t39003=>(if t39003≤6 then ((spec_l3All.f k a0_0 a0_1 l0_2).bind fun t39004=>(some t39004)) else (some false))) else (some false))
theorem spec_IsValidRegex.mono:∀ a0 a1 a2 k,LeO (spec_IsValidRegex.f k a0 a1 a2) (spec_IsValidRegex.f (k+1) a0 a1 a2):=by
 intro a0 a1 a2 k
 unfold spec_IsValidRegex.f
 repeat' first
  | with_reducible first|exact spec_l3All.mono _ _ _ _|exact spec_l3Depth.mono _ _ _ _|exact spec_l3Left.mono _ _ _ _ _|exact LeO.refl _|exact LeO.none _|refine LeO.ite ?_ ?_|refine LeO.bind ?_ (fun _=>?_)
theorem spec_IsValidRegex.calls (k:Nat) (a0_0:Int) (a0_1:ByteArray) (A0_2:Option Addr) (c0_2:Nat) (l0_2:List (S32)) (r:Bool) (w:World) (hr0_2:Kd.C k32 w A0_2 l0_2.length l0_2) (hc0_2:l0_2.length≤c0_2) (h:spec_IsValidRegex.f k a0_0 a0_1 l0_2=some r) :
   Calls Tryd.prog 39 #[.agg #[.int .i64 a0_0,.string a0_1,.slice A0_2 l0_2.length c0_2]] w fun e w'=>e = .returned (.bool r)∧Below w.heap.size w w':=by
 have hu32:=Tryd.underlying32
 have HR0_2:=zk hr0_2
 have HC0_2:=zk hc0_2
 clear hr0_2 hc0_2
 have HB:=zk (Below.refl w.heap.size w)
 have H:((spec_l3Left.f k a0_0 a0_1 l0_2 16).bind fun t39002=>(if t39002 ≥ 0 then ((spec_l3Depth.f k a0_0 a0_1 l0_2).bind fun t39003=>(if t39003≤6 then ((spec_l3All.f k a0_0 a0_1 l0_2).bind fun t39004=>(some t39004)) else (some false))) else (some false)))=some r:=h
 clear h
 replace H:=zo H
 obtain ⟨t39002,A20,H⟩:=H
 replace H:(if t39002 ≥ 0 then ((spec_l3Depth.f k a0_0 a0_1 l0_2).bind fun t39003=>(if t39003≤6 then ((spec_l3All.f k a0_0 a0_1 l0_2).bind fun t39004=>(some t39004)) else (some false))) else (some false))=some r:=H
 have A2:=zk A20
 clear A20
 by_cases c3:t39002 ≥ 0
 rw [if_pos c3] at H
 have c3b0:decide (0≤t39002)=true:=decide_eq_true c3
 clear c3
 replace H:=zo H
 obtain ⟨t39003,A40,H⟩:=H
 replace H:(if t39003≤6 then ((spec_l3All.f k a0_0 a0_1 l0_2).bind fun t39004=>(some t39004)) else (some false))=some r:=H
 have A4:=zk A40
 clear A40
 by_cases c5:t39003≤6
 rw [if_pos c5] at H
 have c5b0:decide (t39003≤6)=true:=decide_eq_true c5
 clear c5
 replace H:=zo H
 obtain ⟨t39004,A60,H⟩:=H
 replace H:(some t39004)=some r:=H
 have A6:=zk A60
 clear A60
 rotate_left
 rw [if_neg c5] at H
 have c5b0:decide (t39003≤6)=false:=decide_eq_false c5
 clear c5
 rotate_left
 rw [if_neg c3] at H
 have c3b0:decide (0≤t39002)=false:=decide_eq_false c3
 clear c3
 rotate_left
 all_goals
  obtain rfl:=zi H
  go_enter Tryd.func39,Tryd.ntmps39
  go_wp2_with (first|((with_reducible refine gate_dst (N:=1) rfl ?_);refine zE (N:=1) (cs:=#[.int .i64 a0_0,.string a0_1,.slice A0_2 l0_2.length c0_2]) (t:=32) ?_;intro gb39001 hg w14 hbox hb;have n0_:=zk (below_step za2 hb);have n1_:=zk (hbox);have n2_:=zk (zs (w:=w) hg za2);have n3_:=zk (zs (w:=w) hg za2);clear HB;have HB:=n0_;have BK39001:=n1_;have GW39001:=n2_;have GE39001:=n3_;clear n0_ n1_ n2_ n3_;clear hb hbox hg;obtain ⟨hcz15_0,hcz15_1,hcz15_2,hfz15_0,hfz15_1,hfz15_2⟩:=blk3 BK39001.out)|((with_reducible refine gate_callee (f:=58) rfl ?_);refine goesL_ (some 4) rfl rfl Tryd.func58 (by kernel_rfl) rfl #[.agg #[.int .i64 a0_0,.string a0_1,.slice A0_2 l0_2.length c0_2],.int .i64 16] rfl za5 ?_;(with_reducible refine (spec_l3Left.calls k a0_0 a0_1 _ _ l0_2 16 t39002 _ ?side1 ?side2 A2.out).mono ?_);(case side1=>repeat (first|exact (Kd.C_below HR0_2.out HB.out)|(with_reducible refine Kd.C_alloc ?_ _)|(with_reducible refine Kd.C_drewN ?_ _)|(with_reducible refine Kd.C_drew ?_)));(case side2=>exact HC0_2.out);rintro e w16 ⟨rfl,hb⟩;refine ⟨_,rfl,?_⟩;have n0_:=zk (zb BK39001.out hb);have n1_:=zk (below_step za2 hb);clear BK39001;clear HB;have BK39001:=n0_;have HB:=n1_;clear n0_ n1_;(try clear hb);(try clear hb2);(try clear hk);(try clear hi);obtain ⟨hcz17_0,hcz17_1,hcz17_2,hfz17_0,hfz17_1,hfz17_2⟩:=blk3 BK39001.out)|(go_at_call 59;(with_reducible refine (spec_l3Depth.calls k a0_0 a0_1 _ _ l0_2 t39003 _ ?side1 ?side2 A4.out).mono ?_);(case side1=>repeat (first|exact (Kd.C_below HR0_2.out HB.out)|(with_reducible refine Kd.C_alloc ?_ _)|(with_reducible refine Kd.C_drewN ?_ _)|(with_reducible refine Kd.C_drew ?_)));(case side2=>exact HC0_2.out);rintro e w11 ⟨rfl,hb⟩;have n0_:=zk (zb BK39001.out hb);have n1_:=zk (below_step za2 hb);clear BK39001;clear HB;have BK39001:=n0_;have HB:=n1_;clear n0_ n1_;(try clear hb);(try clear hb2);(try clear hk);(try clear hi);obtain ⟨hcz12_0,hcz12_1,hcz12_2,hfz12_0,hfz12_1,hfz12_2⟩:=blk3 BK39001.out)|(go_at_call 60;(with_reducible refine (spec_l3All.calls k a0_0 a0_1 _ _ l0_2 t39004 _ ?side1 ?side2 A6.out).mono ?_);(case side1=>repeat (first|exact (Kd.C_below HR0_2.out HB.out)|(with_reducible refine Kd.C_alloc ?_ _)|(with_reducible refine Kd.C_drewN ?_ _)|(with_reducible refine Kd.C_drew ?_)));(case side2=>exact HC0_2.out);rintro e w13 ⟨rfl,hb⟩;have n0_:=zk (zb BK39001.out hb);have n1_:=zk (below_step za2 hb);clear BK39001;clear HB;have BK39001:=n0_;have HB:=n1_;clear n0_ n1_;(try clear hb);(try clear hb2);(try clear hk);(try clear hi)))
  go_ret
  exact ⟨za6,za2⟩
def spec_l3Text.f:Nat→Int→ByteArray→List (S32)→Option (ByteArray)
 | 0,_,_,_=>none
 | k+1,a0_0,a0_1,l0_2=>if a0_0=1 then (some (⟨#[48]⟩:ByteArray)) else (if a0_0=2 then (some (⟨#[49]⟩:ByteArray)) else (if a0_0=3 then (some a0_1) else (if a0_0=4 then (some (⟨#[46]⟩:ByteArray)) else (if a0_0=8 then (if 0 < (l0_2.length:Int) then ((spec_l3Text.f k ((rd_T32 l0_2 0).f0) ((rd_T32 l0_2 0).f1) ((rd_T32 l0_2 0).f2)).bind fun t42003=>(if 1+t42003.size≤9223372036854775807 then (some ((⟨#[42]⟩:ByteArray) ++ t42003)) else (none))) else (none)) else (if a0_0=9 then (if 0 < (l0_2.length:Int) then ((spec_l3Text.f k ((rd_T32 l0_2 0).f0) ((rd_T32 l0_2 0).f1) ((rd_T32 l0_2 0).f2)).bind fun t42005=>(if 1+t42005.size≤9223372036854775807 then (some ((⟨#[33]⟩:ByteArray) ++ t42005)) else (none))) else (none)) else ((some (([(⟨#[]⟩:ByteArray),(⟨#[124]⟩:ByteArray),(⟨#[38]⟩:ByteArray)]:List ByteArray):List ByteArray)).bind fun y42006=>(if 0≤(wrap64 (a0_0 - 5)) then (if (wrap64 (a0_0 - 5)) < (y42006.length:Int) then (if 0 < (l0_2.length:Int) then ((spec_l3Text.f k ((rd_T32 l0_2 0).f0) ((rd_T32 l0_2 0).f1) ((rd_T32 l0_2 0).f2)).bind fun t42011=>(if 1+t42011.size≤9223372036854775807 then (if ((⟨#[40]⟩:ByteArray) ++ t42011).size+(rdOf ByteArray.empty y42006 (wrap64 (a0_0 - 5))).size≤9223372036854775807 then (if 1 < (l0_2.length:Int) then ((spec_l3Text.f k ((rd_T32 l0_2 1).f0) ((rd_T32 l0_2 1).f1) ((rd_T32 l0_2 1).f2)).bind fun t42013=>(if (((⟨#[40]⟩:ByteArray) ++ t42011) ++ (rdOf ByteArray.empty y42006 (wrap64 (a0_0 - 5)))).size+t42013.size≤9223372036854775807 then (if ((((⟨#[40]⟩:ByteArray) ++ t42011) ++ (rdOf ByteArray.empty y42006 (wrap64 (a0_0 - 5)))) ++ t42013).size+1≤9223372036854775807 then (some (((((⟨#[40]⟩:ByteArray) ++ t42011) ++ (rdOf ByteArray.empty y42006 (wrap64 (a0_0 - 5)))) ++ t42013) ++ (⟨#[41]⟩:ByteArray))) else (none)) else (none))) else (none)) else (none)) else (none))) else (none)) else (none)) else (none))))))))
theorem spec_l3Text.mono_l:∀ k,(∀ y0 y1 y2,LeO (spec_l3Text.f k y0 y1 y2) (spec_l3Text.f (k+1) y0 y1 y2))
 | 0=>fun _ _ _ r h=>by simp [spec_l3Text.f] at h
 | k+1=>by
  have ih0:=spec_l3Text.mono_l k
  ·intro y0 y1 y2
   unfold spec_l3Text.f
   repeat' first
   | with_reducible first|exact ih0 _ _ _|exact LeO.refl _|exact LeO.none _|refine LeO.ite ?_ ?_|refine LeO.bind ?_ (fun _=>?_)
theorem spec_l3Text.mono:∀ a0 a1 a2 k,LeO (spec_l3Text.f k a0 a1 a2) (spec_l3Text.f (k+1) a0 a1 a2):=by
 intro a0 a1 a2 k
 have ih0:=spec_l3Text.mono_l k
 exact ih0 a0 a1 a2
def spec_l3Text.T15:Bool × List (List Nat × List Nat):=(true,[([],[]),([0],[0]),([1],[1]),([2],[2]),([3],[3]),([4],[4]),([],[]),([5,6],[5,6]),([],[]),([8],[8]),([9],[9]),([10],[10]),([11,4],[11]),([7,12],[7,12]),([13],[13]),([14,12,0,1,2,3,4,5,6,7,8,9,10,11,12,13,14],[14])])
def spec_l3Text.B15:List Nat:=[0,1,3,7,15,31,0,127,0,256,768,1792,3871,8191,16383,32767]
theorem spec_l3Text.tab15:rtab .any (opsOf Tryd.f42 15)=spec_l3Text.T15:=by kernel_rfl
theorem spec_l3Text.bits15:waitsOk spec_l3Text.T15.2 spec_l3Text.B15=true:=by kernel_rfl
theorem spec_l3Text.calls (k:Nat):∀ (a0_0:Int) (a0_1:ByteArray) (A0_2:Option Addr) (c0_2:Nat) (l0_2:List (S32)) (r:ByteArray) (w:World) (hr0_2:Kd.C k32 w A0_2 l0_2.length l0_2) (hc0_2:l0_2.length≤c0_2) (h:spec_l3Text.f k a0_0 a0_1 l0_2=some r),
  Calls Tryd.prog 42 #[.agg #[.int .i64 a0_0,.string a0_1,.slice A0_2 l0_2.length c0_2]] w fun e w'=>e = .returned (.string r)∧Below w.heap.size w w':=by
 induction k using Nat.strongRecOn with
 | _ k ih =>
 intro a0_0 a0_1 A0_2 c0_2 l0_2 r w hr0_2 hc0_2 h
 cases k with
 | zero=>exact absurd h (by simp [spec_l3Text.f])
 | succ k =>
 simp only [spec_l3Text.f] at h
 have hu32:=Tryd.underlying32
 have HR0_2:=zk hr0_2
 have HC0_2:=zk hc0_2
 clear hr0_2 hc0_2
 have HB:=zk (Below.refl w.heap.size w)
 have H:(if a0_0=1 then (some (⟨#[48]⟩:ByteArray)) else (if a0_0=2 then (some (⟨#[49]⟩:ByteArray)) else (if a0_0=3 then (some a0_1) else (if a0_0=4 then (some (⟨#[46]⟩:ByteArray)) else (if a0_0=8 then (if 0 < (l0_2.length:Int) then ((spec_l3Text.f k ((rd_T32 l0_2 0).f0) ((rd_T32 l0_2 0).f1) ((rd_T32 l0_2 0).f2)).bind fun t42003=>(if 1+t42003.size≤9223372036854775807 then (some ((⟨#[42]⟩:ByteArray) ++ t42003)) else (none))) else (none)) else (if a0_0=9 then (if 0 < (l0_2.length:Int) then ((spec_l3Text.f k ((rd_T32 l0_2 0).f0) ((rd_T32 l0_2 0).f1) ((rd_T32 l0_2 0).f2)).bind fun t42005=>(if 1+t42005.size≤9223372036854775807 then (some ((⟨#[33]⟩:ByteArray) ++ t42005)) else (none))) else (none)) else ((some (([(⟨#[]⟩:ByteArray),(⟨#[124]⟩:ByteArray),(⟨#[38]⟩:ByteArray)]:List ByteArray):List ByteArray)).bind fun y42006=>(if 0≤(wrap64 (a0_0 - 5)) then (if (wrap64 (a0_0 - 5)) < (y42006.length:Int) then (if 0 < (l0_2.length:Int) then ((spec_l3Text.f k ((rd_T32 l0_2 0).f0) ((rd_T32 l0_2 0).f1) ((rd_T32 l0_2 0).f2)).bind fun t42011=>(if 1+t42011.size≤9223372036854775807 then (if ((⟨#[40]⟩:ByteArray) ++ t42011).size+(rdOf ByteArray.empty y42006 (wrap64 (a0_0 - 5))).size≤9223372036854775807 then (if 1 < (l0_2.length:Int) then ((spec_l3Text.f k ((rd_T32 l0_2 1).f0) ((rd_T32 l0_2 1).f1) ((rd_T32 l0_2 1).f2)).bind fun t42013=>(if (((⟨#[40]⟩:ByteArray) ++ t42011) ++ (rdOf ByteArray.empty y42006 (wrap64 (a0_0 - 5)))).size+t42013.size≤9223372036854775807 then (if ((((⟨#[40]⟩:ByteArray) ++ t42011) ++ (rdOf ByteArray.empty y42006 (wrap64 (a0_0 - 5)))) ++ t42013).size+1≤9223372036854775807 then (some (((((⟨#[40]⟩:ByteArray) ++ t42011) ++ (rdOf ByteArray.empty y42006 (wrap64 (a0_0 - 5)))) ++ t42013) ++ (⟨#[41]⟩:ByteArray))) else (none)) else (none))) else (none)) else (none)) else (none))) else (none)) else (none)) else (none)))))))))=some r:=h
 clear h
 by_cases c2:a0_0=1
 ·rw [if_pos c2] at H
  have c2b0:(a0_0 == 1)=true:=beq_iff_eq.mpr c2
  have c2b1:(a0_0 != 1)=false:=bne_eq_false_iff_eq.mpr c2
  clear c2
  obtain rfl:=zi H
  go_enter Tryd.func42,Tryd.ntmps42
  go_wp2_with (first|((with_reducible refine gate_dst (N:=1) rfl ?_);refine zE (N:=1) (cs:=#[.int .i64 a0_0,.string a0_1,.slice A0_2 l0_2.length c0_2]) (t:=32) ?_;intro gb42001 hg w3 hbox hb;have n0_:=zk (below_step za2 hb);have n1_:=zk (hbox);have n2_:=zk (zs (w:=w) hg za2);have n3_:=zk (zs (w:=w) hg za2);clear HB;have HB:=n0_;have BK42001:=n1_;have GW42001:=n2_;have GE42001:=n3_;clear n0_ n1_ n2_ n3_;clear hb hbox hg;obtain ⟨hcz4_0,hcz4_1,hcz4_2,hfz4_0,hfz4_1,hfz4_2⟩:=blk3 BK42001.out))
  go_ret
  exact ⟨za6,za2⟩
 rw [if_neg c2] at H
 have c2b0:(a0_0 == 1)=false:=beq_eq_false_iff_ne.mpr c2
 have c2b1:(a0_0 != 1)=true:=bne_iff_ne.mpr c2
 by_cases c5:a0_0=2
 ·rw [if_pos c5] at H
  have c5b0:(a0_0 == 2)=true:=beq_iff_eq.mpr c5
  have c5b1:(a0_0 != 2)=false:=bne_eq_false_iff_eq.mpr c5
  clear c5
  obtain rfl:=zi H
  go_enter Tryd.func42,Tryd.ntmps42
  go_wp2_with (first|((with_reducible refine gate_dst (N:=1) rfl ?_);refine zE (N:=1) (cs:=#[.int .i64 a0_0,.string a0_1,.slice A0_2 l0_2.length c0_2]) (t:=32) ?_;intro gb42001 hg w6 hbox hb;have n0_:=zk (below_step za2 hb);have n1_:=zk (hbox);have n2_:=zk (zs (w:=w) hg za2);have n3_:=zk (zs (w:=w) hg za2);clear HB;have HB:=n0_;have BK42001:=n1_;have GW42001:=n2_;have GE42001:=n3_;clear n0_ n1_ n2_ n3_;clear hb hbox hg;obtain ⟨hcz7_0,hcz7_1,hcz7_2,hfz7_0,hfz7_1,hfz7_2⟩:=blk3 BK42001.out))
  go_ret
  exact ⟨za6,za2⟩
 rw [if_neg c5] at H
 have c5b0:(a0_0 == 2)=false:=beq_eq_false_iff_ne.mpr c5
 have c5b1:(a0_0 != 2)=true:=bne_iff_ne.mpr c5
 by_cases c8:a0_0=3
 ·rw [if_pos c8] at H
  have c8b0:(a0_0 == 3)=true:=beq_iff_eq.mpr c8
  have c8b1:(a0_0 != 3)=false:=bne_eq_false_iff_eq.mpr c8
  clear c8
  obtain rfl:=zi H
  go_enter Tryd.func42,Tryd.ntmps42
  go_wp2_with (first|((with_reducible refine gate_dst (N:=1) rfl ?_);refine zE (N:=1) (cs:=#[.int .i64 a0_0,.string a0_1,.slice A0_2 l0_2.length c0_2]) (t:=32) ?_;intro gb42001 hg w9 hbox hb;have n0_:=zk (below_step za2 hb);have n1_:=zk (hbox);have n2_:=zk (zs (w:=w) hg za2);have n3_:=zk (zs (w:=w) hg za2);clear HB;have HB:=n0_;have BK42001:=n1_;have GW42001:=n2_;have GE42001:=n3_;clear n0_ n1_ n2_ n3_;clear hb hbox hg;obtain ⟨hcz10_0,hcz10_1,hcz10_2,hfz10_0,hfz10_1,hfz10_2⟩:=blk3 BK42001.out))
  go_ret
  exact ⟨za6,za2⟩
 rw [if_neg c8] at H
 have c8b0:(a0_0 == 3)=false:=beq_eq_false_iff_ne.mpr c8
 have c8b1:(a0_0 != 3)=true:=bne_iff_ne.mpr c8
 by_cases c11:a0_0=4
 ·rw [if_pos c11] at H
  have c11b0:(a0_0 == 4)=true:=beq_iff_eq.mpr c11
  have c11b1:(a0_0 != 4)=false:=bne_eq_false_iff_eq.mpr c11
  clear c11
  obtain rfl:=zi H
  go_enter Tryd.func42,Tryd.ntmps42
  go_wp2_with (first|((with_reducible refine gate_dst (N:=1) rfl ?_);refine zE (N:=1) (cs:=#[.int .i64 a0_0,.string a0_1,.slice A0_2 l0_2.length c0_2]) (t:=32) ?_;intro gb42001 hg w12 hbox hb;have n0_:=zk (below_step za2 hb);have n1_:=zk (hbox);have n2_:=zk (zs (w:=w) hg za2);have n3_:=zk (zs (w:=w) hg za2);clear HB;have HB:=n0_;have BK42001:=n1_;have GW42001:=n2_;have GE42001:=n3_;clear n0_ n1_ n2_ n3_;clear hb hbox hg;obtain ⟨hcz13_0,hcz13_1,hcz13_2,hfz13_0,hfz13_1,hfz13_2⟩:=blk3 BK42001.out))
  go_ret
  exact ⟨za6,za2⟩
 rw [if_neg c11] at H
 have c11b0:(a0_0 == 4)=false:=beq_eq_false_iff_ne.mpr c11
 have c11b1:(a0_0 != 4)=true:=bne_iff_ne.mpr c11
 by_cases c14:a0_0=8
 rw [if_pos c14] at H
 have c14b0:(a0_0 == 8)=true:=beq_iff_eq.mpr c14
 have c14b1:(a0_0 != 8)=false:=bne_eq_false_iff_eq.mpr c14
 clear c14
 by_cases c15:0 < (l0_2.length:Int)
 rw [if_pos c15] at H
 have c15b0:decide (0 < (l0_2.length:Int))=true:=decide_eq_true c15
 have c15b1:decide (0 < l0_2.length)=true:=decide_eq_true (by omega)
 clear c15
 replace H:=zo H
 obtain ⟨t42003,A160,H⟩:=H
 replace H:(if 1+t42003.size≤9223372036854775807 then (some ((⟨#[42]⟩:ByteArray) ++ t42003)) else (none))=some r:=H
 have A16:=zk A160
 clear A160
 by_cases c17:1+t42003.size≤9223372036854775807
 ·rw [if_pos c17] at H
  have c17z:=c17
  try simp at c17z
  try replace c17z:=eq_false (Nat.not_lt.2 c17z)
  have c17b0:=eq_true c17
  have c17b1:decide (1+t42003.size≤9223372036854775807)=true:=decide_eq_true c17
  try have c17b2:(9223372036854775807 < 1+t42003.size)=False:=eq_false (Nat.not_lt.2 c17)
  obtain rfl:=zi H
  go_enter Tryd.func42,Tryd.ntmps42
  go_wp2_with (first|((with_reducible refine gate_dst (N:=1) rfl ?_);refine zE (N:=1) (cs:=#[.int .i64 a0_0,.string a0_1,.slice A0_2 l0_2.length c0_2]) (t:=32) ?_;intro gb42001 hg w18 hbox hb;have n0_:=zk (below_step za2 hb);have n1_:=zk (hbox);have n2_:=zk (zs (w:=w) hg za2);have n3_:=zk (zs (w:=w) hg za2);clear HB;have HB:=n0_;have BK42001:=n1_;have GW42001:=n2_;have GE42001:=n3_;clear n0_ n1_ n2_ n3_;clear hb hbox hg;obtain ⟨hcz19_0,hcz19_1,hcz19_2,hfz19_0,hfz19_1,hfz19_2⟩:=blk3 BK42001.out;have p42002:0≤(0:Int):=(by omega);have q42002:0 < (l0_2.length:Int):=of_decide_eq_true za8;obtain ⟨ad42002,A42002_2,c42002_2,e42002,hx42002_0,hx42002_1,hx42002_2,hl42002_2,hi42002_2⟩:=at_T32 HR0_2.out 0 p42002 q42002;cases e42002;have qi42002:(0 < l0_2.length)=True:=eq_true (by omega);(try rw [show ((0:Int)).toNat=0 from rfl] at hx42002_0);(try rw [show 0 * 3=0 from rfl] at hx42002_0);(try rw [Addr.add_zero'] at hx42002_0);(try rw [show ((0:Int)).toNat=0 from rfl] at hx42002_1);(try rw [show 0 * 3=0 from rfl] at hx42002_1);(try rw [Addr.add_zero'] at hx42002_1);(try rw [show ((0:Int)).toNat=0 from rfl] at hx42002_2);(try rw [show 0 * 3=0 from rfl] at hx42002_2);(try rw [Addr.add_zero'] at hx42002_2);replace hx42002_0:=zx HB.out hx42002_0;replace hx42002_1:=zx HB.out hx42002_1;replace hx42002_2:=zx HB.out hx42002_2;have HR42002_2:=zk hi42002_2;have HC42002_2:=zk hl42002_2;clear hi42002_2 hl42002_2;replace p42002:=eq_true p42002;replace q42002:=eq_true q42002)|((with_reducible refine gate_callee (f:=42) rfl ?_);refine goesL_ (some 22) rfl rfl Tryd.func42 (by kernel_rfl) rfl #[.agg #[.int .i64 ((rd_T32 l0_2 0).f0),.string ((rd_T32 l0_2 0).f1),.slice A42002_2 ((rd_T32 l0_2 0).f2).length c42002_2]] rfl za5 ?_;(with_reducible refine (ih k (by omega) ((rd_T32 l0_2 0).f0) ((rd_T32 l0_2 0).f1) _ _ ((rd_T32 l0_2 0).f2) t42003 _ ?side1 ?side2 A16.out).mono ?_);(case side1=>repeat (first|exact (Kd.C_below HR42002_2.out HB.out)|(with_reducible refine Kd.C_alloc ?_ _)|(with_reducible refine Kd.C_drewN ?_ _)|(with_reducible refine Kd.C_drew ?_)));(case side2=>exact HC42002_2.out);rintro e w20 ⟨rfl,hb⟩;refine ⟨_,rfl,?_⟩;have n0_:=zk (zb BK42001.out hb);have n1_:=zk (below_step za2 hb);clear BK42001;clear HB;have BK42001:=n0_;have HB:=n1_;clear n0_ n1_;(try clear hb);(try clear hb2);(try clear hk);(try clear hi)))
  go_ret
  exact ⟨za6,za2⟩
 ·rw [if_neg c17] at H
  exact absurd H (by simp)
 ·rw [if_neg c15] at H
  exact absurd H (by simp)
 rw [if_neg c14] at H
 have c14b0:(a0_0 == 8)=false:=beq_eq_false_iff_ne.mpr c14
 have c14b1:(a0_0 != 8)=true:=bne_iff_ne.mpr c14
 by_cases c21:a0_0=9
 rw [if_pos c21] at H
 have c21b0:(a0_0 == 9)=true:=beq_iff_eq.mpr c21
 have c21b1:(a0_0 != 9)=false:=bne_eq_false_iff_eq.mpr c21
 clear c21
 by_cases c22:0 < (l0_2.length:Int)
 rw [if_pos c22] at H
 have c22b0:decide (0 < (l0_2.length:Int))=true:=decide_eq_true c22
 have c22b1:decide (0 < l0_2.length)=true:=decide_eq_true (by omega)
 clear c22
 replace H:=zo H
 obtain ⟨t42005,A230,H⟩:=H
 replace H:(if 1+t42005.size≤9223372036854775807 then (some ((⟨#[33]⟩:ByteArray) ++ t42005)) else (none))=some r:=H
 have A23:=zk A230
 clear A230
 by_cases c24:1+t42005.size≤9223372036854775807
 ·rw [if_pos c24] at H
  have c24z:=c24
  try simp at c24z
  try replace c24z:=eq_false (Nat.not_lt.2 c24z)
  have c24b0:=eq_true c24
  have c24b1:decide (1+t42005.size≤9223372036854775807)=true:=decide_eq_true c24
  try have c24b2:(9223372036854775807 < 1+t42005.size)=False:=eq_false (Nat.not_lt.2 c24)
  obtain rfl:=zi H
  go_enter Tryd.func42,Tryd.ntmps42
  go_wp2_with (first|((with_reducible refine gate_dst (N:=1) rfl ?_);refine zE (N:=1) (cs:=#[.int .i64 a0_0,.string a0_1,.slice A0_2 l0_2.length c0_2]) (t:=32) ?_;intro gb42001 hg w25 hbox hb;have n0_:=zk (below_step za2 hb);have n1_:=zk (hbox);have n2_:=zk (zs (w:=w) hg za2);have n3_:=zk (zs (w:=w) hg za2);clear HB;have HB:=n0_;have BK42001:=n1_;have GW42001:=n2_;have GE42001:=n3_;clear n0_ n1_ n2_ n3_;clear hb hbox hg;obtain ⟨hcz26_0,hcz26_1,hcz26_2,hfz26_0,hfz26_1,hfz26_2⟩:=blk3 BK42001.out;have p42004:0≤(0:Int):=(by omega);have q42004:0 < (l0_2.length:Int):=of_decide_eq_true za8;obtain ⟨ad42004,A42004_2,c42004_2,e42004,hx42004_0,hx42004_1,hx42004_2,hl42004_2,hi42004_2⟩:=at_T32 HR0_2.out 0 p42004 q42004;cases e42004;have qi42004:(0 < l0_2.length)=True:=eq_true (by omega);(try rw [show ((0:Int)).toNat=0 from rfl] at hx42004_0);(try rw [show 0 * 3=0 from rfl] at hx42004_0);(try rw [Addr.add_zero'] at hx42004_0);(try rw [show ((0:Int)).toNat=0 from rfl] at hx42004_1);(try rw [show 0 * 3=0 from rfl] at hx42004_1);(try rw [Addr.add_zero'] at hx42004_1);(try rw [show ((0:Int)).toNat=0 from rfl] at hx42004_2);(try rw [show 0 * 3=0 from rfl] at hx42004_2);(try rw [Addr.add_zero'] at hx42004_2);replace hx42004_0:=zx HB.out hx42004_0;replace hx42004_1:=zx HB.out hx42004_1;replace hx42004_2:=zx HB.out hx42004_2;have HR42004_2:=zk hi42004_2;have HC42004_2:=zk hl42004_2;clear hi42004_2 hl42004_2;replace p42004:=eq_true p42004;replace q42004:=eq_true q42004)|((with_reducible refine gate_callee (f:=42) rfl ?_);refine goesL_ (some 30) rfl rfl Tryd.func42 (by kernel_rfl) rfl #[.agg #[.int .i64 ((rd_T32 l0_2 0).f0),.string ((rd_T32 l0_2 0).f1),.slice A42004_2 ((rd_T32 l0_2 0).f2).length c42004_2]] rfl za5 ?_;(with_reducible refine (ih k (by omega) ((rd_T32 l0_2 0).f0) ((rd_T32 l0_2 0).f1) _ _ ((rd_T32 l0_2 0).f2) t42005 _ ?side1 ?side2 A23.out).mono ?_);(case side1=>repeat (first|exact (Kd.C_below HR42004_2.out HB.out)|(with_reducible refine Kd.C_alloc ?_ _)|(with_reducible refine Kd.C_drewN ?_ _)|(with_reducible refine Kd.C_drew ?_)));(case side2=>exact HC42004_2.out);rintro e w27 ⟨rfl,hb⟩;refine ⟨_,rfl,?_⟩;have n0_:=zk (zb BK42001.out hb);have n1_:=zk (below_step za2 hb);clear BK42001;clear HB;have BK42001:=n0_;have HB:=n1_;clear n0_ n1_;(try clear hb);(try clear hb2);(try clear hk);(try clear hi)))
  go_ret
  exact ⟨za6,za2⟩
 ·rw [if_neg c24] at H
  exact absurd H (by simp)
 ·rw [if_neg c22] at H
  exact absurd H (by simp)
 rw [if_neg c21] at H
 have c21b0:(a0_0 == 9)=false:=beq_eq_false_iff_ne.mpr c21
 have c21b1:(a0_0 != 9)=true:=bne_iff_ne.mpr c21
 obtain ⟨y42006,hy42006⟩:∃ y_:List ByteArray,y_=(([(⟨#[]⟩:ByteArray),(⟨#[124]⟩:ByteArray),(⟨#[38]⟩:ByteArray)]:List ByteArray)):=⟨_,rfl⟩
 replace H:(if 0≤(wrap64 (a0_0 - 5)) then (if (wrap64 (a0_0 - 5)) < (y42006.length:Int) then (if 0 < (l0_2.length:Int) then ((spec_l3Text.f k ((rd_T32 l0_2 0).f0) ((rd_T32 l0_2 0).f1) ((rd_T32 l0_2 0).f2)).bind fun t42011=>(if 1+t42011.size≤9223372036854775807 then (if ((⟨#[40]⟩:ByteArray) ++ t42011).size+(rdOf ByteArray.empty y42006 (wrap64 (a0_0 - 5))).size≤9223372036854775807 then (if 1 < (l0_2.length:Int) then ((spec_l3Text.f k ((rd_T32 l0_2 1).f0) ((rd_T32 l0_2 1).f1) ((rd_T32 l0_2 1).f2)).bind fun t42013=>(if (((⟨#[40]⟩:ByteArray) ++ t42011) ++ (rdOf ByteArray.empty y42006 (wrap64 (a0_0 - 5)))).size+t42013.size≤9223372036854775807 then (if ((((⟨#[40]⟩:ByteArray) ++ t42011) ++ (rdOf ByteArray.empty y42006 (wrap64 (a0_0 - 5)))) ++ t42013).size+1≤9223372036854775807 then (some (((((⟨#[40]⟩:ByteArray) ++ t42011) ++ (rdOf ByteArray.empty y42006 (wrap64 (a0_0 - 5)))) ++ t42013) ++ (⟨#[41]⟩:ByteArray))) else (none)) else (none))) else (none)) else (none)) else (none))) else (none)) else (none)) else (none))=some r:=by first|(rw [hy42006];with_reducible exact H)|(have H2_:=(Option.bind_some _ _).symm.trans H;rw [hy42006];with_reducible exact H2_)|(have H2_:=(Option.bind_some _ _).symm.trans H;with_reducible exact H2_)|with_reducible exact H|(rw [hy42006];exact H)|exact H
 have Ny42006:=zk hy42006
 clear hy42006
 obtain ⟨ji28,hji28⟩:∃ j_:Int,(wrap64 (a0_0 - 5))=j_:=⟨_,rfl⟩
 replace H:(if 0≤(ji28) then (if (ji28) < (y42006.length:Int) then (if 0 < (l0_2.length:Int) then ((spec_l3Text.f k ((rd_T32 l0_2 0).f0) ((rd_T32 l0_2 0).f1) ((rd_T32 l0_2 0).f2)).bind fun t42011=>(if 1+t42011.size≤9223372036854775807 then (if ((⟨#[40]⟩:ByteArray) ++ t42011).size+(rdOf ByteArray.empty y42006 (ji28)).size≤9223372036854775807 then (if 1 < (l0_2.length:Int) then ((spec_l3Text.f k ((rd_T32 l0_2 1).f0) ((rd_T32 l0_2 1).f1) ((rd_T32 l0_2 1).f2)).bind fun t42013=>(if (((⟨#[40]⟩:ByteArray) ++ t42011) ++ (rdOf ByteArray.empty y42006 (ji28))).size+t42013.size≤9223372036854775807 then (if ((((⟨#[40]⟩:ByteArray) ++ t42011) ++ (rdOf ByteArray.empty y42006 (ji28))) ++ t42013).size+1≤9223372036854775807 then (some (((((⟨#[40]⟩:ByteArray) ++ t42011) ++ (rdOf ByteArray.empty y42006 (ji28))) ++ t42013) ++ (⟨#[41]⟩:ByteArray))) else (none)) else (none))) else (none)) else (none)) else (none))) else (none)) else (none)) else (none))=some r:=by first|(rw [hji28] at H;exact H)|(simp only [hji28] at H ⊢;exact H)
 have hji28w:(IntKind.i64.wrap (a0_0 - 5))=ji28:=(i64_w _).trans hji28
 by_cases c29:0≤(ji28)
 rw [if_pos c29] at H
 have c29b0:decide (0≤(ji28))=true:=decide_eq_true c29
 clear c29
 by_cases c30:(ji28) < (y42006.length:Int)
 rw [if_pos c30] at H
 have c30b0:decide ((ji28) < (y42006.length:Int))=true:=decide_eq_true c30
 clear c30
 by_cases c31:0 < (l0_2.length:Int)
 rw [if_pos c31] at H
 have c31b0:decide (0 < (l0_2.length:Int))=true:=decide_eq_true c31
 have c31b1:decide (0 < l0_2.length)=true:=decide_eq_true (by omega)
 clear c31
 replace H:=zo H
 obtain ⟨t42011,A320,H⟩:=H
 replace H:(if 1+t42011.size≤9223372036854775807 then (if ((⟨#[40]⟩:ByteArray) ++ t42011).size+(rdOf ByteArray.empty y42006 (ji28)).size≤9223372036854775807 then (if 1 < (l0_2.length:Int) then ((spec_l3Text.f k ((rd_T32 l0_2 1).f0) ((rd_T32 l0_2 1).f1) ((rd_T32 l0_2 1).f2)).bind fun t42013=>(if (((⟨#[40]⟩:ByteArray) ++ t42011) ++ (rdOf ByteArray.empty y42006 (ji28))).size+t42013.size≤9223372036854775807 then (if ((((⟨#[40]⟩:ByteArray) ++ t42011) ++ (rdOf ByteArray.empty y42006 (ji28))) ++ t42013).size+1≤9223372036854775807 then (some (((((⟨#[40]⟩:ByteArray) ++ t42011) ++ (rdOf ByteArray.empty y42006 (ji28))) ++ t42013) ++ (⟨#[41]⟩:ByteArray))) else (none)) else (none))) else (none)) else (none)) else (none))=some r:=H
 have A32:=zk A320
 clear A320
 by_cases c33:1+t42011.size≤9223372036854775807
 rw [if_pos c33] at H
 have c33z:=c33
 try simp at c33z
 try replace c33z:=eq_false (Nat.not_lt.2 c33z)
 have c33b0:=eq_true c33
 have c33b1:decide (1+t42011.size≤9223372036854775807)=true:=decide_eq_true c33
 try have c33b2:(9223372036854775807 < 1+t42011.size)=False:=eq_false (Nat.not_lt.2 c33)
 by_cases c34:((⟨#[40]⟩:ByteArray) ++ t42011).size+(rdOf ByteArray.empty y42006 (ji28)).size≤9223372036854775807
 rw [if_pos c34] at H
 have c34z:=c34
 try simp at c34z
 try replace c34z:=eq_false (Nat.not_lt.2 c34z)
 have c34b0:=eq_true c34
 have c34b1:decide (((⟨#[40]⟩:ByteArray) ++ t42011).size+(rdOf ByteArray.empty y42006 (ji28)).size≤9223372036854775807)=true:=decide_eq_true c34
 try have c34y:(9223372036854775807 < 1+t42011.size+(rdOf ByteArray.empty y42006 (ji28)).size)=False:=eq_false (by have q_:=c34;simp only [ByteArray.size_append,show (⟨#[40]⟩:ByteArray).size=1 from rfl] at q_;omega)
 try have c34b2:(9223372036854775807 < ((⟨#[40]⟩:ByteArray) ++ t42011).size+(rdOf ByteArray.empty y42006 (ji28)).size)=False:=eq_false (Nat.not_lt.2 c34)
 by_cases c35:1 < (l0_2.length:Int)
 rw [if_pos c35] at H
 have c35b0:decide (1 < (l0_2.length:Int))=true:=decide_eq_true c35
 have c35b1:decide (1 < l0_2.length)=true:=decide_eq_true (by omega)
 clear c35
 replace H:=zo H
 obtain ⟨t42013,A360,H⟩:=H
 replace H:(if (((⟨#[40]⟩:ByteArray) ++ t42011) ++ (rdOf ByteArray.empty y42006 (ji28))).size+t42013.size≤9223372036854775807 then (if ((((⟨#[40]⟩:ByteArray) ++ t42011) ++ (rdOf ByteArray.empty y42006 (ji28))) ++ t42013).size+1≤9223372036854775807 then (some (((((⟨#[40]⟩:ByteArray) ++ t42011) ++ (rdOf ByteArray.empty y42006 (ji28))) ++ t42013) ++ (⟨#[41]⟩:ByteArray))) else (none)) else (none))=some r:=H
 have A36:=zk A360
 clear A360
 by_cases c37:(((⟨#[40]⟩:ByteArray) ++ t42011) ++ (rdOf ByteArray.empty y42006 (ji28))).size+t42013.size≤9223372036854775807
 rw [if_pos c37] at H
 have c37z:=c37
 try simp at c37z
 try replace c37z:=eq_false (Nat.not_lt.2 c37z)
 have c37b0:=eq_true c37
 have c37b1:decide ((((⟨#[40]⟩:ByteArray) ++ t42011) ++ (rdOf ByteArray.empty y42006 (ji28))).size+t42013.size≤9223372036854775807)=true:=decide_eq_true c37
 try have c37y:(9223372036854775807 < 1+t42011.size+(rdOf ByteArray.empty y42006 (ji28)).size+t42013.size)=False:=eq_false (by have q_:=c37;simp only [ByteArray.size_append,show (⟨#[40]⟩:ByteArray).size=1 from rfl] at q_;omega)
 try have c37b2:(9223372036854775807 < (((⟨#[40]⟩:ByteArray) ++ t42011) ++ (rdOf ByteArray.empty y42006 (ji28))).size+t42013.size)=False:=eq_false (Nat.not_lt.2 c37)
 by_cases c38:((((⟨#[40]⟩:ByteArray) ++ t42011) ++ (rdOf ByteArray.empty y42006 (ji28))) ++ t42013).size+1≤9223372036854775807
 ·rw [if_pos c38] at H
  have c38z:=c38
  try simp at c38z
  try replace c38z:=eq_false (Nat.not_lt.2 c38z)
  have c38b0:=eq_true c38
  have c38b1:decide (((((⟨#[40]⟩:ByteArray) ++ t42011) ++ (rdOf ByteArray.empty y42006 (ji28))) ++ t42013).size+1≤9223372036854775807)=true:=decide_eq_true c38
  try have c38y:(9223372036854775807 < 1+t42011.size+(rdOf ByteArray.empty y42006 (ji28)).size+t42013.size+1)=False:=eq_false (by have q_:=c38;simp only [ByteArray.size_append,show (⟨#[40]⟩:ByteArray).size=1 from rfl] at q_;omega)
  try have c38b2:(9223372036854775807 < ((((⟨#[40]⟩:ByteArray) ++ t42011) ++ (rdOf ByteArray.empty y42006 (ji28))) ++ t42013).size+1)=False:=eq_false (Nat.not_lt.2 c38)
  obtain rfl:=zi H
  go_enter Tryd.func42,Tryd.ntmps42
  try go_wp2_with (first|((with_reducible refine gate_dst (N:=1) rfl ?_);refine zE (N:=1) (cs:=#[.int .i64 a0_0,.string a0_1,.slice A0_2 l0_2.length c0_2]) (t:=32) ?_;intro gb42001 hg w39 hbox hb;have n0_:=zk (below_step za2 hb);have n1_:=zk (hbox);have n2_:=zk (zs (w:=w) hg za2);have n3_:=zk (zs (w:=w) hg za2);clear HB;have HB:=n0_;have BK42001:=n1_;have GW42001:=n2_;have GE42001:=n3_;clear n0_ n1_ n2_ n3_;clear hb hbox hg;obtain ⟨hcz40_0,hcz40_1,hcz40_2,hfz40_0,hfz40_1,hfz40_2⟩:=blk3 BK42001.out)|((with_reducible refine gate_dst (N:=32) rfl ?_);refine Kd.R_lit Kd.string _ 9 ?hg (N:=32) ?hd (xs:=([(⟨#[]⟩:ByteArray),(⟨#[124]⟩:ByteArray),(⟨#[38]⟩:ByteArray)]:List ByteArray)) (inner:=[.string (⟨#[]⟩:ByteArray),.string (⟨#[124]⟩:ByteArray),.string (⟨#[38]⟩:ByteArray)]) (ok:=fun _=>True) (okp:=fun _=>True) ?hr ?hp (fun _ hk=>hk) trivial (Below.refl _ _) (Nat.le_refl _) (by simp) ?_;(case hd=>rfl);(case hg=>rfl);(case hr=>first|(go_simp;done)|(go_simp;rfl));(case hp=>exact (Reps.one (show Kd.M Kd.string _ _ _ (⟨#[]⟩:ByteArray) [.string (⟨#[]⟩:ByteArray)] from rfl) (Reps.one (show Kd.M Kd.string _ _ _ (⟨#[124]⟩:ByteArray) [.string (⟨#[124]⟩:ByteArray)] from rfl) (Reps.one (show Kd.M Kd.string _ _ _ (⟨#[38]⟩:ByteArray) [.string (⟨#[38]⟩:ByteArray)] from rfl) (Reps.none _ _)))));intro v42007 w41 ho42 hb hg_ hnew_;clear hg_ hnew_;(first|rw [← Ny42006.out] at ho42|(simp only [Int.reduceToNat] at ho42;rw [← Ny42006.out] at ho42));have n0_:=zk (Kd.R_lower ho42 (below_size za2));have n1_:=zk (zb BK42001.out hb);have n2_:=zk (below_step za2 hb);clear BK42001;clear HB;have HO42008:=n0_;have BK42001:=n1_;have HB:=n2_;clear n0_ n1_ n2_;clear hb ho42;obtain ⟨hcz43_0,hcz43_1,hcz43_2,hfz43_0,hfz43_1,hfz43_2⟩:=blk3 BK42001.out;obtain ⟨Ao44,co44,eo44⟩:=Kd.R_slice HO42008.out;subst eo44;have p42009:0≤((ji28):Int):=of_decide_eq_true za8;have q42009:(ji28) < (y42006.length:Int):=of_decide_eq_true za8;obtain ⟨ad42009,e42009,hx42009_0⟩:=Kd.at_string (Kd.R_reads' HO42008.out).2.2 (ji28) p42009 q42009;cases e42009;replace p42009:=eq_true p42009;replace q42009:=eq_true q42009))
  have n0_:=zk (Kd.R_drew HO42008.out)
  have n1_:=zk (blk_drew BK42001.out)
  have n2_:=zk (below_drew1 HB.out)
  clear HO42008
  clear BK42001
  clear HB
  have HO42008:=n0_
  have BK42001:=n1_
  have HB:=n2_
  clear n0_ n1_ n2_
  have p42010:0≤(0:Int):=(by omega)
  have q42010:0 < (l0_2.length:Int):=of_decide_eq_true za8
  obtain ⟨ad42010,A42010_2,c42010_2,e42010,hx42010_0,hx42010_1,hx42010_2,hl42010_2,hi42010_2⟩:=at_T32 HR0_2.out 0 p42010 q42010
  have hw42010_2:=hx42010_2
  (try rw [show ((0:Int)).toNat=0 from rfl] at hw42010_2)
  (try rw [show 0 * 3=0 from rfl] at hw42010_2)
  (try rw [Addr.add_zero'] at hw42010_2)
  have hw42010_1:=hx42010_1
  (try rw [show ((0:Int)).toNat=0 from rfl] at hw42010_1)
  (try rw [show 0 * 3=0 from rfl] at hw42010_1)
  (try rw [Addr.add_zero'] at hw42010_1)
  have hw42010_0:=hx42010_0
  (try rw [show ((0:Int)).toNat=0 from rfl] at hw42010_0)
  (try rw [show 0 * 3=0 from rfl] at hw42010_0)
  (try rw [Addr.add_zero'] at hw42010_0)
  cases e42010
  have qi42010:(0 < l0_2.length)=True:=eq_true (by omega)
  (try rw [show ((0:Int)).toNat=0 from rfl] at hx42010_0)
  (try rw [show 0 * 3=0 from rfl] at hx42010_0)
  (try rw [Addr.add_zero'] at hx42010_0)
  (try rw [show ((0:Int)).toNat=0 from rfl] at hx42010_1)
  (try rw [show 0 * 3=0 from rfl] at hx42010_1)
  (try rw [Addr.add_zero'] at hx42010_1)
  (try rw [show ((0:Int)).toNat=0 from rfl] at hx42010_2)
  (try rw [show 0 * 3=0 from rfl] at hx42010_2)
  (try rw [Addr.add_zero'] at hx42010_2)
  replace hx42010_0:=zx HB.out hx42010_0
  replace hx42010_1:=zx HB.out hx42010_1
  replace hx42010_2:=zx HB.out hx42010_2
  have HR42010_2:=zk hi42010_2
  have HC42010_2:=zk hl42010_2
  clear hi42010_2 hl42010_2
  replace p42010:=eq_true p42010
  replace q42010:=eq_true q42010
  have p42012:0≤(1:Int):=(by omega)
  have q42012:1 < (l0_2.length:Int):=of_decide_eq_true za8
  obtain ⟨ad42012,A42012_2,c42012_2,e42012,hx42012_0,hx42012_1,hx42012_2,hl42012_2,hi42012_2⟩:=at_T32 HR0_2.out 1 p42012 q42012
  have hw42012_2:=hx42012_2
  (try rw [show ((1:Int)).toNat=1 from rfl] at hw42012_2)
  (try rw [show 1 * 3=3 from rfl] at hw42012_2)
  (try simp only [Nat.reduceMul,Nat.reduceEqDiff,Go.Addr.add,↓reduceIte] at hw42012_2)
  have hw42012_1:=hx42012_1
  (try rw [show ((1:Int)).toNat=1 from rfl] at hw42012_1)
  (try rw [show 1 * 3=3 from rfl] at hw42012_1)
  (try simp only [Nat.reduceMul,Nat.reduceEqDiff,Go.Addr.add,↓reduceIte] at hw42012_1)
  have hw42012_0:=hx42012_0
  (try rw [show ((1:Int)).toNat=1 from rfl] at hw42012_0)
  (try rw [show 1 * 3=3 from rfl] at hw42012_0)
  (try simp only [Nat.reduceMul,Nat.reduceEqDiff,Go.Addr.add,↓reduceIte] at hw42012_0)
  obtain rfl:ad42010=ad42012:=(by injection e42012)
  (try simp only [show (1:Int).toNat=1 from rfl,Nat.reduceMul,Nat.reduceEqDiff,Go.Addr.add,↓reduceIte] at hx42012_0)
  (try simp only [show (1:Int).toNat=1 from rfl,Nat.reduceMul,Nat.reduceEqDiff,Go.Addr.add,↓reduceIte] at hx42012_1)
  (try simp only [show (1:Int).toNat=1 from rfl,Nat.reduceMul,Nat.reduceEqDiff,Go.Addr.add,↓reduceIte] at hx42012_2)
  have qi42012:(1 < l0_2.length)=True:=eq_true (by omega)
  (try rw [show ((1:Int)).toNat=1 from rfl] at hx42012_0)
  (try rw [show 1 * 3=3 from rfl] at hx42012_0)
  (try rw [show ((1:Int)).toNat=1 from rfl] at hx42012_1)
  (try rw [show 1 * 3=3 from rfl] at hx42012_1)
  (try rw [show ((1:Int)).toNat=1 from rfl] at hx42012_2)
  (try rw [show 1 * 3=3 from rfl] at hx42012_2)
  replace hx42012_0:=zx HB.out hx42012_0
  replace hx42012_1:=zx HB.out hx42012_1
  replace hx42012_2:=zx HB.out hx42012_2
  have HR42012_2:=zk hi42012_2
  have HC42012_2:=zk hl42012_2
  clear hi42012_2 hl42012_2
  replace p42012:=eq_true p42012
  replace q42012:=eq_true q42012
  refine start_ (n:=16) (S:=fun w'=>w'.cell? ⟨gb42001,0,none⟩=some (.int .i64 a0_0)∧w'.cell? ⟨gb42001,1,none⟩=some (.string a0_1)∧w'.cell? ⟨gb42001,2,none⟩=some (.slice (some ad42010) l0_2.length c0_2)∧w'.cell? ad42010=some (.int .i64 ((rd_T32 l0_2 0).f0))∧w'.cell? ⟨ad42010.block,ad42010.off+1,none⟩=some (.string ((rd_T32 l0_2 0).f1))∧w'.cell? ⟨ad42010.block,ad42010.off+2,none⟩=some (.slice A42010_2 ((rd_T32 l0_2 0).f2).length c42010_2)∧w'.cell? ⟨ad42010.block,ad42010.off+3,none⟩=some (.int .i64 ((rd_T32 l0_2 1).f0))∧w'.cell? ⟨ad42010.block,ad42010.off+3+1,none⟩=some (.string ((rd_T32 l0_2 1).f1))∧w'.cell? ⟨ad42010.block,ad42010.off+3+2,none⟩=some (.slice A42012_2 ((rd_T32 l0_2 1).f2).length c42012_2)) (ds:=[]) #[false,false,false,false,false,false,false,false,false,false,false,false,false,false,false,false] (by kernel_rfl) rfl rfl ⟨(blk_cell BK42001.out 0).trans rfl,(blk_cell BK42001.out 1).trans rfl,(blk_cell BK42001.out 2).trans rfl,((HB.out.cell (World.block_lt_of_cell? w _ hw42010_0)).trans hw42010_0),((HB.out.cell (World.block_lt_of_cell? w _ hw42010_1)).trans hw42010_1),((HB.out.cell (World.block_lt_of_cell? w _ hw42010_2)).trans hw42010_2),((HB.out.cell (World.block_lt_of_cell? w _ hw42012_0)).trans hw42012_0),((HB.out.cell (World.block_lt_of_cell? w _ hw42012_1)).trans hw42012_1),((HB.out.cell (World.block_lt_of_cell? w _ hw42012_2)).trans hw42012_2)⟩ (fun hHeld=>?_);refine with_tabW spec_l3Text.tab15 spec_l3Text.bits15 (fun HT_ HW_=>?_)
  generalize w41.drew=w45 at HO42008 BK42001 HB HR42010_2 HR42012_2 hx42010_0 hx42010_1 hx42010_2 hx42012_0 hx42012_1 hx42012_2 hHeld ⊢
  refine pure_ (i:=0) (N:=some 38) (v:=?_) (a':=?_) #[true,false,false,false,false,false,false,false,false,false,false,false,false,false,false,false] rfl rfl (any_of HT_.out (by kernel_rfl)) (fun _ _ _ h=>h) (Or.inl ⟨by rfl,?_⟩) ?_ ?_
  rotate_left
  ·intro w'
   go_simp
   exact zr1
  rotate_left
  ·simp only [Act.put,zt,zu,zv,i64_w,i32_w]
   rfl
  refine pure_ (i:=6) (N:=some 44) (v:=?_) (a':=?_) #[true,false,false,false,false,false,true,false,false,false,false,false,false,false,false,false] rfl rfl (any_of HT_.out (by kernel_rfl)) (fun _ _ _ h=>h) (Or.inl ⟨by rfl,?_⟩) ?_ ?_
  rotate_left
  ·intro w'
   go_simp
   exact zr1
  rotate_left
  ·simp only [Act.put,zt,zu,zv,i64_w,i32_w]
   rfl
  refine pure_ (i:=8) (N:=some 46) (v:=?_) (a':=?_) #[true,false,false,false,false,false,true,false,true,false,false,false,false,false,false,false] rfl rfl (any_of HT_.out (by kernel_rfl)) (fun _ _ _ h=>h) (Or.inl ⟨by rfl,?_⟩) ?_ ?_
  rotate_left
  ·intro w'
   go_simp
   exact zr1
  rotate_left
  ·simp only [Act.put,zt,zu,zv,i64_w,i32_w]
   rfl
  refine take_ (i:=1) (N:=some 39) (v:=?_) (a':=?_) #[true,true,false,false,false,false,true,false,true,false,false,false,false,false,false,false] rfl rfl (take_ofW HT_.out HW_.out (by kernel_rfl)) (fun _ _ _ h=>h) (Or.inl ⟨by rfl,?_⟩) hHeld ?_ ?_
  rotate_left
  ·rintro w' ⟨s0,s1,s2,s3,s4,s5,s6,s7,s8⟩
   go_simp
   exact zr1
  rotate_left
  ·simp only [Act.put,zt,zu,zv,i64_w,i32_w]
   rfl
  refine pure_ (i:=2) (N:=some 40) (v:=?_) (a':=?_) #[true,true,true,false,false,false,true,false,true,false,false,false,false,false,false,false] rfl rfl (any_of HT_.out (by kernel_rfl)) (fun _ _ _ h=>h) (Or.inl ⟨by rfl,?_⟩) ?_ ?_
  rotate_left
  ·intro w'
   go_simp
   exact zr1
  rotate_left
  ·simp only [Act.put,zt,zu,zv,i64_w,i32_w]
   rfl
  refine take_ (i:=3) (N:=some 41) (v:=?_) (a':=?_) #[true,true,true,true,false,false,true,false,true,false,false,false,false,false,false,false] rfl rfl (take_ofW HT_.out HW_.out (by kernel_rfl)) (fun _ _ _ h=>h) (Or.inl ⟨by rfl,?_⟩) hHeld ?_ ?_
  rotate_left
  ·rintro w' ⟨s0,s1,s2,s3,s4,s5,s6,s7,s8⟩
   go_simp
   exact zr1
  rotate_left
  ·simp only [Act.put,zt,zu,zv,i64_w,i32_w]
   rfl
  refine take_ (i:=9) (N:=some 47) (v:=?_) (a':=?_) #[true,true,true,true,false,false,true,false,true,true,false,false,false,false,false,false] rfl rfl (take_ofW HT_.out HW_.out (by kernel_rfl)) (fun _ _ _ h=>h) (Or.inl ⟨by rfl,?_⟩) hHeld ?_ ?_
  rotate_left
  ·rintro w' ⟨s0,s1,s2,s3,s4,s5,s6,s7,s8⟩
   go_simp
   exact zr1
  rotate_left
  ·simp only [Act.put,zt,zu,zv,i64_w,i32_w]
   rfl
  refine pure_ (i:=10) (N:=some 48) (v:=?_) (a':=?_) #[true,true,true,true,false,false,true,false,true,true,true,false,false,false,false,false] rfl rfl (any_of HT_.out (by kernel_rfl)) (fun _ _ _ h=>h) (Or.inl ⟨by rfl,?_⟩) ?_ ?_
  rotate_left
  ·intro w'
   go_simp
   exact zr1
  rotate_left
  ·simp only [Act.put,zt,zu,zv,i64_w,i32_w]
   rfl
  refine take_ (i:=11) (N:=some 49) (v:=?_) (a':=?_) #[true,true,true,true,false,false,true,false,true,true,true,true,false,false,false,false] rfl rfl (take_ofW HT_.out HW_.out (by kernel_rfl)) (fun _ _ _ h=>h) (Or.inl ⟨by rfl,?_⟩) hHeld ?_ ?_
  rotate_left
  ·rintro w' ⟨s0,s1,s2,s3,s4,s5,s6,s7,s8⟩
   go_simp
   exact zr1
  rotate_left
  ·simp only [Act.put,zt,zu,zv,i64_w,i32_w]
   rfl
  refine one_ (i:=4) (N:=some 42) #[true,true,true,true,true,false,true,false,true,true,true,true,false,false,false,false] rfl rfl (one_of HT_.out (by kernel_rfl)) (by decide) (fun K hK=>?_)
  refine goes_ Tryd.func42 (by kernel_rfl) rfl #[.agg #[.int .i64 ((rd_T32 l0_2 0).f0),.string ((rd_T32 l0_2 0).f1),.slice A42010_2 ((rd_T32 l0_2 0).f2).length c42010_2]] (by rfl) rfl rfl za5 ?_
  with_reducible refine (ih k (by omega) ((rd_T32 l0_2 0).f0) ((rd_T32 l0_2 0).f1) _ _ ((rd_T32 l0_2 0).f2) t42011 _ ?side1 ?side2 A32.out).mono ?_
  (case side1=>repeat (first|exact (Kd.C_below HR42010_2.out HB.out)|(with_reducible refine Kd.C_alloc ?_ _)|(with_reducible refine Kd.C_drewN ?_ _)|(with_reducible refine Kd.C_drew ?_)))
  (case side2=>exact HC42010_2.out)
  rintro e w46 ⟨rfl,hb⟩
  refine ⟨_,rfl,?_⟩
  have n0_:=zk (Kd.R_below (za1 HO42008.out) hb)
  have n1_:=zk (zb BK42001.out hb)
  have n2_:=zk (below_step za2 hb)
  clear HO42008
  clear BK42001
  clear HB
  have HO42008:=n0_
  have BK42001:=n1_
  have HB:=n2_
  clear n0_ n1_ n2_
  (try clear hb)
  (try clear hb2)
  (try clear hk)
  (try clear hi)
  refine hK.out _ _ ⟨(blk_cell BK42001.out 0).trans rfl,(blk_cell BK42001.out 1).trans rfl,(blk_cell BK42001.out 2).trans rfl,((HB.out.cell (World.block_lt_of_cell? w _ hw42010_0)).trans hw42010_0),((HB.out.cell (World.block_lt_of_cell? w _ hw42010_1)).trans hw42010_1),((HB.out.cell (World.block_lt_of_cell? w _ hw42010_2)).trans hw42010_2),((HB.out.cell (World.block_lt_of_cell? w _ hw42012_0)).trans hw42012_0),((HB.out.cell (World.block_lt_of_cell? w _ hw42012_1)).trans hw42012_1),((HB.out.cell (World.block_lt_of_cell? w _ hw42012_2)).trans hw42012_2)⟩ (fun hHeld=>?_)
  clear hK K
  refine norm_ (a':=?_) ?_ ?_
  rotate_left
  ·show Act.put _ (some 42) _=_
   simp only [Act.put,zt,zu,zv,i64_w,i32_w]
   rfl
  refine pure_ (i:=5) (N:=some 43) (v:=?_) (a':=?_) #[true,true,true,true,true,true,true,false,true,true,true,true,false,false,false,false] rfl rfl (any_of HT_.out (by kernel_rfl)) (fun _ _ _ h=>h) (Or.inl ⟨by rfl,?_⟩) ?_ ?_
  rotate_left
  ·intro w'
   go_simp
   exact zr1
  rotate_left
  ·simp only [Act.put,zt,zu,zv,i64_w,i32_w]
   rfl
  refine pure_ (i:=7) (N:=some 45) (v:=?_) (a':=?_) #[true,true,true,true,true,true,true,true,true,true,true,true,false,false,false,false] rfl rfl (any_of HT_.out (by kernel_rfl)) (fun _ _ _ h=>h) (Or.inl ⟨by rfl,?_⟩) ?_ ?_
  rotate_left
  ·intro w'
   go_simp
   exact zr1
  rotate_left
  ·simp only [Act.put,zt,zu,zv,i64_w,i32_w]
   rfl
  refine one_ (i:=12) (N:=some 50) #[true,true,true,true,true,true,true,true,true,true,true,true,true,false,false,false] rfl rfl (one_of HT_.out (by kernel_rfl)) (by decide) (fun K hK=>?_)
  refine goes_ Tryd.func42 (by kernel_rfl) rfl #[.agg #[.int .i64 ((rd_T32 l0_2 1).f0),.string ((rd_T32 l0_2 1).f1),.slice A42012_2 ((rd_T32 l0_2 1).f2).length c42012_2]] (by rfl) rfl rfl za5 ?_
  with_reducible refine (ih k (by omega) ((rd_T32 l0_2 1).f0) ((rd_T32 l0_2 1).f1) _ _ ((rd_T32 l0_2 1).f2) t42013 _ ?side1 ?side2 A36.out).mono ?_
  (case side1=>repeat (first|exact (Kd.C_below HR42012_2.out HB.out)|(with_reducible refine Kd.C_alloc ?_ _)|(with_reducible refine Kd.C_drewN ?_ _)|(with_reducible refine Kd.C_drew ?_)))
  (case side2=>exact HC42012_2.out)
  rintro e w47 ⟨rfl,hb⟩
  refine ⟨_,rfl,?_⟩
  have n0_:=zk (Kd.R_below (za1 HO42008.out) hb)
  have n1_:=zk (zb BK42001.out hb)
  have n2_:=zk (below_step za2 hb)
  clear HO42008
  clear BK42001
  clear HB
  have HO42008:=n0_
  have BK42001:=n1_
  have HB:=n2_
  clear n0_ n1_ n2_
  (try clear hb)
  (try clear hb2)
  (try clear hk)
  (try clear hi)
  refine hK.out _ _ ⟨(blk_cell BK42001.out 0).trans rfl,(blk_cell BK42001.out 1).trans rfl,(blk_cell BK42001.out 2).trans rfl,((HB.out.cell (World.block_lt_of_cell? w _ hw42010_0)).trans hw42010_0),((HB.out.cell (World.block_lt_of_cell? w _ hw42010_1)).trans hw42010_1),((HB.out.cell (World.block_lt_of_cell? w _ hw42010_2)).trans hw42010_2),((HB.out.cell (World.block_lt_of_cell? w _ hw42012_0)).trans hw42012_0),((HB.out.cell (World.block_lt_of_cell? w _ hw42012_1)).trans hw42012_1),((HB.out.cell (World.block_lt_of_cell? w _ hw42012_2)).trans hw42012_2)⟩ (fun hHeld=>?_)
  clear hK K
  refine norm_ (a':=?_) ?_ ?_
  rotate_left
  ·show Act.put _ (some 50) _=_
   simp only [Act.put,zt,zu,zv,i64_w,i32_w]
   rfl
  refine pure_ (i:=13) (N:=some 51) (v:=?_) (a':=?_) #[true,true,true,true,true,true,true,true,true,true,true,true,true,true,false,false] rfl rfl (any_of HT_.out (by kernel_rfl)) (fun _ _ _ h=>h) (Or.inl ⟨by rfl,?_⟩) ?_ ?_
  rotate_left
  ·intro w'
   go_simp
   exact zr1
  rotate_left
  ·simp only [Act.put,zt,zu,zv,i64_w,i32_w]
   rfl
  refine pure_ (i:=14) (N:=some 52) (v:=?_) (a':=?_) #[true,true,true,true,true,true,true,true,true,true,true,true,true,true,true,false] rfl rfl (any_of HT_.out (by kernel_rfl)) (fun _ _ _ h=>h) (Or.inl ⟨by rfl,?_⟩) ?_ ?_
  rotate_left
  ·intro w'
   go_simp
   exact zr1
  rotate_left
  ·simp only [Act.put,zt,zu,zv,i64_w,i32_w]
   rfl
  refine pure_ (i:=15) (N:=some 2) (v:=?_) (a':=?_) #[true,true,true,true,true,true,true,true,true,true,true,true,true,true,true,true] rfl rfl (any_of HT_.out (by kernel_rfl)) (fun _ _ _ h=>h) (Or.inl ⟨by rfl,?_⟩) ?_ ?_
  rotate_left
  ·intro w'
   go_simp
   exact zr1
  rotate_left
  ·simp only [Act.put,zt,zu,zv,i64_w,i32_w]
   rfl
  refine done_ (done_of HT_.out (by kernel_rfl)) ?_
  try go_wp2
  go_ret
  exact ⟨by first|rfl|(simp [errW_none,errW_some] <;> rfl)|(simp only [← hji28];first|rfl|(simp [errW_none,errW_some] <;> rfl))|(simp [*,errW_none,errW_some] <;> rfl),za2⟩
 ·rw [if_neg c38] at H
  exact absurd H (by simp)
 ·rw [if_neg c37] at H
  exact absurd H (by simp)
 ·rw [if_neg c35] at H
  exact absurd H (by simp)
 ·rw [if_neg c34] at H
  exact absurd H (by simp)
 ·rw [if_neg c33] at H
  exact absurd H (by simp)
 ·rw [if_neg c31] at H
  exact absurd H (by simp)
 ·rw [if_neg c30] at H
  exact absurd H (by simp)
 ·rw [if_neg c29] at H
  exact absurd H (by simp)
def spec_FormatRegex.f (k:Nat) (a0_0:Int) (a0_1:ByteArray) (l0_2:List (S32)):Option (ByteArray):=(spec_IsValidRegex.f k a0_0 a0_1 l0_2).bind fun t19002=>(if t19002=true then ((spec_l3Text.f k a0_0 a0_1 l0_2).bind fun t19003=>(some t19003)) else (some (⟨#[]⟩:ByteArray)))
theorem spec_FormatRegex.mono:∀ a0 a1 a2 k,LeO (spec_FormatRegex.f k a0 a1 a2) (spec_FormatRegex.f (k+1) a0 a1 a2):=by
 intro a0 a1 a2 k
 unfold spec_FormatRegex.f
 repeat' first
  | with_reducible first|exact spec_IsValidRegex.mono _ _ _ _|exact spec_l3Text.mono _ _ _ _|exact LeO.refl _|exact LeO.none _|refine LeO.ite ?_ ?_|refine LeO.bind ?_ (fun _=>?_)
theorem spec_FormatRegex.calls (k:Nat) (a0_0:Int) (a0_1:ByteArray) (A0_2:Option Addr) (c0_2:Nat) (l0_2:List (S32)) (r:ByteArray) (w:World) (hr0_2:Kd.C k32 w A0_2 l0_2.length l0_2) (hc0_2:l0_2.length≤c0_2) (h:spec_FormatRegex.f k a0_0 a0_1 l0_2=some r) :
   Calls Tryd.prog 19 #[.agg #[.int .i64 a0_0,.string a0_1,.slice A0_2 l0_2.length c0_2]] w fun e w'=>e = .returned (.string r)∧Below w.heap.size w w':=by
 have hu32:=Tryd.underlying32
 have HR0_2:=zk hr0_2
 have HC0_2:=zk hc0_2
 clear hr0_2 hc0_2
 have HB:=zk (Below.refl w.heap.size w)
 have H:((spec_IsValidRegex.f k a0_0 a0_1 l0_2).bind fun t19002=>(if t19002=true then ((spec_l3Text.f k a0_0 a0_1 l0_2).bind fun t19003=>(some t19003)) else (some (⟨#[]⟩:ByteArray))))=some r:=h
 clear h
 replace H:=zo H
 obtain ⟨t19002,A20,H⟩:=H
 replace H:(if t19002=true then ((spec_l3Text.f k a0_0 a0_1 l0_2).bind fun t19003=>(some t19003)) else (some (⟨#[]⟩:ByteArray)))=some r:=H
 have A2:=zk A20
 clear A20
 by_cases c3:t19002=true
 subst c3
 have H1:((spec_l3Text.f k a0_0 a0_1 l0_2).bind fun t19003=>(some t19003))=some r:=by rw [if_pos rfl] at H;exact H
 clear H
 have H:=H1
 clear H1
 replace H:=zo H
 obtain ⟨t19003,A40,H⟩:=H
 replace H:(some t19003)=some r:=H
 have A4:=zk A40
 clear A40
 rotate_left
 replace c3:=Bool.eq_false_iff.mpr c3
 subst c3
 have H1:(some (⟨#[]⟩:ByteArray))=some r:=by rw [if_neg (show ¬ (false=true) by decide)] at H;exact H
 clear H
 have H:=H1
 clear H1
 rotate_left
 all_goals
  obtain rfl:=zi H
  go_enter Tryd.func19,Tryd.ntmps19
  go_wp2_with (first|((with_reducible refine gate_dst (N:=1) rfl ?_);refine zE (N:=1) (cs:=#[.int .i64 a0_0,.string a0_1,.slice A0_2 l0_2.length c0_2]) (t:=32) ?_;intro gb19001 hg w10 hbox hb;have n0_:=zk (below_step za2 hb);have n1_:=zk (hbox);have n2_:=zk (zs (w:=w) hg za2);have n3_:=zk (zs (w:=w) hg za2);clear HB;have HB:=n0_;have BK19001:=n1_;have GW19001:=n2_;have GE19001:=n3_;clear n0_ n1_ n2_ n3_;clear hb hbox hg;obtain ⟨hcz11_0,hcz11_1,hcz11_2,hfz11_0,hfz11_1,hfz11_2⟩:=blk3 BK19001.out)|((with_reducible refine gate_callee (f:=39) rfl ?_);refine goesL_ (some 4) rfl rfl Tryd.func39 (by kernel_rfl) rfl #[.agg #[.int .i64 a0_0,.string a0_1,.slice A0_2 l0_2.length c0_2]] rfl za5 ?_;(with_reducible refine (spec_IsValidRegex.calls k a0_0 a0_1 _ _ l0_2 _ _ ?side1 ?side2 A2.out).mono ?_);(case side1=>repeat (first|exact (Kd.C_below HR0_2.out HB.out)|(with_reducible refine Kd.C_alloc ?_ _)|(with_reducible refine Kd.C_drewN ?_ _)|(with_reducible refine Kd.C_drew ?_)));(case side2=>exact HC0_2.out);rintro e w7 ⟨rfl,hb⟩;refine ⟨_,rfl,?_⟩;have n0_:=zk (zb BK19001.out hb);have n1_:=zk (below_step za2 hb);clear BK19001;clear HB;have BK19001:=n0_;have HB:=n1_;clear n0_ n1_;(try clear hb);(try clear hb2);(try clear hk);(try clear hi);obtain ⟨hcz8_0,hcz8_1,hcz8_2,hfz8_0,hfz8_1,hfz8_2⟩:=blk3 BK19001.out)|((with_reducible refine gate_callee (f:=42) rfl ?_);refine goesL_ (some 7) rfl rfl Tryd.func42 (by kernel_rfl) rfl #[.agg #[.int .i64 a0_0,.string a0_1,.slice A0_2 l0_2.length c0_2]] rfl za5 ?_;(with_reducible refine (spec_l3Text.calls k a0_0 a0_1 _ _ l0_2 t19003 _ ?side1 ?side2 A4.out).mono ?_);(case side1=>repeat (first|exact (Kd.C_below HR0_2.out HB.out)|(with_reducible refine Kd.C_alloc ?_ _)|(with_reducible refine Kd.C_drewN ?_ _)|(with_reducible refine Kd.C_drew ?_)));(case side2=>exact HC0_2.out);rintro e w9 ⟨rfl,hb⟩;refine ⟨_,rfl,?_⟩;have n0_:=zk (zb BK19001.out hb);have n1_:=zk (below_step za2 hb);clear BK19001;clear HB;have BK19001:=n0_;have HB:=n1_;clear n0_ n1_;(try clear hb);(try clear hb2);(try clear hk);(try clear hi)))
  go_ret
  exact ⟨za6,za2⟩
def spec_l9Zero.f (a0_0:Int) (a0_1:ByteArray) (l0_2:List (S32)):Option (Bool):=if a0_0=0 then (if a0_1.toList=([]:List UInt8) then (some ((l0_2.length:Int) == 0)) else (some false)) else (some false)
theorem spec_l9Zero.calls (a0_0:Int) (a0_1:ByteArray) (A0_2:Option Addr) (c0_2:Nat) (l0_2:List (S32)) (r:Bool) (w:World) (hr0_2:Kd.C k32 w A0_2 l0_2.length l0_2) (hc0_2:l0_2.length≤c0_2) (h:spec_l9Zero.f a0_0 a0_1 l0_2=some r) :
   Calls Tryd.prog 38 #[.agg #[.int .i64 a0_0,.string a0_1,.slice A0_2 l0_2.length c0_2]] w fun e w'=>e = .returned (.bool r)∧Below w.heap.size w w':=by
 have hu32:=Tryd.underlying32
 have HR0_2:=zk hr0_2
 have HC0_2:=zk hc0_2
 clear hr0_2 hc0_2
 have HB:=zk (Below.refl w.heap.size w)
 have H:(if a0_0=0 then (if a0_1.toList=([]:List UInt8) then (some ((l0_2.length:Int) == 0)) else (some false)) else (some false))=some r:=h
 clear h
 by_cases c2:a0_0=0
 rw [if_pos c2] at H
 have c2b0:(a0_0 == 0)=true:=beq_iff_eq.mpr c2
 have c2b1:(a0_0 != 0)=false:=bne_eq_false_iff_eq.mpr c2
 clear c2
 by_cases c3:a0_1.toList=([]:List UInt8)
 rw [if_pos c3] at H
 have c3b0:(a0_1.toList == ([]:List UInt8))=true:=beq_iff_eq.mpr c3
 have c3b1:(a0_1.toList != ([]:List UInt8))=false:=bne_eq_false_iff_eq.mpr c3
 clear c3
 rotate_left
 rw [if_neg c3] at H
 have c3b0:(a0_1.toList == ([]:List UInt8))=false:=beq_eq_false_iff_ne.mpr c3
 have c3b1:(a0_1.toList != ([]:List UInt8))=true:=bne_iff_ne.mpr c3
 rotate_left
 rw [if_neg c2] at H
 have c2b0:(a0_0 == 0)=false:=beq_eq_false_iff_ne.mpr c2
 have c2b1:(a0_0 != 0)=true:=bne_iff_ne.mpr c2
 rotate_left
 all_goals
  obtain rfl:=zi H
  go_enter Tryd.func38,Tryd.ntmps38
  go_wp2_with (((with_reducible refine gate_dst (N:=1) rfl ?_);(try (refine gate_guard (by rfl) ?_;dsimp only));refine zE (N:=1) (cs:=#[.int .i64 a0_0,.string a0_1,.slice A0_2 l0_2.length c0_2]) (t:=32) ?_;intro gb38001 hg w4 hbox hb;have n0_:=zk (below_step za2 hb);have n1_:=zk (hbox);have n2_:=zk (zs (w:=w) hg za2);have n3_:=zk (zs (w:=w) hg za2);clear HB;have HB:=n0_;have BK38001:=n1_;have GW38001:=n2_;have GE38001:=n3_;clear n0_ n1_ n2_ n3_;clear hb hbox hg;obtain ⟨hcz5_0,hcz5_1,hcz5_2,hfz5_0,hfz5_1,hfz5_2⟩:=blk3 BK38001.out))
  go_ret
  exact ⟨za6,za2⟩
def spec_l9Coeffs.l0:Nat→List Int→Int→Option (Bool)
 | 0,_,_=>none
 | k+1,x0,x3=>if x3 < (x0.length:Int) then (if 0≤x3 then ((spec_l1In.f (rd x0 x3) (-9) 9).bind fun t40002=>(if t40002=true then (spec_l9Coeffs.l0 k x0 (wrap64 (x3+1))) else (some false))) else (none)) else (some ((x0.length:Int) == 3))
def spec_l9Coeffs.f (k:Nat) (l0:List Int):Option (Bool):=spec_l9Coeffs.l0 k l0 0
theorem spec_l9Coeffs.mono_l:∀ k,(∀ y0 y1,LeO (spec_l9Coeffs.l0 k y0 y1) (spec_l9Coeffs.l0 (k+1) y0 y1))
 | 0=>fun _ _ r h=>by simp [spec_l9Coeffs.l0] at h
 | k+1=>by
  have ih0:=spec_l9Coeffs.mono_l k
  ·intro y0 y1
   unfold spec_l9Coeffs.l0
   repeat' first
   | with_reducible first|exact ih0 _ _|exact LeO.refl _|exact LeO.none _|refine LeO.ite ?_ ?_|refine LeO.bind ?_ (fun _=>?_)
theorem spec_l9Coeffs.mono:∀ a0 k,LeO (spec_l9Coeffs.f k a0) (spec_l9Coeffs.f (k+1) a0):=by
 intro a0 k
 have ih0:=spec_l9Coeffs.mono_l k
 unfold spec_l9Coeffs.f
 repeat' first
  | with_reducible first|exact ih0 _ _|exact LeO.refl _|exact LeO.none _|refine LeO.ite ?_ ?_|refine LeO.bind ?_ (fun _=>?_)
theorem spec_l9Coeffs.calls (k:Nat) (A0:Option Addr) (c0:Nat) (l0:List Int) (r:Bool) (w:World) (hr0:Kd.C (Kd.int .i64) w A0 l0.length l0) (hc0:l0.length≤c0) (h:spec_l9Coeffs.f k l0=some r) :
   Calls Tryd.prog 40 #[.slice A0 l0.length c0] w fun e w'=>e = .returned (.bool r)∧Drawn0 w w':=by
 have HR0:=zk hr0
 have HC0:=zk hc0
 clear hr0 hc0
 have H:(spec_l9Coeffs.l0 k l0 0)=some r:=h
 clear h
 have H':=zk H
 clear H
 go_enter Tryd.func40,Tryd.ntmps40
 go_wp2
 first|go_loopg [3] k (fun kq v3 w'=>∃ (x3_1:Int),v3 = .int .i64 x3_1∧Aside0 (spec_l9Coeffs.l0 kq l0 x3_1=some r)∧Aside0 (kq≤k)∧Drawn0 w w')|(simp only [Act.put,zt,zv,zu];go_loopg [3] k (fun kq v3 w'=>∃ (x3_1:Int),v3 = .int .i64 x3_1∧Aside0 (spec_l9Coeffs.l0 kq l0 x3_1=some r)∧Aside0 (kq≤k)∧Drawn0 w w'))
 case atStart=>exact ⟨(0),za7,H',⟨Nat.le_refl _⟩,za9⟩
 case round =>
  clear H'
  obtain ⟨x3_1,rfl,HA,HK1,⟨m1,rfl⟩⟩:=hrel
  cases gk with
  | zero=>exact absurd HA.out (by simp [spec_l9Coeffs.l0])
  | succ k1 =>
   have H:=HA.out
   clear HA
   simp only [spec_l9Coeffs.l0] at H
   by_cases c2:x3_1 < (l0.length:Int)
   rw [if_pos c2] at H
   have c2b0:decide (x3_1 < (l0.length:Int))=true:=decide_eq_true c2
   clear c2
   by_cases c3:0≤x3_1
   rw [if_pos c3] at H
   have c3b0:decide (0≤x3_1)=true:=decide_eq_true c3
   clear c3
   replace H:=zo H
   obtain ⟨t40002,A40,H⟩:=H
   replace H:(if t40002=true then (spec_l9Coeffs.l0 k1 l0 (wrap64 (x3_1+1))) else (some false))=some r:=H
   have A4:=zk A40
   clear A40
   by_cases c5:t40002=true
   subst c5
   have H1:(spec_l9Coeffs.l0 k1 l0 (wrap64 (x3_1+1)))=some r:=by rw [if_pos rfl] at H;exact H
   clear H
   have H:=H1
   clear H1
   have H':=zk H
   clear H
   have fin0_:=zk trivial
   rotate_left
   replace c5:=Bool.eq_false_iff.mpr c5
   subst c5
   have H1:(some false)=some r:=by rw [if_neg (show ¬ (false=true) by decide)] at H;exact H
   clear H
   have H:=H1
   clear H1
   obtain rfl:=zi H
   have fin1_:=zk trivial
   rotate_left
   · rw [if_neg c3] at H
     exact absurd H (by simp)
   · rw [if_neg c2] at H
     have c2b0:decide (x3_1 < (l0.length:Int))=false:=decide_eq_false c2
     clear c2
     obtain rfl:=zi H
     go_wp2
     go_ret
     exact ⟨za7,za9⟩
   all_goals
    have p40001:0≤(x3_1:Int):=of_decide_eq_true za8
    have q40001:x3_1 < (l0.length:Int):=of_decide_eq_true za8
    obtain ⟨ad40001,e40001,hx40001_0⟩:=Kd.at_int HR0.out x3_1 p40001 q40001
    cases e40001
    replace p40001:=eq_true p40001
    replace q40001:=eq_true q40001
    go_wp2_with (((with_reducible refine gate_callee (f:=41) rfl ?_);refine goesL_ (some 14) rfl rfl Tryd.func41 (by kernel_rfl) rfl #[.int .i64 (rd l0 x3_1),.int .i64 (-9),.int .i64 9] rfl za5 ?_;(with_reducible refine (spec_l1In.calls (rd l0 x3_1) (-9) 9 _ _ A4.out).mono ?_);rintro e w' ⟨rfl,⟨nd,rfl⟩⟩;refine ⟨_,rfl,?_⟩))
    first
    | (
      clear fin0_
      go_roundg k1
      case measure=>have:=HK1.out;omega
      case rel=>exact ⟨(wrap64 (x3_1+1)),za7,H',⟨za13⟩,za9⟩)
    | (
      clear fin1_
      go_ret
      exact ⟨za7,za9⟩)
mutual
def spec_IsValidConstraint.j0:Nat→Bool→Int→ByteArray→ByteArray→Int→ByteArray→List (S32)→List Int→Int→Option (Bool)
 | 0,_,_,_,_,_,_,_,_,_=>none
 | k+1,x3,x17002000,x17002001,x17002002,x17002003,x17002004,x17002005,x17002006,x17002007=>if x17002000=1 then (spec_IsValidConstraint.j1 k x3 x17002000 (x17002000 == 1) x17002000 x17002001 x17002002 x17002003 x17002004 x17002005 x17002006 x17002007) else (spec_IsValidConstraint.j1 k x3 x17002000 (x17002000 == 2) x17002000 x17002001 x17002002 x17002003 x17002004 x17002005 x17002006 x17002007)
def spec_IsValidConstraint.j1:Nat→Bool→Int→Bool→Int→ByteArray→ByteArray→Int→ByteArray→List (S32)→List Int→Int→Option (Bool)
 | 0,_,_,_,_,_,_,_,_,_,_,_=>none
 | k+1,x3,x14,x15,x17002000,x17002001,x17002002,x17002003,x17002004,x17002005,x17002006,x17002007=>if x15=true then ((spec_IsTerm.f k x17002001).bind fun t17002=>(if t17002=true then ((spec_IsTerm.f k x17002002).bind fun t17003=>(if t17003=true then ((spec_l9Zero.f x17002003 x17002004 x17002005).bind fun t17004=>(if t17004=true then (some x3) else (some false))) else (some false))) else (some false))) else (if x14=3 then (spec_IsValidConstraint.j2 k x3 x14 (x14 == 3) x17002000 x17002001 x17002002 x17002003 x17002004 x17002005 x17002006 x17002007) else (spec_IsValidConstraint.j2 k x3 x14 (x14 == 4) x17002000 x17002001 x17002002 x17002003 x17002004 x17002005 x17002006 x17002007))
def spec_IsValidConstraint.j2:Nat→Bool→Int→Bool→Int→ByteArray→ByteArray→Int→ByteArray→List (S32)→List Int→Int→Option (Bool)
 | 0,_,_,_,_,_,_,_,_,_,_,_=>none
 | k+1,x3,x14,x34,x17002000,x17002001,x17002002,x17002003,x17002004,x17002005,x17002006,x17002007=>if x34=true then ((spec_IsTerm.f k x17002001).bind fun t17005=>(if t17005=true then (if x17002002.toList=([]:List UInt8) then ((spec_IsValidRegex.f k x17002003 x17002004 x17002005).bind fun t17006=>(if t17006=true then (some x3) else (some false))) else (some false)) else (some false))) else (if x14=5 then (if x17002001.toList=([]:List UInt8) then (if x17002002.toList=([]:List UInt8) then ((spec_l9Zero.f x17002003 x17002004 x17002005).bind fun t17007=>(if t17007=true then ((spec_l9Coeffs.f k x17002006).bind fun t17008=>(if t17008=true then ((spec_l1In.f x17002007 (-99) 99).bind fun t17009=>(some t17009)) else (some false))) else (some false))) else (some false)) else (some false)) else (some false))
end
def spec_IsValidConstraint.f (k:Nat) (a0_0:Int) (a0_1:ByteArray) (a0_2:ByteArray) (a0_3:Int) (a0_4:ByteArray) (l0_5:List (S32)) (l0_6:List Int) (a0_7:Int):Option (Bool):=if (l0_6.length:Int)=0 then (spec_IsValidConstraint.j0 k (a0_7 == 0) a0_0 a0_1 a0_2 a0_3 a0_4 l0_5 l0_6 a0_7) else (spec_IsValidConstraint.j0 k false a0_0 a0_1 a0_2 a0_3 a0_4 l0_5 l0_6 a0_7)
theorem spec_IsValidConstraint.mono_l:∀ k,(∀ y0 y1 y2 y3 y4 y5 y6 y7 y8,LeO (spec_IsValidConstraint.j0 k y0 y1 y2 y3 y4 y5 y6 y7 y8) (spec_IsValidConstraint.j0 (k+1) y0 y1 y2 y3 y4 y5 y6 y7 y8))∧(∀ y0 y1 y2 y3 y4 y5 y6 y7 y8 y9 y10,LeO (spec_IsValidConstraint.j1 k y0 y1 y2 y3 y4 y5 y6 y7 y8 y9 y10) (spec_IsValidConstraint.j1 (k+1) y0 y1 y2 y3 y4 y5 y6 y7 y8 y9 y10))∧(∀ y0 y1 y2 y3 y4 y5 y6 y7 y8 y9 y10,LeO (spec_IsValidConstraint.j2 k y0 y1 y2 y3 y4 y5 y6 y7 y8 y9 y10) (spec_IsValidConstraint.j2 (k+1) y0 y1 y2 y3 y4 y5 y6 y7 y8 y9 y10))
 | 0=>⟨fun _ _ _ _ _ _ _ _ _ r h=>by simp [spec_IsValidConstraint.j0] at h,fun _ _ _ _ _ _ _ _ _ _ _ r h=>by simp [spec_IsValidConstraint.j1] at h,fun _ _ _ _ _ _ _ _ _ _ _ r h=>by simp [spec_IsValidConstraint.j2] at h⟩
 | k+1=>by
  obtain ⟨ih0,ih1,ih2⟩:=spec_IsValidConstraint.mono_l k
  refine ⟨?_,?_,?_⟩
  ·intro y0 y1 y2 y3 y4 y5 y6 y7 y8
   unfold spec_IsValidConstraint.j0
   repeat' first
   | with_reducible first|exact ih0 _ _ _ _ _ _ _ _ _|exact ih1 _ _ _ _ _ _ _ _ _ _ _|exact ih2 _ _ _ _ _ _ _ _ _ _ _|exact spec_IsTerm.mono _ _|exact spec_IsValidRegex.mono _ _ _ _|exact spec_l9Coeffs.mono _ _|exact LeO.refl _|exact LeO.none _|refine LeO.ite ?_ ?_|refine LeO.bind ?_ (fun _=>?_)
  ·intro y0 y1 y2 y3 y4 y5 y6 y7 y8 y9 y10
   unfold spec_IsValidConstraint.j1
   repeat' first
   | with_reducible first|exact ih0 _ _ _ _ _ _ _ _ _|exact ih1 _ _ _ _ _ _ _ _ _ _ _|exact ih2 _ _ _ _ _ _ _ _ _ _ _|exact spec_IsTerm.mono _ _|exact spec_IsValidRegex.mono _ _ _ _|exact spec_l9Coeffs.mono _ _|exact LeO.refl _|exact LeO.none _|refine LeO.ite ?_ ?_|refine LeO.bind ?_ (fun _=>?_)
  ·intro y0 y1 y2 y3 y4 y5 y6 y7 y8 y9 y10
   unfold spec_IsValidConstraint.j2
   repeat' first
   | with_reducible first|exact ih0 _ _ _ _ _ _ _ _ _|exact ih1 _ _ _ _ _ _ _ _ _ _ _|exact ih2 _ _ _ _ _ _ _ _ _ _ _|exact spec_IsTerm.mono _ _|exact spec_IsValidRegex.mono _ _ _ _|exact spec_l9Coeffs.mono _ _|exact LeO.refl _|exact LeO.none _|refine LeO.ite ?_ ?_|refine LeO.bind ?_ (fun _=>?_)
theorem spec_IsValidConstraint.mono:∀ a0 a1 a2 a3 a4 a5 a6 a7 k,LeO (spec_IsValidConstraint.f k a0 a1 a2 a3 a4 a5 a6 a7) (spec_IsValidConstraint.f (k+1) a0 a1 a2 a3 a4 a5 a6 a7):=by
 intro a0 a1 a2 a3 a4 a5 a6 a7 k
 obtain ⟨ih0,ih1,ih2⟩:=spec_IsValidConstraint.mono_l k
 unfold spec_IsValidConstraint.f
 repeat' first
  | with_reducible first|exact ih0 _ _ _ _ _ _ _ _ _|exact ih1 _ _ _ _ _ _ _ _ _ _ _|exact ih2 _ _ _ _ _ _ _ _ _ _ _|exact spec_IsTerm.mono _ _|exact spec_IsValidRegex.mono _ _ _ _|exact spec_l9Coeffs.mono _ _|exact LeO.refl _|exact LeO.none _|refine LeO.ite ?_ ?_|refine LeO.bind ?_ (fun _=>?_)
theorem spec_IsValidConstraint.calls (k:Nat) (a0_0:Int) (a0_1:ByteArray) (a0_2:ByteArray) (a0_3:Int) (a0_4:ByteArray) (A0_5:Option Addr) (c0_5:Nat) (l0_5:List (S32)) (A0_6:Option Addr) (c0_6:Nat) (l0_6:List Int) (a0_7:Int) (r:Bool) (w:World) (hr0_5:Kd.C k32 w A0_5 l0_5.length l0_5) (hc0_5:l0_5.length≤c0_5) (hr0_6:Kd.C (Kd.int .i64) w A0_6 l0_6.length l0_6) (hc0_6:l0_6.length≤c0_6) (h:spec_IsValidConstraint.f k a0_0 a0_1 a0_2 a0_3 a0_4 l0_5 l0_6 a0_7=some r) :
   Calls Tryd.prog 17 #[.agg #[.int .i64 a0_0,.string a0_1,.string a0_2,.int .i64 a0_3,.string a0_4,.slice A0_5 l0_5.length c0_5,.slice A0_6 l0_6.length c0_6,.int .i64 a0_7]] w fun e w'=>e = .returned (.bool r)∧Below w.heap.size w w':=by
 have hu34:=Tryd.underlying34
 have hu32:=Tryd.underlying32
 have HR0_5:=zk hr0_5
 have HC0_5:=zk hc0_5
 clear hr0_5 hc0_5
 have HR0_6:=zk hr0_6
 have HC0_6:=zk hc0_6
 clear hr0_6 hc0_6
 have HB:=zk (Below.refl w.heap.size w)
 have H:(if (l0_6.length:Int)=0 then (spec_IsValidConstraint.j0 k (a0_7 == 0) a0_0 a0_1 a0_2 a0_3 a0_4 l0_5 l0_6 a0_7) else (spec_IsValidConstraint.j0 k false a0_0 a0_1 a0_2 a0_3 a0_4 l0_5 l0_6 a0_7))=some r:=h
 clear h
 have HC2:=zk H
 clear H
 go_enter Tryd.func17,Tryd.ntmps17
 go_upto_region 1 with (first|((with_reducible refine gate_dst (N:=1) rfl ?_);refine zE (N:=1) (cs:=#[.int .i64 a0_0,.string a0_1,.string a0_2,.int .i64 a0_3,.string a0_4,.slice A0_5 l0_5.length c0_5,.slice A0_6 l0_6.length c0_6,.int .i64 a0_7]) (t:=34) ?_;intro gb17001 hg w3 hbox hb;have n0_:=zk (below_step za2 hb);have n1_:=zk (hbox);have n2_:=zk (zs (w:=w) hg za2);have n3_:=zk (zs (w:=w) hg za2);clear HB;have HB:=n0_;have BK17001:=n1_;have GW17001:=n2_;have GE17001:=n3_;clear n0_ n1_ n2_ n3_;clear hb hbox hg))
 (try simp only [Act.put,zt,zu,zv])
 go_cut [3] (fun v3 wc=>∃ (kq:Nat) (x3_1:Bool),v3 = .bool x3_1∧Aside0 (spec_IsValidConstraint.j0 kq x3_1 a0_0 a0_1 a0_2 a0_3 a0_4 l0_5 l0_6 a0_7=some r)∧Aside0 (kq≤k)∧Aside0 (wc.heap[gb17001]? = some (.cells #[.int .i64 a0_0,.string a0_1,.string a0_2,.int .i64 a0_3,.string a0_4,(.slice A0_5 l0_5.length c0_5),(.slice A0_6 l0_6.length c0_6),.int .i64 a0_7] 34 (0,0)))∧Aside0 (Below w.heap.size w wc))
 case first =>
  have H:=HC2.out
  clear HC2
  by_cases c4:(l0_6.length:Int)=0
  · rw [if_pos c4] at H
    have c4b0:((l0_6.length:Int) == 0)=true:=beq_iff_eq.mpr c4
    have c4b1:((l0_6.length:Int) != 0)=false:=bne_eq_false_iff_eq.mpr c4
    clear c4
    (first|rw [c4b0]|(simp only [i64_w,i32_w];rw [c4b0])|skip)
    have H':=zk H
    clear H
    obtain ⟨hcz5_0,hcz5_1,hcz5_2,hcz5_3,hcz5_4,hcz5_5,hcz5_6,hcz5_7,hfz5_0,hfz5_1,hfz5_2,hfz5_3,hfz5_4,hfz5_5,hfz5_6,hfz5_7⟩:=blk8 BK17001.out
    go_wp2
    go_meet
    case rel=>exact ⟨_,((a0_7 == 0)),za7,H',⟨za17⟩,⟨za0 BK17001.out⟩,⟨za2⟩⟩
  · rw [if_neg c4] at H
    have c4b0:((l0_6.length:Int) == 0)=false:=beq_eq_false_iff_ne.mpr c4
    have c4b1:((l0_6.length:Int) != 0)=true:=bne_iff_ne.mpr c4
    have c4b2:¬ (l0_6 = []):=fun h_=>c4 (by rw [h_];rfl)
    (first|rw [c4b0]|(simp only [i64_w,i32_w];rw [c4b0])|skip)
    have H':=zk H
    clear H
    obtain ⟨hcz6_0,hcz6_1,hcz6_2,hcz6_3,hcz6_4,hcz6_5,hcz6_6,hcz6_7,hfz6_0,hfz6_1,hfz6_2,hfz6_3,hfz6_4,hfz6_5,hfz6_6,hfz6_7⟩:=blk8 BK17001.out
    go_wp2
    go_meet
    case rel=>exact ⟨_,(false),za7,H',⟨za17⟩,⟨za0 BK17001.out⟩,⟨za2⟩⟩
 case rest =>
  clear HC2
  obtain ⟨kq,x3_1,rfl,HA,HJ1,BK17001,HB⟩:=hcut
  cases kq with
  | zero=>exact absurd HA.out (by simp [spec_IsValidConstraint.j0])
  | succ kj1 =>
   have H:=HA.out
   clear HA
   simp only [spec_IsValidConstraint.j0] at H
   have HC7:=zk H
   clear H
   obtain ⟨hcz8_0,hcz8_1,hcz8_2,hcz8_3,hcz8_4,hcz8_5,hcz8_6,hcz8_7,hfz8_0,hfz8_1,hfz8_2,hfz8_3,hfz8_4,hfz8_5,hfz8_6,hfz8_7⟩:=blk8 BK17001.out
   go_upto_if 15 with (fail)
   go_cut [15] (fun v15 wc=>∃ (kq:Nat) (x15_6:Bool),v15 = .bool x15_6∧Aside0 (spec_IsValidConstraint.j1 kq x3_1 a0_0 x15_6 a0_0 a0_1 a0_2 a0_3 a0_4 l0_5 l0_6 a0_7=some r)∧Aside0 (kq≤kj1)∧Aside0 (wc.heap[gb17001]? = some (.cells #[.int .i64 a0_0,.string a0_1,.string a0_2,.int .i64 a0_3,.string a0_4,(.slice A0_5 l0_5.length c0_5),(.slice A0_6 l0_6.length c0_6),.int .i64 a0_7] 34 (0,0)))∧Aside0 (Below w.heap.size w wc))
   case first =>
    have H:=HC7.out
    clear HC7
    by_cases c9:a0_0=1
    · rw [if_pos c9] at H
      have c9b0:(a0_0 == 1)=true:=beq_iff_eq.mpr c9
      have c9b1:(a0_0 != 1)=false:=bne_eq_false_iff_eq.mpr c9
      clear c9
      (first|rw [c9b0]|(simp only [i64_w,i32_w];rw [c9b0])|skip)
      have H':=zk H
      clear H
      go_wp2
      go_meet
      case rel=>exact ⟨_,((a0_0 == 1)),za7,H',⟨za20⟩,⟨za0 BK17001.out⟩,⟨za2⟩⟩
    · rw [if_neg c9] at H
      have c9b0:(a0_0 == 1)=false:=beq_eq_false_iff_ne.mpr c9
      have c9b1:(a0_0 != 1)=true:=bne_iff_ne.mpr c9
      (first|rw [c9b0]|(simp only [i64_w,i32_w];rw [c9b0])|skip)
      have H':=zk H
      clear H
      go_wp2
      go_meet
      case rel=>exact ⟨_,((a0_0 == 2)),za7,H',⟨za20⟩,⟨za0 BK17001.out⟩,⟨za2⟩⟩
   case rest =>
    clear HC7
    try clear hcz8_0
    try clear hcz8_1
    try clear hcz8_2
    try clear hcz8_3
    try clear hcz8_4
    try clear hcz8_5
    try clear hcz8_6
    try clear hcz8_7
    try clear hfz8_0
    try clear hfz8_1
    try clear hfz8_2
    try clear hfz8_3
    try clear hfz8_4
    try clear hfz8_5
    try clear hfz8_6
    try clear hfz8_7
    obtain ⟨kq,x15_6,rfl,HA,HJ6,BK17001,HB⟩:=hcut
    cases kq with
    | zero=>exact absurd HA.out (by simp [spec_IsValidConstraint.j1])
    | succ kj6 =>
     have H:=HA.out
     clear HA
     simp only [spec_IsValidConstraint.j1] at H
     by_cases c10:x15_6=true
     subst c10
     have H1:((spec_IsTerm.f kj6 a0_1).bind fun t17002=>(if t17002=true then ((spec_IsTerm.f kj6 a0_2).bind fun t17003=>(if t17003=true then ((spec_l9Zero.f a0_3 a0_4 l0_5).bind fun t17004=>(if t17004=true then (some x3_1) else (some false))) else (some false))) else (some false)))=some r:=by rw [if_pos rfl] at H;exact H
     clear H
     have H:=H1
     clear H1
     replace H:=zo H
     obtain ⟨t17002,A110,H⟩:=H
     replace H:(if t17002=true then ((spec_IsTerm.f kj6 a0_2).bind fun t17003=>(if t17003=true then ((spec_l9Zero.f a0_3 a0_4 l0_5).bind fun t17004=>(if t17004=true then (some x3_1) else (some false))) else (some false))) else (some false))=some r:=H
     have A11:=zk A110
     clear A110
     by_cases c12:t17002=true
     subst c12
     have H1:((spec_IsTerm.f kj6 a0_2).bind fun t17003=>(if t17003=true then ((spec_l9Zero.f a0_3 a0_4 l0_5).bind fun t17004=>(if t17004=true then (some x3_1) else (some false))) else (some false)))=some r:=by rw [if_pos rfl] at H;exact H
     clear H
     have H:=H1
     clear H1
     replace H:=zo H
     obtain ⟨t17003,A130,H⟩:=H
     replace H:(if t17003=true then ((spec_l9Zero.f a0_3 a0_4 l0_5).bind fun t17004=>(if t17004=true then (some x3_1) else (some false))) else (some false))=some r:=H
     have A13:=zk A130
     clear A130
     by_cases c14:t17003=true
     subst c14
     have H1:((spec_l9Zero.f a0_3 a0_4 l0_5).bind fun t17004=>(if t17004=true then (some x3_1) else (some false)))=some r:=by rw [if_pos rfl] at H;exact H
     clear H
     have H:=H1
     clear H1
     replace H:=zo H
     obtain ⟨t17004,A150,H⟩:=H
     replace H:(if t17004=true then (some x3_1) else (some false))=some r:=H
     have A15:=zk A150
     clear A150
     by_cases c16:t17004=true
     subst c16
     have H1:(some x3_1)=some r:=by rw [if_pos rfl] at H;exact H
     rotate_left
     replace c16:=Bool.eq_false_iff.mpr c16
     subst c16
     have H1:(some false)=some r:=by rw [if_neg (show ¬ (false=true) by decide)] at H;exact H
     rotate_left
     replace c14:=Bool.eq_false_iff.mpr c14
     subst c14
     have H1:(some false)=some r:=by rw [if_neg (show ¬ (false=true) by decide)] at H;exact H
     rotate_left
     replace c12:=Bool.eq_false_iff.mpr c12
     subst c12
     have H1:(some false)=some r:=by rw [if_neg (show ¬ (false=true) by decide)] at H;exact H
     rotate_left
     · replace c10:=Bool.eq_false_iff.mpr c10
       subst c10
       have H1:(if a0_0=3 then (spec_IsValidConstraint.j2 kj6 x3_1 a0_0 (a0_0 == 3) a0_0 a0_1 a0_2 a0_3 a0_4 l0_5 l0_6 a0_7) else (spec_IsValidConstraint.j2 kj6 x3_1 a0_0 (a0_0 == 4) a0_0 a0_1 a0_2 a0_3 a0_4 l0_5 l0_6 a0_7))=some r:=by rw [if_neg (show ¬ (false=true) by decide)] at H;exact H
       clear H
       have H:=H1
       clear H1
       have HC23:=zk H
       clear H
       go_upto_if 34 with (fail)
       go_cut [34] (fun v34 wc=>∃ (kq:Nat) (x34_22:Bool),v34 = .bool x34_22∧Aside0 (spec_IsValidConstraint.j2 kq x3_1 a0_0 x34_22 a0_0 a0_1 a0_2 a0_3 a0_4 l0_5 l0_6 a0_7=some r)∧Aside0 (kq≤kj6)∧Aside0 (wc.heap[gb17001]? = some (.cells #[.int .i64 a0_0,.string a0_1,.string a0_2,.int .i64 a0_3,.string a0_4,(.slice A0_5 l0_5.length c0_5),(.slice A0_6 l0_6.length c0_6),.int .i64 a0_7] 34 (0,0)))∧Aside0 (Below w.heap.size w wc))
       case first =>
        have H:=HC23.out
        clear HC23
        by_cases c24:a0_0=3
        · rw [if_pos c24] at H
          have c24b0:(a0_0 == 3)=true:=beq_iff_eq.mpr c24
          have c24b1:(a0_0 != 3)=false:=bne_eq_false_iff_eq.mpr c24
          clear c24
          (first|rw [c24b0]|(simp only [i64_w,i32_w];rw [c24b0])|skip)
          have H':=zk H
          clear H
          go_wp2
          go_meet
          case rel=>exact ⟨_,((a0_0 == 3)),za7,H',⟨by have:=HJ1.out;have:=HJ6.out;first|omega|exact Nat.le_refl _⟩,⟨za0 BK17001.out⟩,⟨za2⟩⟩
        · rw [if_neg c24] at H
          have c24b0:(a0_0 == 3)=false:=beq_eq_false_iff_ne.mpr c24
          have c24b1:(a0_0 != 3)=true:=bne_iff_ne.mpr c24
          (first|rw [c24b0]|(simp only [i64_w,i32_w];rw [c24b0])|skip)
          have H':=zk H
          clear H
          go_wp2
          go_meet
          case rel=>exact ⟨_,((a0_0 == 4)),za7,H',⟨by have:=HJ1.out;have:=HJ6.out;first|omega|exact Nat.le_refl _⟩,⟨za0 BK17001.out⟩,⟨za2⟩⟩
       case rest =>
        clear HC23
        try clear c10
        try clear hcz8_0
        try clear hcz8_1
        try clear hcz8_2
        try clear hcz8_3
        try clear hcz8_4
        try clear hcz8_5
        try clear hcz8_6
        try clear hcz8_7
        try clear hfz8_0
        try clear hfz8_1
        try clear hfz8_2
        try clear hfz8_3
        try clear hfz8_4
        try clear hfz8_5
        try clear hfz8_6
        try clear hfz8_7
        obtain ⟨kq,x34_22,rfl,HA,HJ22,BK17001,HB⟩:=hcut
        cases kq with
        | zero=>exact absurd HA.out (by simp [spec_IsValidConstraint.j2])
        | succ kj22 =>
         have H:=HA.out
         clear HA
         simp only [spec_IsValidConstraint.j2] at H
         by_cases c25:x34_22=true
         subst c25
         have H1:((spec_IsTerm.f kj22 a0_1).bind fun t17005=>(if t17005=true then (if a0_2.toList=([]:List UInt8) then ((spec_IsValidRegex.f kj22 a0_3 a0_4 l0_5).bind fun t17006=>(if t17006=true then (some x3_1) else (some false))) else (some false)) else (some false)))=some r:=by rw [if_pos rfl] at H;exact H
         clear H
         have H:=H1
         clear H1
         replace H:=zo H
         obtain ⟨t17005,A260,H⟩:=H
         replace H:(if t17005=true then (if a0_2.toList=([]:List UInt8) then ((spec_IsValidRegex.f kj22 a0_3 a0_4 l0_5).bind fun t17006=>(if t17006=true then (some x3_1) else (some false))) else (some false)) else (some false))=some r:=H
         have A26:=zk A260
         clear A260
         by_cases c27:t17005=true
         subst c27
         have H1:(if a0_2.toList=([]:List UInt8) then ((spec_IsValidRegex.f kj22 a0_3 a0_4 l0_5).bind fun t17006=>(if t17006=true then (some x3_1) else (some false))) else (some false))=some r:=by rw [if_pos rfl] at H;exact H
         clear H
         have H:=H1
         clear H1
         by_cases c28:a0_2.toList=([]:List UInt8)
         rw [if_pos c28] at H
         have c28b0:(a0_2.toList == ([]:List UInt8))=true:=beq_iff_eq.mpr c28
         have c28b1:(a0_2.toList != ([]:List UInt8))=false:=bne_eq_false_iff_eq.mpr c28
         clear c28
         replace H:=zo H
         obtain ⟨t17006,A290,H⟩:=H
         replace H:(if t17006=true then (some x3_1) else (some false))=some r:=H
         have A29:=zk A290
         clear A290
         by_cases c30:t17006=true
         subst c30
         have H1:(some x3_1)=some r:=by rw [if_pos rfl] at H;exact H
         clear H
         have H:=H1
         clear H1
         rotate_left
         replace c30:=Bool.eq_false_iff.mpr c30
         subst c30
         have H1:(some false)=some r:=by rw [if_neg (show ¬ (false=true) by decide)] at H;exact H
         clear H
         have H:=H1
         clear H1
         rotate_left
         rw [if_neg c28] at H
         have c28b0:(a0_2.toList == ([]:List UInt8))=false:=beq_eq_false_iff_ne.mpr c28
         have c28b1:(a0_2.toList != ([]:List UInt8))=true:=bne_iff_ne.mpr c28
         rotate_left
         replace c27:=Bool.eq_false_iff.mpr c27
         subst c27
         have H1:(some false)=some r:=by rw [if_neg (show ¬ (false=true) by decide)] at H;exact H
         clear H
         have H:=H1
         clear H1
         rotate_left
         replace c25:=Bool.eq_false_iff.mpr c25
         subst c25
         have H1:(if a0_0=5 then (if a0_1.toList=([]:List UInt8) then (if a0_2.toList=([]:List UInt8) then ((spec_l9Zero.f a0_3 a0_4 l0_5).bind fun t17007=>(if t17007=true then ((spec_l9Coeffs.f kj22 l0_6).bind fun t17008=>(if t17008=true then ((spec_l1In.f a0_7 (-99) 99).bind fun t17009=>(some t17009)) else (some false))) else (some false))) else (some false)) else (some false)) else (some false))=some r:=by rw [if_neg (show ¬ (false=true) by decide)] at H;exact H
         clear H
         have H:=H1
         clear H1
         by_cases c37:a0_0=5
         rw [if_pos c37] at H
         have c37b0:(a0_0 == 5)=true:=beq_iff_eq.mpr c37
         have c37b1:(a0_0 != 5)=false:=bne_eq_false_iff_eq.mpr c37
         clear c37
         by_cases c38:a0_1.toList=([]:List UInt8)
         rw [if_pos c38] at H
         have c38b0:(a0_1.toList == ([]:List UInt8))=true:=beq_iff_eq.mpr c38
         have c38b1:(a0_1.toList != ([]:List UInt8))=false:=bne_eq_false_iff_eq.mpr c38
         clear c38
         by_cases c39:a0_2.toList=([]:List UInt8)
         rw [if_pos c39] at H
         have c39b0:(a0_2.toList == ([]:List UInt8))=true:=beq_iff_eq.mpr c39
         have c39b1:(a0_2.toList != ([]:List UInt8))=false:=bne_eq_false_iff_eq.mpr c39
         clear c39
         replace H:=zo H
         obtain ⟨t17007,A400,H⟩:=H
         replace H:(if t17007=true then ((spec_l9Coeffs.f kj22 l0_6).bind fun t17008=>(if t17008=true then ((spec_l1In.f a0_7 (-99) 99).bind fun t17009=>(some t17009)) else (some false))) else (some false))=some r:=H
         have A40:=zk A400
         clear A400
         by_cases c41:t17007=true
         subst c41
         have H1:((spec_l9Coeffs.f kj22 l0_6).bind fun t17008=>(if t17008=true then ((spec_l1In.f a0_7 (-99) 99).bind fun t17009=>(some t17009)) else (some false)))=some r:=by rw [if_pos rfl] at H;exact H
         clear H
         have H:=H1
         clear H1
         replace H:=zo H
         obtain ⟨t17008,A420,H⟩:=H
         replace H:(if t17008=true then ((spec_l1In.f a0_7 (-99) 99).bind fun t17009=>(some t17009)) else (some false))=some r:=H
         have A42:=zk A420
         clear A420
         by_cases c43:t17008=true
         subst c43
         have H1:((spec_l1In.f a0_7 (-99) 99).bind fun t17009=>(some t17009))=some r:=by rw [if_pos rfl] at H;exact H
         clear H
         have H:=H1
         clear H1
         replace H:=zo H
         obtain ⟨t17009,A440,H⟩:=H
         replace H:(some t17009)=some r:=H
         have A44:=zk A440
         clear A440
         rotate_left
         replace c43:=Bool.eq_false_iff.mpr c43
         subst c43
         have H1:(some false)=some r:=by rw [if_neg (show ¬ (false=true) by decide)] at H;exact H
         clear H
         have H:=H1
         clear H1
         rotate_left
         replace c41:=Bool.eq_false_iff.mpr c41
         subst c41
         have H1:(some false)=some r:=by rw [if_neg (show ¬ (false=true) by decide)] at H;exact H
         clear H
         have H:=H1
         clear H1
         rotate_left
         rw [if_neg c39] at H
         have c39b0:(a0_2.toList == ([]:List UInt8))=false:=beq_eq_false_iff_ne.mpr c39
         have c39b1:(a0_2.toList != ([]:List UInt8))=true:=bne_iff_ne.mpr c39
         rotate_left
         rw [if_neg c38] at H
         have c38b0:(a0_1.toList == ([]:List UInt8))=false:=beq_eq_false_iff_ne.mpr c38
         have c38b1:(a0_1.toList != ([]:List UInt8))=true:=bne_iff_ne.mpr c38
         rotate_left
         · rw [if_neg c37] at H
           have c37b0:(a0_0 == 5)=false:=beq_eq_false_iff_ne.mpr c37
           have c37b1:(a0_0 != 5)=true:=bne_iff_ne.mpr c37
           obtain rfl:=zi H
           go_wp2
           go_ret
           exact ⟨za6,za2⟩
         all_goals
          obtain rfl:=zi H
          obtain ⟨hcz45_0,hcz45_1,hcz45_2,hcz45_3,hcz45_4,hcz45_5,hcz45_6,hcz45_7,hfz45_0,hfz45_1,hfz45_2,hfz45_3,hfz45_4,hfz45_5,hfz45_6,hfz45_7⟩:=blk8 BK17001.out
          go_wp2_with (first|(go_at_call 38;(with_reducible refine (spec_l9Zero.calls a0_3 a0_4 _ _ l0_5 _ _ ?side1 ?side2 A40.out).mono ?_);(case side1=>repeat (first|exact (Kd.C_below HR0_5.out HB.out)|(with_reducible refine Kd.C_alloc ?_ _)|(with_reducible refine Kd.C_drewN ?_ _)|(with_reducible refine Kd.C_drew ?_)));(case side2=>exact HC0_5.out);rintro e w46 ⟨rfl,hb⟩;have n0_:=zk (zb BK17001.out hb);have n1_:=zk (below_step za2 hb);clear BK17001;clear HB;have BK17001:=n0_;have HB:=n1_;clear n0_ n1_;(try clear hb);(try clear hb2);(try clear hk);(try clear hi);obtain ⟨hcz47_0,hcz47_1,hcz47_2,hcz47_3,hcz47_4,hcz47_5,hcz47_6,hcz47_7,hfz47_0,hfz47_1,hfz47_2,hfz47_3,hfz47_4,hfz47_5,hfz47_6,hfz47_7⟩:=blk8 BK17001.out)|(go_at_call 40;(with_reducible refine (spec_l9Coeffs.calls kj22 _ _ l0_6 _ _ ?side1 ?side2 A42.out).mono ?_);(case side1=>repeat (first|exact (Kd.C_below HR0_6.out HB.out)|(with_reducible refine Kd.C_alloc ?_ _)|(with_reducible refine Kd.C_drewN ?_ _)|(with_reducible refine Kd.C_drew ?_)));(case side2=>exact HC0_6.out);rintro e w' ⟨rfl,⟨nd,rfl⟩⟩)|(go_at_call 41;(with_reducible refine (spec_l1In.calls a0_7 (-99) 99 t17009 _ A44.out).mono ?_);rintro e w' ⟨rfl,⟨nd,rfl⟩⟩)|((with_reducible refine gate_callee (f:=37) rfl ?_);refine goesL_ (some 39) rfl rfl Tryd.func37 (by kernel_rfl) rfl #[.string a0_1] rfl za5 ?_;(with_reducible refine (spec_IsTerm.calls kj22 a0_1 _ _ A26.out).mono ?_);rintro e w' ⟨rfl,⟨nd,rfl⟩⟩;refine ⟨_,rfl,?_⟩)|(go_at_call 39;(with_reducible refine (spec_IsValidRegex.calls kj22 a0_3 a0_4 _ _ l0_5 _ _ ?side1 ?side2 A29.out).mono ?_);(case side1=>repeat (first|exact (Kd.C_below HR0_5.out za2)|(with_reducible refine Kd.C_alloc ?_ _)|(with_reducible refine Kd.C_drewN ?_ _)|(with_reducible refine Kd.C_drew ?_)));(case side2=>exact HC0_5.out);rintro e w32 ⟨rfl,hb⟩;have n0_:=zk (zb BK17001.out hb);have n1_:=zk (below_step za2 hb);clear BK17001;clear HB;have BK17001:=n0_;have HB:=n1_;clear n0_ n1_;(try clear hb);(try clear hb2);(try clear hk);(try clear hi)))
          go_ret
          exact ⟨za6,za2⟩
     all_goals
      clear H
      have H:=H1
      clear H1
      obtain rfl:=zi H
      obtain ⟨hcz17_0,hcz17_1,hcz17_2,hcz17_3,hcz17_4,hcz17_5,hcz17_6,hcz17_7,hfz17_0,hfz17_1,hfz17_2,hfz17_3,hfz17_4,hfz17_5,hfz17_6,hfz17_7⟩:=blk8 BK17001.out
      go_wp2_with (first|((with_reducible refine gate_callee (f:=37) rfl ?_);refine goesL_ (some 20) rfl rfl Tryd.func37 (by kernel_rfl) rfl #[.string a0_1] rfl za5 ?_;(with_reducible refine (spec_IsTerm.calls kj6 a0_1 _ _ A11.out).mono ?_);rintro e w' ⟨rfl,⟨nd,rfl⟩⟩;refine ⟨_,rfl,?_⟩)|(go_at_call 37;(with_reducible refine (spec_IsTerm.calls kj6 a0_2 _ _ A13.out).mono ?_);rintro e w' ⟨rfl,⟨nd,rfl⟩⟩)|(go_at_call 38;(with_reducible refine (spec_l9Zero.calls a0_3 a0_4 _ _ l0_5 _ _ ?side1 ?side2 A15.out).mono ?_);(case side1=>repeat (first|exact (Kd.C_below HR0_5.out za2)|(with_reducible refine Kd.C_alloc ?_ _)|(with_reducible refine Kd.C_drewN ?_ _)|(with_reducible refine Kd.C_drew ?_)));(case side2=>exact HC0_5.out);rintro e w18 ⟨rfl,hb⟩;have n0_:=zk (zb BK17001.out hb);have n1_:=zk (below_step za2 hb);clear BK17001;clear HB;have BK17001:=n0_;have HB:=n1_;clear n0_ n1_;(try clear hb);(try clear hb2);(try clear hk);(try clear hi)))
      go_ret
      exact ⟨za6,za2⟩
def spec_l9Term.f (a0:ByteArray):Option (ByteArray):=if a0.toList=([]:List UInt8) then (some (⟨#[45]⟩:ByteArray)) else (some a0)
theorem spec_l9Term.calls (a0:ByteArray) (r:ByteArray) (w:World) (h:spec_l9Term.f a0=some r) :
   Calls Tryd.prog 18 #[.string a0] w fun e w'=>e = .returned (.string r)∧Drawn0 w w':=by
 have H:(if a0.toList=([]:List UInt8) then (some (⟨#[45]⟩:ByteArray)) else (some a0))=some r:=h
 clear h
 by_cases c2:a0.toList=([]:List UInt8)
 rw [if_pos c2] at H
 have c2b0:(a0.toList == ([]:List UInt8))=true:=beq_iff_eq.mpr c2
 have c2b1:(a0.toList != ([]:List UInt8))=false:=bne_eq_false_iff_eq.mpr c2
 clear c2
 rotate_left
 rw [if_neg c2] at H
 have c2b0:(a0.toList == ([]:List UInt8))=false:=beq_eq_false_iff_ne.mpr c2
 have c2b1:(a0.toList != ([]:List UInt8))=true:=bne_iff_ne.mpr c2
 rotate_left
 all_goals
  obtain rfl:=zi H
  go_enter Tryd.func18,Tryd.ntmps18
  go_wp2
  go_ret
  exact ⟨za7,za9⟩
end Go.Proofs.YtdchpohiiigobaaDoor.A
