/- FnExactModelsUpTo: what its proof needs, put together by this session's program wip/merge.py out of the texts that wip/xp.py printed and of this session's own. -/
import Derived.Test.YtffjfdoghofkdaaGreatQFnExactModelsUpTo3
set_option linter.unusedVariables false
set_option linter.unusedSimpArgs false
set_option linter.unusedSectionVars false
set_option maxHeartbeats 8000000
set_option maxRecDepth 100000
namespace Go.Proofs.YtffjfdoghofkdaaGreat.A
open Go.RowKit YtffjfdoghofkdaaGreat.Ext YtffjfdoghofkdaaGreatW.PrintWords YtffjfdoghofkdaaGreatW.PrintLast YtffjfdoghofkdaaGreatW.PrintMore
attribute [local go_sem] max2_int min2_int max_two min_two max_three min_three max_four min_four
def laws_szConstraint.f (k:Nat) (a0_0:Int) (a0_1:ByteArray) (a0_2:ByteArray) (a0_3:Int) (a0_4:ByteArray) (l0_5:List (S101)) (l0_6:List Int) (a0_7:Int) (a1:Int):Option (Int):=if (wrap64 (a1 - (a0_1.size:Int))) < 0 then (some (-1)) else (if (wrap64 ((wrap64 (a1 - (a0_1.size:Int))) - (a0_2.size:Int))) < 0 then (some (-1)) else ((laws_szRegex.f k a0_3 a0_4 l0_5 (wrap64 ((wrap64 (a1 - (a0_1.size:Int))) - (a0_2.size:Int)))).bind fun t85002=>(if t85002 < 0 then (some (-1)) else ((laws_szIntS.f l0_6 t85002).bind fun t85003=>(if t85003 < 0 then (some (-1)) else (some t85003))))))
theorem laws_szConstraint.mono:∀ a0 a1 a2 a3 a4 a5 a6 a7 a8 k,LeO (laws_szConstraint.f k a0 a1 a2 a3 a4 a5 a6 a7 a8) (laws_szConstraint.f (k+1) a0 a1 a2 a3 a4 a5 a6 a7 a8):=by
 intro a0 a1 a2 a3 a4 a5 a6 a7 a8 k
 unfold laws_szConstraint.f
 repeat' first
  | with_reducible first|exact laws_szRegex.mono _ _ _ _ _|exact LeO.refl _|exact LeO.none _|refine LeO.ite ?_ ?_|refine LeO.bind ?_ (fun _=>?_)
theorem laws_szConstraint.calls (k:Nat) (a0_0:Int) (a0_1:ByteArray) (a0_2:ByteArray) (a0_3:Int) (a0_4:ByteArray) (A0_5:Option Addr) (c0_5:Nat) (l0_5:List (S101)) (A0_6:Option Addr) (c0_6:Nat) (l0_6:List Int) (a0_7:Int) (a1:Int) (r:Int) (w:World) (hr0_5:Kd.C k101 w A0_5 l0_5.length l0_5) (hc0_5:l0_5.length≤c0_5) (hr0_6:Kd.C (Kd.int .i64) w A0_6 l0_6.length l0_6) (hc0_6:l0_6.length≤c0_6) (h:laws_szConstraint.f k a0_0 a0_1 a0_2 a0_3 a0_4 l0_5 l0_6 a0_7 a1=some r) :
   Calls Tryz.prog 85 #[.agg #[.int .i64 a0_0,.string a0_1,.string a0_2,.int .i64 a0_3,.string a0_4,.slice A0_5 l0_5.length c0_5,.slice A0_6 l0_6.length c0_6,.int .i64 a0_7],.int .i64 a1] w fun e w'=>e = .returned (.int .i64 r)∧Below w.heap.size w w':=by
 have hu103:=Tryz.underlying103
 have hu101:=Tryz.underlying101
 have HR0_5:=zk hr0_5
 have HC0_5:=zk hc0_5
 clear hr0_5 hc0_5
 have HR0_6:=zk hr0_6
 have HC0_6:=zk hc0_6
 clear hr0_6 hc0_6
 have HB:=zk (Below.refl w.heap.size w)
 have H:(if (wrap64 (a1 - (a0_1.size:Int))) < 0 then (some (-1)) else (if (wrap64 ((wrap64 (a1 - (a0_1.size:Int))) - (a0_2.size:Int))) < 0 then (some (-1)) else ((laws_szRegex.f k a0_3 a0_4 l0_5 (wrap64 ((wrap64 (a1 - (a0_1.size:Int))) - (a0_2.size:Int)))).bind fun t85002=>(if t85002 < 0 then (some (-1)) else ((laws_szIntS.f l0_6 t85002).bind fun t85003=>(if t85003 < 0 then (some (-1)) else (some t85003)))))))=some r:=h
 clear h
 by_cases c3:(wrap64 (a1 - (a0_1.size:Int))) < 0
 rw [if_pos c3] at H
 have c3b0:decide ((wrap64 (a1 - (a0_1.size:Int))) < 0)=true:=decide_eq_true c3
 have c3w:decide ((IntKind.i64.wrap (a1 - (a0_1.size:Int))) < 0)=true:=by simp only [i64_w];exact c3b0
 clear c3
 rotate_left
 rw [if_neg c3] at H
 have c3b0:decide ((wrap64 (a1 - (a0_1.size:Int))) < 0)=false:=decide_eq_false c3
 have c3w:decide ((IntKind.i64.wrap (a1 - (a0_1.size:Int))) < 0)=false:=by simp only [i64_w];exact c3b0
 clear c3
 by_cases c6:(wrap64 ((wrap64 (a1 - (a0_1.size:Int))) - (a0_2.size:Int))) < 0
 rw [if_pos c6] at H
 have c6b0:decide ((wrap64 ((wrap64 (a1 - (a0_1.size:Int))) - (a0_2.size:Int))) < 0)=true:=decide_eq_true c6
 have c6w:decide ((IntKind.i64.wrap ((IntKind.i64.wrap (a1 - (a0_1.size:Int))) - (a0_2.size:Int))) < 0)=true:=by simp only [i64_w];exact c6b0
 clear c6
 rotate_left
 rw [if_neg c6] at H
 have c6b0:decide ((wrap64 ((wrap64 (a1 - (a0_1.size:Int))) - (a0_2.size:Int))) < 0)=false:=decide_eq_false c6
 have c6w:decide ((IntKind.i64.wrap ((IntKind.i64.wrap (a1 - (a0_1.size:Int))) - (a0_2.size:Int))) < 0)=false:=by simp only [i64_w];exact c6b0
 clear c6
 replace H:=zo H
 obtain ⟨t85002,A90,H⟩:=H
 replace H:(if t85002 < 0 then (some (-1)) else ((laws_szIntS.f l0_6 t85002).bind fun t85003=>(if t85003 < 0 then (some (-1)) else (some t85003))))=some r:=H
 have A9:=zk A90
 clear A90
 by_cases c10:t85002 < 0
 rw [if_pos c10] at H
 have c10b0:decide (t85002 < 0)=true:=decide_eq_true c10
 clear c10
 rotate_left
 rw [if_neg c10] at H
 have c10b0:decide (t85002 < 0)=false:=decide_eq_false c10
 clear c10
 replace H:=zo H
 obtain ⟨t85003,A140,H⟩:=H
 replace H:(if t85003 < 0 then (some (-1)) else (some t85003))=some r:=H
 have A14:=zk A140
 clear A140
 by_cases c15:t85003 < 0
 rw [if_pos c15] at H
 have c15b0:decide (t85003 < 0)=true:=decide_eq_true c15
 clear c15
 rotate_left
 rw [if_neg c15] at H
 have c15b0:decide (t85003 < 0)=false:=decide_eq_false c15
 clear c15
 rotate_left
 all_goals
  obtain rfl:=zi H
  go_enter Tryz.func85,Tryz.ntmps85
  go_wp2_with (first|((with_reducible refine gate_dst (N:=2) rfl ?_);refine zE (N:=2) (cs:=#[.int .i64 a0_0,.string a0_1,.string a0_2,.int .i64 a0_3,.string a0_4,.slice A0_5 l0_5.length c0_5,.slice A0_6 l0_6.length c0_6,.int .i64 a0_7]) (t:=103) ?_;intro gb85001 hg w16 hbox hb;have n0_:=zk (below_step za3 hb);have n1_:=zk (hbox);have n2_:=zk (zs (w:=w) hg za3);have n3_:=zk (zs (w:=w) hg za3);clear HB;have HB:=n0_;have BK85001:=n1_;have GW85001:=n2_;have GE85001:=n3_;clear n0_ n1_ n2_ n3_;clear hb hbox hg;obtain ⟨hcz17_0,hcz17_1,hcz17_2,hcz17_3,hcz17_4,hcz17_5,hcz17_6,hcz17_7,hfz17_0,hfz17_1,hfz17_2,hfz17_3,hfz17_4,hfz17_5,hfz17_6,hfz17_7⟩:=blk8 BK85001.out)|((with_reducible refine gate_callee (f:=118) rfl ?_);refine goesL_ (some 22) rfl rfl Tryz.func118 (by kernel_rfl) rfl #[.agg #[.int .i64 a0_3,.string a0_4,.slice A0_5 l0_5.length c0_5],.int .i64 (wrap64 ((wrap64 (a1 - (a0_1.size:Int))) - (a0_2.size:Int)))] rfl za4 ?_;(with_reducible refine (laws_szRegex.calls k a0_3 a0_4 _ _ l0_5 (wrap64 ((wrap64 (a1 - (a0_1.size:Int))) - (a0_2.size:Int))) t85002 _ ?side1 ?side2 A9.out).mono ?_);(case side1=>repeat (first|exact (Kd.C_below HR0_5.out HB.out)|(with_reducible refine Kd.C_alloc ?_ _)|(with_reducible refine Kd.C_drewN ?_ _)|(with_reducible refine Kd.C_drew ?_)));(case side2=>exact HC0_5.out);rintro e w18 ⟨rfl,hb⟩;refine ⟨_,rfl,?_⟩;have n0_:=zk (zb BK85001.out hb);have n1_:=zk (below_step za3 hb);clear BK85001;clear HB;have BK85001:=n0_;have HB:=n1_;clear n0_ n1_;(try clear hb);(try clear hb2);(try clear hk);(try clear hi);obtain ⟨hcz19_0,hcz19_1,hcz19_2,hcz19_3,hcz19_4,hcz19_5,hcz19_6,hcz19_7,hfz19_0,hfz19_1,hfz19_2,hfz19_3,hfz19_4,hfz19_5,hfz19_6,hfz19_7⟩:=blk8 BK85001.out)|((with_reducible refine gate_callee (f:=119) rfl ?_);refine goesL_ (some 28) rfl rfl Tryz.func119 (by kernel_rfl) rfl #[.slice A0_6 l0_6.length c0_6,.int .i64 t85002] rfl za4 ?_;(with_reducible refine (laws_szIntS.calls _ _ l0_6 t85002 t85003 _ ?side1 ?side2 A14.out).mono ?_);(case side1=>repeat (first|exact (Kd.C_below HR0_6.out HB.out)|(with_reducible refine Kd.C_alloc ?_ _)|(with_reducible refine Kd.C_drewN ?_ _)|(with_reducible refine Kd.C_drew ?_)));(case side2=>exact HC0_6.out);rintro e w' ⟨rfl,⟨nd,rfl⟩⟩;refine ⟨_,rfl,?_⟩))
  go_ret
  exact ⟨za6,za3⟩
def laws_szConstraintS.l0:Nat→List (S103)→Int→Int→Option (Int)
 | 0,_,_,_=>none
 | k+1,x0,x1,x5=>if x5 < (x0.length:Int) then (if 0≤x5 then ((laws_szConstraint.f k ((rd_T103 x0 x5).f0) ((rd_T103 x0 x5).f1) ((rd_T103 x0 x5).f2) ((rd_T103 x0 x5).f3.f0) ((rd_T103 x0 x5).f3.f1) ((rd_T103 x0 x5).f3.f2) ((rd_T103 x0 x5).f4) ((rd_T103 x0 x5).f5) x1).bind fun t55002=>(if t55002 < 0 then (some (-1)) else (laws_szConstraintS.l0 k x0 t55002 (wrap64 (x5+1))))) else (none)) else (some x1)
def laws_szConstraintS.f (k:Nat) (l0:List (S103)) (a1:Int):Option (Int):=if (wrap64 (a1 - (l0.length:Int))) < 0 then (some (-1)) else (laws_szConstraintS.l0 k l0 (wrap64 (a1 - (l0.length:Int))) 0)
theorem laws_szConstraintS.mono_l:∀ k,(∀ y0 y1 y2,LeO (laws_szConstraintS.l0 k y0 y1 y2) (laws_szConstraintS.l0 (k+1) y0 y1 y2))
 | 0=>fun _ _ _ r h=>by simp [laws_szConstraintS.l0] at h
 | k+1=>by
  have ih0:=laws_szConstraintS.mono_l k
  ·intro y0 y1 y2
   unfold laws_szConstraintS.l0
   repeat' first
   | with_reducible first|exact ih0 _ _ _|exact laws_szConstraint.mono _ _ _ _ _ _ _ _ _ _|exact LeO.refl _|exact LeO.none _|refine LeO.ite ?_ ?_|refine LeO.bind ?_ (fun _=>?_)
theorem laws_szConstraintS.mono:∀ a0 a1 k,LeO (laws_szConstraintS.f k a0 a1) (laws_szConstraintS.f (k+1) a0 a1):=by
 intro a0 a1 k
 have ih0:=laws_szConstraintS.mono_l k
 unfold laws_szConstraintS.f
 repeat' first
  | with_reducible first|exact ih0 _ _ _|exact laws_szConstraint.mono _ _ _ _ _ _ _ _ _ _|exact LeO.refl _|exact LeO.none _|refine LeO.ite ?_ ?_|refine LeO.bind ?_ (fun _=>?_)
theorem laws_szConstraintS.calls (k:Nat) (A0:Option Addr) (c0:Nat) (l0:List (S103)) (a1:Int) (r:Int) (w:World) (hr0:Kd.C k103 w A0 l0.length l0) (hc0:l0.length≤c0) (h:laws_szConstraintS.f k l0 a1=some r) :
  Calls Tryz.prog 55 #[.slice A0 l0.length c0,.int .i64 a1] w fun e w'=>e = .returned (.int .i64 r)∧Below w.heap.size w w':=by
 have hu103:=Tryz.underlying103
 have HR0:=zk hr0
 have HC0:=zk hc0
 clear hr0 hc0
 have HB:=zk (Below.refl w.heap.size w)
 have H:(if (wrap64 (a1 - (l0.length:Int))) < 0 then (some (-1)) else (laws_szConstraintS.l0 k l0 (wrap64 (a1 - (l0.length:Int))) 0))=some r:=h
 clear h
 by_cases c3:(wrap64 (a1 - (l0.length:Int))) < 0
 ·rw [if_pos c3] at H
  have c3b0:decide ((wrap64 (a1 - (l0.length:Int))) < 0)=true:=decide_eq_true c3
  have c3w:decide ((IntKind.i64.wrap (a1 - (l0.length:Int))) < 0)=true:=by simp only [i64_w];exact c3b0
  clear c3
  obtain rfl:=zi H
  go_enter Tryz.func55,Tryz.ntmps55
  go_wp2
  go_ret
  exact ⟨za6,za3⟩
 ·rw [if_neg c3] at H
  have c3b0:decide ((wrap64 (a1 - (l0.length:Int))) < 0)=false:=decide_eq_false c3
  have c3w:decide ((IntKind.i64.wrap (a1 - (l0.length:Int))) < 0)=false:=by simp only [i64_w];exact c3b0
  clear c3
  have H':=zk H
  clear H
  go_enter Tryz.func55,Tryz.ntmps55
  go_wp2
  first|go_loopg [1,5] k (fun kq v1 v5 w'=>∃ (x1_1:Int) (x5_1:Int),v1 = .int .i64 x1_1∧v5 = .int .i64 x5_1∧Aside0 (laws_szConstraintS.l0 kq l0 x1_1 x5_1=some r)∧Aside0 (kq≤k)∧Aside0 (Below w.heap.size w w'))|(simp only [Act.put,zt,zv,zu];go_loopg [1,5] k (fun kq v1 v5 w'=>∃ (x1_1:Int) (x5_1:Int),v1 = .int .i64 x1_1∧v5 = .int .i64 x5_1∧Aside0 (laws_szConstraintS.l0 kq l0 x1_1 x5_1=some r)∧Aside0 (kq≤k)∧Aside0 (Below w.heap.size w w')))
  case atStart=>exact ⟨(wrap64 (a1 - (l0.length:Int))),(0),za7,za7,H',⟨Nat.le_refl _⟩,⟨za3⟩⟩
  case round =>
   clear H'
   try clear c3
   try clear c3b0
   obtain ⟨x1_1,x5_1,rfl,rfl,HA,HK1,HB⟩:=hrel
   cases gk with
   | zero=>exact absurd HA.out (by simp [laws_szConstraintS.l0])
   | succ k1 =>
    have H:=HA.out
    clear HA
    simp only [laws_szConstraintS.l0] at H
    by_cases c4:x5_1 < (l0.length:Int)
    rw [if_pos c4] at H
    have c4b0:decide (x5_1 < (l0.length:Int))=true:=decide_eq_true c4
    clear c4
    by_cases c5:0≤x5_1
    rw [if_pos c5] at H
    have c5b0:decide (0≤x5_1)=true:=decide_eq_true c5
    clear c5
    replace H:=zo H
    obtain ⟨t55002,A60,H⟩:=H
    replace H:(if t55002 < 0 then (some (-1)) else (laws_szConstraintS.l0 k1 l0 t55002 (wrap64 (x5_1+1))))=some r:=H
    have A6:=zk A60
    clear A60
    by_cases c7:t55002 < 0
    rw [if_pos c7] at H
    have c7b0:decide (t55002 < 0)=true:=decide_eq_true c7
    clear c7
    obtain rfl:=zi H
    have fin0_:=zk trivial
    rotate_left
    rw [if_neg c7] at H
    have c7b0:decide (t55002 < 0)=false:=decide_eq_false c7
    clear c7
    have H':=zk H
    clear H
    have fin1_:=zk trivial
    rotate_left
    · rw [if_neg c5] at H
      exact absurd H (by simp)
    · rw [if_neg c4] at H
      have c4b0:decide (x5_1 < (l0.length:Int))=false:=decide_eq_false c4
      clear c4
      obtain rfl:=zi H
      go_wp2
      go_ret
      exact ⟨za6,za3⟩
    all_goals
     have p55001:0≤(x5_1:Int):=of_decide_eq_true za8
     have q55001:x5_1 < (l0.length:Int):=of_decide_eq_true za8
     obtain ⟨ad55001,A55001_5,c55001_5,A55001_6,c55001_6,e55001,hx55001_0,hx55001_1,hx55001_2,hx55001_3,hx55001_4,hx55001_5,hx55001_6,hx55001_7,hl55001_5,hi55001_5,hl55001_6,hi55001_6⟩:=at_T103 HR0.out x5_1 p55001 q55001
     cases e55001
     replace hx55001_0:=zx HB.out hx55001_0
     replace hx55001_1:=zx HB.out hx55001_1
     replace hx55001_2:=zx HB.out hx55001_2
     replace hx55001_3:=zx HB.out hx55001_3
     replace hx55001_4:=zx HB.out hx55001_4
     replace hx55001_5:=zx HB.out hx55001_5
     replace hx55001_6:=zx HB.out hx55001_6
     replace hx55001_7:=zx HB.out hx55001_7
     have HR55001_5:=zk hi55001_5
     have HC55001_5:=zk hl55001_5
     clear hi55001_5 hl55001_5
     have HR55001_6:=zk hi55001_6
     have HC55001_6:=zk hl55001_6
     clear hi55001_6 hl55001_6
     replace p55001:=eq_true p55001
     replace q55001:=eq_true q55001
     go_wp2_with (((with_reducible refine gate_callee (f:=85) rfl ?_);refine goesL_ (some 23) rfl rfl Tryz.func85 (by kernel_rfl) rfl #[.agg #[.int .i64 ((rd_T103 l0 x5_1).f0),.string ((rd_T103 l0 x5_1).f1),.string ((rd_T103 l0 x5_1).f2),.int .i64 ((rd_T103 l0 x5_1).f3.f0),.string ((rd_T103 l0 x5_1).f3.f1),.slice A55001_5 ((rd_T103 l0 x5_1).f3.f2).length c55001_5,.slice A55001_6 ((rd_T103 l0 x5_1).f4).length c55001_6,.int .i64 ((rd_T103 l0 x5_1).f5)],.int .i64 x1_1] rfl za4 ?_;(with_reducible refine (laws_szConstraint.calls k1 ((rd_T103 l0 x5_1).f0) ((rd_T103 l0 x5_1).f1) ((rd_T103 l0 x5_1).f2) ((rd_T103 l0 x5_1).f3.f0) ((rd_T103 l0 x5_1).f3.f1) _ _ ((rd_T103 l0 x5_1).f3.f2) _ _ ((rd_T103 l0 x5_1).f4) ((rd_T103 l0 x5_1).f5) x1_1 t55002 _ ?side1 ?side2 ?side3 ?side4 A6.out).mono ?_);(case side1=>repeat (first|exact (Kd.C_below HR55001_5.out HB.out)|(with_reducible refine Kd.C_alloc ?_ _)|(with_reducible refine Kd.C_drewN ?_ _)|(with_reducible refine Kd.C_drew ?_)));(case side2=>exact HC55001_5.out);(case side3=>repeat (first|exact (Kd.C_below HR55001_6.out HB.out)|(with_reducible refine Kd.C_alloc ?_ _)|(with_reducible refine Kd.C_drewN ?_ _)|(with_reducible refine Kd.C_drew ?_)));(case side4=>exact HC55001_6.out);rintro e w8 ⟨rfl,hb⟩;refine ⟨_,rfl,?_⟩;have n0_:=zk (below_step za3 hb);clear HB;have HB:=n0_;clear n0_;(try clear hb);(try clear hb2);(try clear hk);(try clear hi)))
     first
     | (
       clear fin0_
       go_ret
       exact ⟨za6,za3⟩)
     | (
       clear fin1_
       go_roundg k1
       case measure=>have:=HK1.out;omega
       case rel=>exact ⟨(t55002),(wrap64 (x5_1+1)),za7,za7,H',⟨za15⟩,⟨za3⟩⟩)
def laws_toConstraint.f (k:Nat) (a0_0:Int) (a0_1:ByteArray) (a0_2:ByteArray) (a0_3:Int) (a0_4:ByteArray) (l0_5:List (S101)) (l0_6:List Int) (a0_7:Int):Option (Int × ByteArray × ByteArray × Int × ByteArray × (List (S65)) × List Int × Int):=(laws_toRegex.f k a0_3 a0_4 l0_5).bind fun bt86004=>((laws_toIntS.f k l0_6).bind fun t86009=>(some (a0_0,a0_1,a0_2,bt86004.1,bt86004.2.1,bt86004.2.2,t86009,a0_7)))
theorem laws_toConstraint.mono:∀ a0 a1 a2 a3 a4 a5 a6 a7 k,LeO (laws_toConstraint.f k a0 a1 a2 a3 a4 a5 a6 a7) (laws_toConstraint.f (k+1) a0 a1 a2 a3 a4 a5 a6 a7):=by
 intro a0 a1 a2 a3 a4 a5 a6 a7 k
 unfold laws_toConstraint.f
 repeat' first
  | with_reducible first|exact laws_toIntS.mono _ _|exact laws_toRegex.mono _ _ _ _|exact LeO.refl _|exact LeO.none _|refine LeO.ite ?_ ?_|refine LeO.bind ?_ (fun _=>?_)
theorem laws_toConstraint.calls (k:Nat) (a0_0:Int) (a0_1:ByteArray) (a0_2:ByteArray) (a0_3:Int) (a0_4:ByteArray) (A0_5:Option Addr) (c0_5:Nat) (l0_5:List (S101)) (A0_6:Option Addr) (c0_6:Nat) (l0_6:List Int) (a0_7:Int) (r1:Int) (r2:ByteArray) (r3:ByteArray) (r4:Int) (r5:ByteArray) (r6:List (S65)) (r7:List Int) (r8:Int) (w:World) (hr0_5:Kd.C k101 w A0_5 l0_5.length l0_5) (hc0_5:l0_5.length≤c0_5) (hr0_6:Kd.C (Kd.int .i64) w A0_6 l0_6.length l0_6) (hc0_6:l0_6.length≤c0_6) (h:laws_toConstraint.f k a0_0 a0_1 a0_2 a0_3 a0_4 l0_5 l0_6 a0_7=some (r1,r2,r3,r4,r5,r6,r7,r8)) :
  Calls Tryz.prog 86 #[.agg #[.int .i64 a0_0,.string a0_1,.string a0_2,.int .i64 a0_3,.string a0_4,.slice A0_5 l0_5.length c0_5,.slice A0_6 l0_6.length c0_6,.int .i64 a0_7]] w fun e w'=>∃ v5_ v6_:Value,e = .returned (.agg #[.int .i64 r1,.string r2,.string r3,.int .i64 r4,.string r5,v5_,v6_,.int .i64 r8])∧Kd.R k65 65 w' w.heap.size (fun _=>True) v5_ r6∧Kd.R (Kd.int .i64) 3 w' w.heap.size (fun _=>True) v6_ r7∧Below w.heap.size w w':=by
 have hu103:=Tryz.underlying103
 have hu67:=Tryz.underlying67
 have hu101:=Tryz.underlying101
 have hu65:=Tryz.underlying65
 have HR0_5:=zk hr0_5
 have HC0_5:=zk hc0_5
 clear hr0_5 hc0_5
 have HR0_6:=zk hr0_6
 have HC0_6:=zk hc0_6
 clear hr0_6 hc0_6
 have HB:=zk (Below.refl w.heap.size w)
 have H:((laws_toRegex.f k a0_3 a0_4 l0_5).bind fun bt86004=>((laws_toIntS.f k l0_6).bind fun t86009=>(some (a0_0,a0_1,a0_2,bt86004.1,bt86004.2.1,bt86004.2.2,t86009,a0_7))))=some (r1,r2,r3,r4,r5,r6,r7,r8):=h
 clear h
 replace H:=zo H
 obtain ⟨⟨t86004,t86005,t86006⟩,A20,H⟩:=H
 replace H:((laws_toIntS.f k l0_6).bind fun t86009=>(some (a0_0,a0_1,a0_2,t86004,t86005,t86006,t86009,a0_7)))=some (r1,r2,r3,r4,r5,r6,r7,r8):=H
 have A2:=zk A20
 clear A20
 replace H:=zo H
 obtain ⟨t86009,A30,H⟩:=H
 replace H:(some (a0_0,a0_1,a0_2,t86004,t86005,t86006,t86009,a0_7))=some (r1,r2,r3,r4,r5,r6,r7,r8):=H
 have A3:=zk A30
 clear A30
 simp only [Option.some.injEq,Prod.mk.injEq] at H
 obtain ⟨rfl,rfl,rfl,rfl,rfl,rfl,rfl,rfl⟩:=H
 go_enter Tryz.func86,Tryz.ntmps86
 go_wp2_with (first|((with_reducible refine gate_dst (N:=1) rfl ?_);refine zE (N:=1) (cs:=#[.int .i64 a0_0,.string a0_1,.string a0_2,.int .i64 a0_3,.string a0_4,.slice A0_5 l0_5.length c0_5,.slice A0_6 l0_6.length c0_6,.int .i64 a0_7]) (t:=103) ?_;intro gb86001 hg w4 hbox hb;have n0_:=zk (below_step za3 hb);have n1_:=zk (hbox);have n2_:=zk (zs (w:=w) hg za3);have n3_:=zk (zs (w:=w) hg za3);clear HB;have HB:=n0_;have BK86001:=n1_;have GW86001:=n2_;have GE86001:=n3_;clear n0_ n1_ n2_ n3_;clear hb hbox hg)|((with_reducible refine gate_dst (N:=2) rfl ?_);refine zE (N:=2) (cs:=#[.int .i64 0,.string (⟨#[]⟩:ByteArray),.string (⟨#[]⟩:ByteArray),.int .i64 0,.string (⟨#[]⟩:ByteArray),.slice none 0 0,.slice none 0 0,.int .i64 0]) (t:=67) ?_;intro gb86002 hg w5 hbox hb;have n0_:=zk (zb BK86001.out hb);have n1_:=zk (below_step za3 hb);have n2_:=zk (hbox);have n3_:=zk (zs (w:=w) hg za3);have n4_:=zk (zs (w:=w) hg za3);have n5_:=zk ((by rw [hg];exact Nat.ne_of_lt (zl BK86001.out):gb86001 ≠ gb86002));have n6_:=zk ((by rw [hg];exact Nat.ne_of_gt (zl BK86001.out):gb86002 ≠ gb86001));clear BK86001;clear HB;have BK86001:=n0_;have HB:=n1_;have BK86002:=n2_;have GW86002:=n3_;have GE86002:=n4_;have NB86001_86002:=n5_;have NB86002_86001:=n6_;clear n0_ n1_ n2_ n3_ n4_ n5_ n6_;clear hb hbox hg)|((with_reducible refine gate_dst (N:=3) rfl ?_);refine zE (N:=3) (cs:=#[.int .i64 0,.string (⟨#[]⟩:ByteArray),.string (⟨#[]⟩:ByteArray),.int .i64 0,.string (⟨#[]⟩:ByteArray),.slice none 0 0,.slice none 0 0,.int .i64 0]) (t:=67) ?_;intro gb86003 hg w6 hbox hb;have n0_:=zk (zb BK86001.out hb);have n1_:=zk (zb BK86002.out hb);have n2_:=zk (below_step za3 hb);have n3_:=zk (hbox);have n4_:=zk (zs (w:=w) hg za3);have n5_:=zk (zs (w:=w) hg za3);have n6_:=zk ((by rw [hg];exact Nat.ne_of_lt (zl BK86001.out):gb86001 ≠ gb86003));have n7_:=zk ((by rw [hg];exact Nat.ne_of_gt (zl BK86001.out):gb86003 ≠ gb86001));have n8_:=zk ((by rw [hg];exact Nat.ne_of_lt (zl BK86002.out):gb86002 ≠ gb86003));have n9_:=zk ((by rw [hg];exact Nat.ne_of_gt (zl BK86002.out):gb86003 ≠ gb86002));clear BK86001;clear BK86002;clear HB;have BK86001:=n0_;have BK86002:=n1_;have HB:=n2_;have BK86003:=n3_;have GW86003:=n4_;have GE86003:=n5_;have NB86001_86003:=n6_;have NB86003_86001:=n7_;have NB86002_86003:=n8_;have NB86003_86002:=n9_;clear n0_ n1_ n2_ n3_ n4_ n5_ n6_ n7_ n8_ n9_;clear hb hbox hg;have hnb7:=NB86001_86002.out;have hnc7:=NB86002_86001.out;have hnb8:=NB86001_86003.out;have hnc8:=NB86003_86001.out;obtain ⟨hcz9_0,hcz9_1,hcz9_2,hcz9_3,hcz9_4,hcz9_5,hcz9_6,hcz9_7,hfz9_0,hfz9_1,hfz9_2,hfz9_3,hfz9_4,hfz9_5,hfz9_6,hfz9_7⟩:=blk8 BK86001.out;have hnb10:=NB86003_86002.out;have hnc10:=NB86002_86003.out;obtain ⟨hcz11_0,hcz11_1,hcz11_2,hcz11_3,hcz11_4,hcz11_5,hcz11_6,hcz11_7,hfz11_0,hfz11_1,hfz11_2,hfz11_3,hfz11_4,hfz11_5,hfz11_6,hfz11_7⟩:=blk8 BK86003.out)|((with_reducible refine gate_callee (f:=120) rfl ?_);refine goesL_ (some 15) rfl rfl Tryz.func120 (by kernel_rfl) rfl #[.agg #[.int .i64 a0_3,.string a0_4,.slice A0_5 l0_5.length c0_5]] rfl za4 ?_;(with_reducible refine (laws_toRegex.calls k a0_3 a0_4 _ _ l0_5 t86004 t86005 t86006 _ ?side1 ?side2 A2.out).mono ?_);(case side1=>exact Kd.C_below HR0_5.out za3);(case side2=>exact HC0_5.out);rintro e w12 ⟨v86007,rfl,ho0,hb⟩;refine ⟨_,rfl,?_⟩;have n0_:=zk (Kd.R_lower ho0 (below_size za3));have n1_:=zk (blk_below (g:=gb86001) (o:=.cells #[.int .i64 a0_0,.string a0_1,.string a0_2,.int .i64 a0_3,.string a0_4,.slice A0_5 l0_5.length c0_5,.slice A0_6 l0_6.length c0_6,.int .i64 a0_7] 103 (0,0)) za19 hb);have n2_:=zk (blk_below (g:=gb86002) (o:=.cells #[.int .i64 0,.string (⟨#[]⟩:ByteArray),.string (⟨#[]⟩:ByteArray),.int .i64 0,.string (⟨#[]⟩:ByteArray),.slice none 0 0,.slice none 0 0,.int .i64 0] 67 (0,0)) za18 hb);have n3_:=zk (blk_below (g:=gb86003) (o:=.cells #[.int .i64 a0_0,.string a0_1,.string a0_2,.int .i64 0,.string (⟨#[]⟩:ByteArray),.slice none 0 0,.slice none 0 0,.int .i64 0] 67 (0,0)) (by (with_reducible repeat (first|refine blk_drewN ?_ _|refine blk_drew ?_|refine blk_alloc ?_ _));refine blk_put (cs:=#[.int .i64 a0_0,.string a0_1,.string (⟨#[]⟩:ByteArray),.int .i64 0,.string (⟨#[]⟩:ByteArray),.slice none 0 0,.slice none 0 0,.int .i64 0]) ?_ 2 _ rfl;(with_reducible repeat (first|refine blk_drewN ?_ _|refine blk_drew ?_|refine blk_alloc ?_ _));refine blk_put (cs:=#[.int .i64 a0_0,.string (⟨#[]⟩:ByteArray),.string (⟨#[]⟩:ByteArray),.int .i64 0,.string (⟨#[]⟩:ByteArray),.slice none 0 0,.slice none 0 0,.int .i64 0]) ?_ 1 _ rfl;(with_reducible repeat (first|refine blk_drewN ?_ _|refine blk_drew ?_|refine blk_alloc ?_ _));refine blk_put (cs:=#[.int .i64 0,.string (⟨#[]⟩:ByteArray),.string (⟨#[]⟩:ByteArray),.int .i64 0,.string (⟨#[]⟩:ByteArray),.slice none 0 0,.slice none 0 0,.int .i64 0]) ?_ 0 _ rfl;(with_reducible repeat (first|refine blk_drewN ?_ _|refine blk_drew ?_|refine blk_alloc ?_ _));exact BK86003.out) hb);have n4_:=zk (below_step za3 hb);clear BK86001;clear BK86002;clear BK86003;clear HB;have HO86008:=n0_;have BK86001:=n1_;have BK86002:=n2_;have BK86003:=n3_;have HB:=n4_;clear n0_ n1_ n2_ n3_ n4_;(try clear hb);(try clear hb2);(try clear hk);(try clear hi);(try clear ho0);obtain ⟨hcz13_0,hcz13_1,hcz13_2,hcz13_3,hcz13_4,hcz13_5,hcz13_6,hcz13_7,hfz13_0,hfz13_1,hfz13_2,hfz13_3,hfz13_4,hfz13_5,hfz13_6,hfz13_7⟩:=blk8 BK86003.out;obtain ⟨Ao14,co14,eo14⟩:=Kd.R_slice HO86008.out;subst eo14;obtain ⟨hcz15_0,hcz15_1,hcz15_2,hcz15_3,hcz15_4,hcz15_5,hcz15_6,hcz15_7,hfz15_0,hfz15_1,hfz15_2,hfz15_3,hfz15_4,hfz15_5,hfz15_6,hfz15_7⟩:=blk8 BK86001.out)|((with_reducible refine gate_callee (f:=121) rfl ?_);refine goesL_ (some 19) rfl rfl Tryz.func121 (by kernel_rfl) rfl #[.slice A0_6 l0_6.length c0_6] rfl za4 ?_;(with_reducible refine (laws_toIntS.calls k _ _ l0_6 t86009 _ ?side1 ?side2 A3.out).mono ?_);(case side1=>exact Kd.C_below HR0_6.out za3);(case side2=>exact HC0_6.out);rintro e w16 ⟨v86010,rfl,ho0,hb⟩;refine ⟨_,rfl,?_⟩;have n0_:=zk (Kd.R_below (by (with_reducible repeat (first|apply Kd.R_alloc|apply Kd.R_drewN|apply Kd.R_drew));exact (Kd.R_mono (Kd.R_far (p:=⟨gb86003,5,none⟩) (Kd.R_far (p:=⟨gb86003,4,none⟩) (Kd.R_far (p:=⟨gb86003,3,none⟩) (Kd.R_types HO86008.out BK86003.out (by decide)) (fun _ hk=>hk.2) (.int .i64 t86004)) (fun _ hk=>hk.2) (.string t86005)) (fun _ hk=>hk.2) (.slice Ao14 t86006.length co14)) (fun _ h_=>h_.1))) hb);have n1_:=zk (Kd.R_lower ho0 (below_size za3));have n2_:=zk (blk_below (g:=gb86001) (o:=.cells #[.int .i64 a0_0,.string a0_1,.string a0_2,.int .i64 a0_3,.string a0_4,.slice A0_5 l0_5.length c0_5,.slice A0_6 l0_6.length c0_6,.int .i64 a0_7] 103 (0,0)) za19 hb);have n3_:=zk (blk_below (g:=gb86002) (o:=.cells #[.int .i64 0,.string (⟨#[]⟩:ByteArray),.string (⟨#[]⟩:ByteArray),.int .i64 0,.string (⟨#[]⟩:ByteArray),.slice none 0 0,.slice none 0 0,.int .i64 0] 67 (0,0)) za18 hb);have n4_:=zk (blk_below (g:=gb86003) (o:=.cells #[.int .i64 a0_0,.string a0_1,.string a0_2,.int .i64 t86004,.string t86005,.slice Ao14 t86006.length co14,.slice none 0 0,.int .i64 0] 67 (0,0)) (by (with_reducible repeat (first|refine blk_drewN ?_ _|refine blk_drew ?_|refine blk_alloc ?_ _));refine blk_put (cs:=#[.int .i64 a0_0,.string a0_1,.string a0_2,.int .i64 t86004,.string t86005,.slice none 0 0,.slice none 0 0,.int .i64 0]) ?_ 5 _ rfl;(with_reducible repeat (first|refine blk_drewN ?_ _|refine blk_drew ?_|refine blk_alloc ?_ _));refine blk_put (cs:=#[.int .i64 a0_0,.string a0_1,.string a0_2,.int .i64 t86004,.string (⟨#[]⟩:ByteArray),.slice none 0 0,.slice none 0 0,.int .i64 0]) ?_ 4 _ rfl;(with_reducible repeat (first|refine blk_drewN ?_ _|refine blk_drew ?_|refine blk_alloc ?_ _));refine blk_put (cs:=#[.int .i64 a0_0,.string a0_1,.string a0_2,.int .i64 0,.string (⟨#[]⟩:ByteArray),.slice none 0 0,.slice none 0 0,.int .i64 0]) ?_ 3 _ rfl;(with_reducible repeat (first|refine blk_drewN ?_ _|refine blk_drew ?_|refine blk_alloc ?_ _));exact BK86003.out) hb);have n5_:=zk (below_step za3 hb);clear HO86008;clear BK86001;clear BK86002;clear BK86003;clear HB;have HO86008:=n0_;have HO86011:=n1_;have BK86001:=n2_;have BK86002:=n3_;have BK86003:=n4_;have HB:=n5_;clear n0_ n1_ n2_ n3_ n4_ n5_;(try clear hb);(try clear hb2);(try clear hk);(try clear hi);(try clear ho0);obtain ⟨Ao17,co17,eo17⟩:=Kd.R_slice HO86011.out;subst eo17;obtain ⟨hcz18_0,hcz18_1,hcz18_2,hcz18_3,hcz18_4,hcz18_5,hcz18_6,hcz18_7,hfz18_0,hfz18_1,hfz18_2,hfz18_3,hfz18_4,hfz18_5,hfz18_6,hfz18_7⟩:=blk8 BK86003.out;obtain ⟨hcz19_0,hcz19_1,hcz19_2,hcz19_3,hcz19_4,hcz19_5,hcz19_6,hcz19_7,hfz19_0,hfz19_1,hfz19_2,hfz19_3,hfz19_4,hfz19_5,hfz19_6,hfz19_7⟩:=blk8 BK86001.out;obtain ⟨hcz20_0,hcz20_1,hcz20_2,hcz20_3,hcz20_4,hcz20_5,hcz20_6,hcz20_7,hfz20_0,hfz20_1,hfz20_2,hfz20_3,hfz20_4,hfz20_5,hfz20_6,hfz20_7⟩:=blk8 BK86002.out))
 refine bodyPost_ret (results_cell_row rfl _ _ gb86002 67 #[.int .i64 a0_0,.string a0_1,.string a0_2,.int .i64 t86004,.string t86005,.slice Ao14 t86006.length co14,.slice Ao17 t86009.length co17,.int .i64 a0_7] (0,0) _ rfl (by (with_reducible repeat (first|refine blk_drewN ?_ _|refine blk_drew ?_|refine blk_alloc ?_ _));refine blk_put (cs:=#[.int .i64 a0_0,.string a0_1,.string a0_2,.int .i64 t86004,.string t86005,.slice Ao14 t86006.length co14,.slice Ao17 t86009.length co17,.int .i64 0]) ?_ 7 _ rfl;(with_reducible repeat (first|refine blk_drewN ?_ _|refine blk_drew ?_|refine blk_alloc ?_ _));refine blk_put (cs:=#[.int .i64 a0_0,.string a0_1,.string a0_2,.int .i64 t86004,.string t86005,.slice Ao14 t86006.length co14,.slice none 0 0,.int .i64 0]) ?_ 6 _ rfl;(with_reducible repeat (first|refine blk_drewN ?_ _|refine blk_drew ?_|refine blk_alloc ?_ _));refine blk_put (cs:=#[.int .i64 a0_0,.string a0_1,.string a0_2,.int .i64 t86004,.string t86005,.slice none 0 0,.slice none 0 0,.int .i64 0]) ?_ 5 _ rfl;(with_reducible repeat (first|refine blk_drewN ?_ _|refine blk_drew ?_|refine blk_alloc ?_ _));refine blk_put (cs:=#[.int .i64 a0_0,.string a0_1,.string a0_2,.int .i64 t86004,.string (⟨#[]⟩:ByteArray),.slice none 0 0,.slice none 0 0,.int .i64 0]) ?_ 4 _ rfl;(with_reducible repeat (first|refine blk_drewN ?_ _|refine blk_drew ?_|refine blk_alloc ?_ _));refine blk_put (cs:=#[.int .i64 a0_0,.string a0_1,.string a0_2,.int .i64 0,.string (⟨#[]⟩:ByteArray),.slice none 0 0,.slice none 0 0,.int .i64 0]) ?_ 3 _ rfl;(with_reducible repeat (first|refine blk_drewN ?_ _|refine blk_drew ?_|refine blk_alloc ?_ _));refine blk_put (cs:=#[.int .i64 a0_0,.string a0_1,.string (⟨#[]⟩:ByteArray),.int .i64 0,.string (⟨#[]⟩:ByteArray),.slice none 0 0,.slice none 0 0,.int .i64 0]) ?_ 2 _ rfl;(with_reducible repeat (first|refine blk_drewN ?_ _|refine blk_drew ?_|refine blk_alloc ?_ _));refine blk_put (cs:=#[.int .i64 a0_0,.string (⟨#[]⟩:ByteArray),.string (⟨#[]⟩:ByteArray),.int .i64 0,.string (⟨#[]⟩:ByteArray),.slice none 0 0,.slice none 0 0,.int .i64 0]) ?_ 1 _ rfl;(with_reducible repeat (first|refine blk_drewN ?_ _|refine blk_drew ?_|refine blk_alloc ?_ _));refine blk_put (cs:=#[.int .i64 0,.string (⟨#[]⟩:ByteArray),.string (⟨#[]⟩:ByteArray),.int .i64 0,.string (⟨#[]⟩:ByteArray),.slice none 0 0,.slice none 0 0,.int .i64 0]) ?_ 0 _ rfl;(with_reducible repeat (first|refine blk_drewN ?_ _|refine blk_drew ?_|refine blk_alloc ?_ _));refine blk_far ?_ NB86002_86003.out _;(with_reducible repeat (first|refine blk_drewN ?_ _|refine blk_drew ?_|refine blk_alloc ?_ _));refine blk_far ?_ NB86002_86003.out _;(with_reducible repeat (first|refine blk_drewN ?_ _|refine blk_drew ?_|refine blk_alloc ?_ _));exact BK86002.out) Tryz.underlying67 rfl (by kernel_rfl)) rfl ?_
 exact ⟨_,_,za6,by (with_reducible repeat (first|apply Kd.R_alloc|apply Kd.R_drewN|apply Kd.R_drew));exact Kd.R_mono (Kd.R_far (p:=⟨gb86002,7,none⟩) (Kd.R_far (p:=⟨gb86002,6,none⟩) (Kd.R_far (p:=⟨gb86002,5,none⟩) (Kd.R_far (p:=⟨gb86002,4,none⟩) (Kd.R_far (p:=⟨gb86002,3,none⟩) (Kd.R_far (p:=⟨gb86002,2,none⟩) (Kd.R_far (p:=⟨gb86002,1,none⟩) (Kd.R_far (p:=⟨gb86002,0,none⟩) (Kd.R_far (p:=⟨gb86003,7,none⟩) (Kd.R_far (p:=⟨gb86003,6,none⟩) (Kd.R_types (Kd.R_types HO86008.out BK86003.out (by decide)) BK86002.out (by decide)) (fun _ hk=>hk.1.2) (.slice Ao17 t86009.length co17)) (fun _ hk=>hk.1.2) (.int .i64 a0_7)) (fun _ hk=>hk.2) (.int .i64 a0_0)) (fun _ hk=>hk.2) (.string a0_1)) (fun _ hk=>hk.2) (.string a0_2)) (fun _ hk=>hk.2) (.int .i64 t86004)) (fun _ hk=>hk.2) (.string t86005)) (fun _ hk=>hk.2) (.slice Ao14 t86006.length co14)) (fun _ hk=>hk.2) (.slice Ao17 t86009.length co17)) (fun _ hk=>hk.2) (.int .i64 a0_7)) (fun _ hk=>trivial),by (with_reducible repeat (first|apply Kd.R_alloc|apply Kd.R_drewN|apply Kd.R_drew));exact Kd.R_mono (Kd.R_far (p:=⟨gb86002,7,none⟩) (Kd.R_far (p:=⟨gb86002,6,none⟩) (Kd.R_far (p:=⟨gb86002,5,none⟩) (Kd.R_far (p:=⟨gb86002,4,none⟩) (Kd.R_far (p:=⟨gb86002,3,none⟩) (Kd.R_far (p:=⟨gb86002,2,none⟩) (Kd.R_far (p:=⟨gb86002,1,none⟩) (Kd.R_far (p:=⟨gb86002,0,none⟩) (Kd.R_far (p:=⟨gb86003,7,none⟩) (Kd.R_far (p:=⟨gb86003,6,none⟩) (Kd.R_types (Kd.R_types HO86011.out BK86003.out (by decide)) BK86002.out (by decide)) (fun _ hk=>hk.1.2) (.slice Ao17 t86009.length co17)) (fun _ hk=>hk.1.2) (.int .i64 a0_7)) (fun _ hk=>hk.2) (.int .i64 a0_0)) (fun _ hk=>hk.2) (.string a0_1)) (fun _ hk=>hk.2) (.string a0_2)) (fun _ hk=>hk.2) (.int .i64 t86004)) (fun _ hk=>hk.2) (.string t86005)) (fun _ hk=>hk.2) (.slice Ao14 t86006.length co14)) (fun _ hk=>hk.2) (.slice Ao17 t86009.length co17)) (fun _ hk=>hk.2) (.int .i64 a0_7)) (fun _ hk=>trivial),za3⟩
def laws_toConstraintS.l0:Nat→List (S103)→List (S67)→Int→Option ((List (S67)))
 | 0,_,_,_=>none
 | k+1,x0,x3,x4=>if x4 < (x0.length:Int) then (if 0≤x4 then ((laws_toConstraint.f k ((rd_T103 x0 x4).f0) ((rd_T103 x0 x4).f1) ((rd_T103 x0 x4).f2) ((rd_T103 x0 x4).f3.f0) ((rd_T103 x0 x4).f3.f1) ((rd_T103 x0 x4).f3.f2) ((rd_T103 x0 x4).f4) ((rd_T103 x0 x4).f5)).bind fun bt56005=>(if x4 < (x3.length:Int) then (laws_toConstraintS.l0 k x0 (x3.set (x4:Int).toNat (⟨bt56005.1,bt56005.2.1,bt56005.2.2.1,(⟨bt56005.2.2.2.1,bt56005.2.2.2.2.1,bt56005.2.2.2.2.2.1⟩:S65),bt56005.2.2.2.2.2.2.1,bt56005.2.2.2.2.2.2.2⟩:S67)) (wrap64 (x4+1))) else (none))) else (none)) else (some x3)
def laws_toConstraintS.f (k:Nat) (l0:List (S103)):Option ((List (S67))):=if 0≤(l0.length:Int) then (if ((l0.length:Int):Int).toNat≤2345624805922 then (laws_toConstraintS.l0 k l0 (List.replicate ((l0.length:Int):Int).toNat z67) 0) else (none)) else (none)
theorem laws_toConstraintS.mono_l:∀ k,(∀ y0 y1 y2,LeO (laws_toConstraintS.l0 k y0 y1 y2) (laws_toConstraintS.l0 (k+1) y0 y1 y2))
 | 0=>fun _ _ _ r h=>by simp [laws_toConstraintS.l0] at h
 | k+1=>by
  have ih0:=laws_toConstraintS.mono_l k
  ·intro y0 y1 y2
   unfold laws_toConstraintS.l0
   repeat' first
   | with_reducible first|exact ih0 _ _ _|exact laws_toConstraint.mono _ _ _ _ _ _ _ _ _|exact LeO.refl _|exact LeO.none _|refine LeO.ite ?_ ?_|refine LeO.bind ?_ (fun _=>?_)
theorem laws_toConstraintS.mono:∀ a0 k,LeO (laws_toConstraintS.f k a0) (laws_toConstraintS.f (k+1) a0):=by
 intro a0 k
 have ih0:=laws_toConstraintS.mono_l k
 unfold laws_toConstraintS.f
 repeat' first
  | with_reducible first|exact ih0 _ _ _|exact laws_toConstraint.mono _ _ _ _ _ _ _ _ _|exact LeO.refl _|exact LeO.none _|refine LeO.ite ?_ ?_|refine LeO.bind ?_ (fun _=>?_)
theorem laws_toConstraintS.calls (k:Nat) (A0:Option Addr) (c0:Nat) (l0:List (S103)) (r:List (S67)) (w:World) (hr0:Kd.C k103 w A0 l0.length l0) (hc0:l0.length≤c0) (h:laws_toConstraintS.f k l0=some r) :
  Calls Tryz.prog 56 #[.slice A0 l0.length c0] w fun e w'=>∃ v0_:Value,e = .returned (v0_)∧Kd.R k67 67 w' w.heap.size (fun _=>True) v0_ r∧Below w.heap.size w w':=by
 have hu103:=Tryz.underlying103
 have hu67:=Tryz.underlying67
 have HR0:=zk hr0
 have HC0:=zk hc0
 clear hr0 hc0
 have HB:=zk (Below.refl w.heap.size w)
 have H:(if 0≤(l0.length:Int) then (if ((l0.length:Int):Int).toNat≤2345624805922 then (laws_toConstraintS.l0 k l0 (List.replicate ((l0.length:Int):Int).toNat z67) 0) else (none)) else (none))=some r:=h
 clear h
 by_cases c2:0≤(l0.length:Int)
 rw [if_pos c2] at H
 have c2b0:=eq_true c2
 have c2b1:decide (0≤(l0.length:Int))=true:=decide_eq_true c2
 clear c2
 by_cases c3:((l0.length:Int):Int).toNat≤2345624805922
 ·rw [if_pos c3] at H
  have c3b0:=eq_true c3
  have c3b1:decide (((l0.length:Int):Int).toNat≤2345624805922)=true:=decide_eq_true c3
  clear c3
  obtain ⟨y56001,hy56001⟩:∃ y_:List (S67),y_=(List.replicate ((l0.length:Int):Int).toNat z67):=⟨_,rfl⟩
  replace H:(laws_toConstraintS.l0 k l0 y56001 0)=some r:=by first|(rw [hy56001];with_reducible exact H)|(have H2_:=(Option.bind_some _ _).symm.trans H;rw [hy56001];with_reducible exact H2_)|(have H2_:=(Option.bind_some _ _).symm.trans H;with_reducible exact H2_)|with_reducible exact H|(rw [hy56001];exact H)|exact H
  have Ny56001:=zk hy56001
  clear hy56001
  have H':=zk H
  clear H
  go_enter Tryz.func56,Tryz.ntmps56
  go_wp2_with (first|((with_reducible refine gate_dst (N:=7) rfl ?_);refine Kd.R_make k67 _ 67 rfl (N:=7) rfl 24 _ _ rfl (l0.length:Int) rfl rfl Tryz.underlying24 (.agg #[(.int .i64 0),(.string ⟨#[]⟩),(.string ⟨#[]⟩),(.int .i64 0),(.string ⟨#[]⟩),(.slice none 0 0),(.slice none 0 0),(.int .i64 0)]) 120 info67 rfl (by decide) (by omega) z67 (ok:=fun _=>True) (okp:=fun _=>True) (k67_mkM _ _ _ z67 (Kd.R_nil _ _ _ _ _) (Kd.R_nil _ _ _ _ _)) (fun _ hk=>hk) trivial (of_decide_eq_true za8) (Nat.le_trans (Nat.mul_le_mul_right _ (of_decide_eq_true za8:(l0.length:Int).toNat≤2345624805922)) (by omega)) (Below.refl _ _) (Nat.le_refl _) ?_;intro v56002 w4 ho5 hb hg_ hnew_;clear hg_ hnew_;(first|rw [← Ny56001.out] at ho5|(simp only [Int.reduceToNat] at ho5;rw [← Ny56001.out] at ho5));have n0_:=zk (Kd.R_lower ho5 (below_size za3));have n1_:=zk (below_step za3 hb);clear HB;have HO56003:=n0_;have HB:=n1_;clear n0_ n1_;clear hb ho5))
  first|go_loopg [4] k (fun kq v4 w'=>∃ (x3_1:List (S67)) (x4_1:Int),v4 = .int .i64 x4_1∧Aside0 (laws_toConstraintS.l0 kq l0 x3_1 x4_1=some r)∧Aside0 (kq≤k)∧Aside0 (Kd.R k67 67 w' w.heap.size (fun _=>True) v56002 x3_1)∧Aside0 (Below w.heap.size w w'))|(simp only [Act.put,zt,zv,zu];go_loopg [4] k (fun kq v4 w'=>∃ (x3_1:List (S67)) (x4_1:Int),v4 = .int .i64 x4_1∧Aside0 (laws_toConstraintS.l0 kq l0 x3_1 x4_1=some r)∧Aside0 (kq≤k)∧Aside0 (Kd.R k67 67 w' w.heap.size (fun _=>True) v56002 x3_1)∧Aside0 (Below w.heap.size w w')))
  case atStart=>exact ⟨(y56001),(0),za7,H',⟨Nat.le_refl _⟩,⟨za0 HO56003.out⟩,⟨za3⟩⟩
  case round =>
   clear H'
   try clear c3
   try clear c3b0
   try clear c3b1
   obtain ⟨x3_1,x4_1,rfl,HA,HK1,HO_3,HB⟩:=hrel
   cases gk with
   | zero=>exact absurd HA.out (by simp [laws_toConstraintS.l0])
   | succ k1 =>
    have H:=HA.out
    clear HA
    simp only [laws_toConstraintS.l0] at H
    by_cases c6:x4_1 < (l0.length:Int)
    rw [if_pos c6] at H
    have c6b0:decide (x4_1 < (l0.length:Int))=true:=decide_eq_true c6
    clear c6
    by_cases c7:0≤x4_1
    rw [if_pos c7] at H
    have c7b0:decide (0≤x4_1)=true:=decide_eq_true c7
    clear c7
    replace H:=zo H
    obtain ⟨⟨t56005,t56006,t56007,t56008,t56009,t56010,t56013,t56016⟩,A80,H⟩:=H
    replace H:(if x4_1 < (x3_1.length:Int) then (laws_toConstraintS.l0 k1 l0 (x3_1.set (x4_1:Int).toNat (⟨t56005,t56006,t56007,(⟨t56008,t56009,t56010⟩:S65),t56013,t56016⟩:S67)) (wrap64 (x4_1+1))) else (none))=some r:=H
    have A8:=zk A80
    clear A80
    by_cases c9:x4_1 < (x3_1.length:Int)
    ·rw [if_pos c9] at H
     have c9b0:decide (x4_1 < (x3_1.length:Int))=true:=decide_eq_true c9
     clear c9
     obtain ⟨y56017,hy56017⟩:∃ y_:List (S67),y_=(x3_1.set (x4_1:Int).toNat (⟨t56005,t56006,t56007,(⟨t56008,t56009,t56010⟩:S65),t56013,t56016⟩:S67)):=⟨_,rfl⟩
     replace H:(laws_toConstraintS.l0 k1 l0 y56017 (wrap64 (x4_1+1)))=some r:=by first|(rw [hy56017];with_reducible exact H)|(have H2_:=(Option.bind_some _ _).symm.trans H;rw [hy56017];with_reducible exact H2_)|(have H2_:=(Option.bind_some _ _).symm.trans H;with_reducible exact H2_)|with_reducible exact H|(rw [hy56017];exact H)|exact H
     have Ny56017:=zk hy56017
     clear hy56017
     have H':=zk H
     clear H
     have p56004:0≤(x4_1:Int):=of_decide_eq_true za8
     have q56004:x4_1 < (l0.length:Int):=of_decide_eq_true za8
     obtain ⟨ad56004,A56004_5,c56004_5,A56004_6,c56004_6,e56004,hx56004_0,hx56004_1,hx56004_2,hx56004_3,hx56004_4,hx56004_5,hx56004_6,hx56004_7,hl56004_5,hi56004_5,hl56004_6,hi56004_6⟩:=at_T103 HR0.out x4_1 p56004 q56004
     cases e56004
     replace hx56004_0:=zx HB.out hx56004_0
     replace hx56004_1:=zx HB.out hx56004_1
     replace hx56004_2:=zx HB.out hx56004_2
     replace hx56004_3:=zx HB.out hx56004_3
     replace hx56004_4:=zx HB.out hx56004_4
     replace hx56004_5:=zx HB.out hx56004_5
     replace hx56004_6:=zx HB.out hx56004_6
     replace hx56004_7:=zx HB.out hx56004_7
     have HR56004_5:=zk hi56004_5
     have HC56004_5:=zk hl56004_5
     clear hi56004_5 hl56004_5
     have HR56004_6:=zk hi56004_6
     have HC56004_6:=zk hl56004_6
     clear hi56004_6 hl56004_6
     replace p56004:=eq_true p56004
     replace q56004:=eq_true q56004
     go_wp2_with (first|((with_reducible refine gate_callee (f:=86) rfl ?_);refine goesL_ (some 20) rfl rfl Tryz.func86 (by kernel_rfl) rfl #[.agg #[.int .i64 ((rd_T103 l0 x4_1).f0),.string ((rd_T103 l0 x4_1).f1),.string ((rd_T103 l0 x4_1).f2),.int .i64 ((rd_T103 l0 x4_1).f3.f0),.string ((rd_T103 l0 x4_1).f3.f1),.slice A56004_5 ((rd_T103 l0 x4_1).f3.f2).length c56004_5,.slice A56004_6 ((rd_T103 l0 x4_1).f4).length c56004_6,.int .i64 ((rd_T103 l0 x4_1).f5)]] rfl za4 ?_;(with_reducible refine (laws_toConstraint.calls k1 ((rd_T103 l0 x4_1).f0) ((rd_T103 l0 x4_1).f1) ((rd_T103 l0 x4_1).f2) ((rd_T103 l0 x4_1).f3.f0) ((rd_T103 l0 x4_1).f3.f1) _ _ ((rd_T103 l0 x4_1).f3.f2) _ _ ((rd_T103 l0 x4_1).f4) ((rd_T103 l0 x4_1).f5) t56005 t56006 t56007 t56008 t56009 t56010 t56013 t56016 _ ?side1 ?side2 ?side3 ?side4 A8.out).mono ?_);(case side1=>repeat (first|exact (Kd.C_below HR56004_5.out HB.out)|(with_reducible refine Kd.C_alloc ?_ _)|(with_reducible refine Kd.C_drewN ?_ _)|(with_reducible refine Kd.C_drew ?_)));(case side2=>exact HC56004_5.out);(case side3=>repeat (first|exact (Kd.C_below HR56004_6.out HB.out)|(with_reducible refine Kd.C_alloc ?_ _)|(with_reducible refine Kd.C_drewN ?_ _)|(with_reducible refine Kd.C_drew ?_)));(case side4=>exact HC56004_6.out);rintro e w11 ⟨v56011,v56014,rfl,ho0,ho1,hb⟩;refine ⟨_,rfl,?_⟩;have n0_:=zk (Kd.R_mono (Kd.R_told (Kd.R_told (Kd.R_old (za0 HO_3.out) hb) (Kd.R_base ho0)) (Kd.R_base ho1)) (fun _ h_=>h_.1));have n1_:=zk (Kd.R_lower ho0 (below_size za3));have n2_:=zk (Kd.R_lower ho1 (below_size za3));have n3_:=zk (below_step za3 hb);clear HO_3;clear HB;have HO_3:=n0_;have HO56012:=n1_;have HO56015:=n2_;have HB:=n3_;clear n0_ n1_ n2_ n3_;(try clear hb);(try clear hb2);(try clear hk);(try clear hi);(try clear ho0);(try clear ho1);have p10:0≤(x4_1:Int):=of_decide_eq_true za8;have q10:(x4_1:Int) < ((x3_1.length:Int):Int):=of_decide_eq_true za8;obtain ⟨go10,co10,eo10,gb10,gl10,cl10,HG10⟩:=Kd.R_form HO_3.out (by omega);(first|cases eo10|(injection eo10 with ea_ en_ ec_;(first|subst ea_|(injection ea_ with ea_;subst ea_));subst ec_;clear en_));have GB10:=zk gb10;have GG10:=zk HG10;clear gb10 gl10 HG10;obtain ⟨ce10,hcl10,hM10,hcc10,hfr10⟩:=Kd.R_elem HO_3.out z67 (x4_1:Int) p10 q10;obtain ⟨ve10_5,ve10_6,rfl,ge10_5,ge10_6⟩:=k67_openM hM10;have hx10_0:w11.cell? ⟨go10,(x4_1:Int).toNat * 8,none⟩=some (.int .i64 ((rd_T67 x3_1 x4_1).f0)):=hcc10 0 _ rfl;have hx10_1:w11.cell? ⟨go10,(x4_1:Int).toNat * 8+1,none⟩=some (.string ((rd_T67 x3_1 x4_1).f1)):=hcc10 1 _ rfl;have hx10_2:w11.cell? ⟨go10,(x4_1:Int).toNat * 8+2,none⟩=some (.string ((rd_T67 x3_1 x4_1).f2)):=hcc10 2 _ rfl;have hx10_3:w11.cell? ⟨go10,(x4_1:Int).toNat * 8+3,none⟩=some (.int .i64 ((rd_T67 x3_1 x4_1).f3.f0)):=hcc10 3 _ rfl;have hx10_4:w11.cell? ⟨go10,(x4_1:Int).toNat * 8+4,none⟩=some (.string ((rd_T67 x3_1 x4_1).f3.f1)):=hcc10 4 _ rfl;have hx10_5:w11.cell? ⟨go10,(x4_1:Int).toNat * 8+5,none⟩=some (ve10_5):=hcc10 5 _ rfl;have hx10_6:w11.cell? ⟨go10,(x4_1:Int).toNat * 8+6,none⟩=some (ve10_6):=hcc10 6 _ rfl;have hx10_7:w11.cell? ⟨go10,(x4_1:Int).toNat * 8+7,none⟩=some (.int .i64 ((rd_T67 x3_1 x4_1).f5)):=hcc10 7 _ rfl;have hf10_0:w11.frozen? ⟨go10,(x4_1:Int).toNat * 8,none⟩=false:=hfr10 0;have hf10_1:w11.frozen? ⟨go10,(x4_1:Int).toNat * 8+1,none⟩=false:=hfr10 1;have hf10_2:w11.frozen? ⟨go10,(x4_1:Int).toNat * 8+2,none⟩=false:=hfr10 2;have hf10_3:w11.frozen? ⟨go10,(x4_1:Int).toNat * 8+3,none⟩=false:=hfr10 3;have hf10_4:w11.frozen? ⟨go10,(x4_1:Int).toNat * 8+4,none⟩=false:=hfr10 4;have hf10_5:w11.frozen? ⟨go10,(x4_1:Int).toNat * 8+5,none⟩=false:=hfr10 5;have hf10_6:w11.frozen? ⟨go10,(x4_1:Int).toNat * 8+6,none⟩=false:=hfr10 6;have hf10_7:w11.frozen? ⟨go10,(x4_1:Int).toNat * 8+7,none⟩=false:=hfr10 7;clear hcl10 hcc10 hfr10;(try clear hM10);replace p10:=eq_true p10;replace q10:=eq_true q10;have n_:=zk (Kd.R_mono (ok':=(fun k_=>some k_ ≠ (v56011:Value).ownBlock∧some k_ ≠ (v56014:Value).ownBlock)) HO_3.out (fun k_ hk=>⟨hk.1.2,hk.2⟩));clear HO_3;have HO_3:=n_;clear n_;have HX12:=zk (show Kd.R k67 67 w11 w.heap.size (fun _=>True) (.slice (some ⟨go10,0,none⟩) x3_1.length co10) x3_1 from (by (with_reducible repeat (first|apply Kd.R_alloc|apply Kd.R_drewN|apply Kd.R_drew));exact Kd.R_mono HO_3.out (fun _ hk=>trivial)));obtain ⟨ce12,hcl12,hM12,hcc12,hfr12⟩:=Kd.R_elem HX12.out z67 (x4_1:Int) (of_decide_eq_true za8) (by have h_:(x4_1:Int) < ((x3_1.length:Int):Int):=of_decide_eq_true za8;first|exact h_|(have e_:=(Kd.R_reads' HO_3.out).1;omega)|simpa using h_);obtain ⟨ve12_5,ve12_6,rfl,ge12_5,ge12_6⟩:=k67_openM hM12;have HP12:=Kd.R_seg HX12.out (x4_1:Int) (of_decide_eq_true za8) (by have h_:(x4_1:Int) < ((x3_1.length:Int):Int):=of_decide_eq_true za8;first|exact h_|(have e_:=(Kd.R_reads' HO_3.out).1;omega)|simpa using h_) (seg:=[.int .i64 t56005,.string t56006,.string t56007,.int .i64 t56008,.string t56009,v56011,v56014,.int .i64 t56016]) (j:=0) hcl12 hcc12 (show 8≤8 from by decide) (x':=(⟨t56005,t56006,t56007,(⟨t56008,t56009,t56010⟩:S65),t56013,t56016⟩:S67)) (k67_mkM _ _ _ (⟨t56005,t56006,t56007,(⟨t56008,t56009,t56010⟩:S65),t56013,t56016⟩:S67) (Kd.R_mono (Kd.R_apart' (HO56012.out) (Kd.R_typed HO_3.out) (by decide)) (fun k_ hk=>⟨trivial,fun e_=>(hk.2) (by rw [e_];rfl)⟩)) (Kd.R_mono (Kd.R_apart' (HO56015.out) (Kd.R_typed HO_3.out) (by decide)) (fun k_ hk=>⟨trivial,fun e_=>(hk.2) (by rw [e_];rfl)⟩))) (fun _ hk=>hk);have hx12_0:=hcc12 0 _ rfl;(try simp only [show (k67).sz=8 from rfl,Nat.mul_one,Nat.add_zero] at hx12_0);have hf12_0:=hfr12 0;(try simp only [show (k67).sz=8 from rfl,Nat.mul_one,Nat.add_zero] at hf12_0);have hx12_1:=hcc12 1 _ rfl;(try simp only [show (k67).sz=8 from rfl,Nat.mul_one,Nat.add_zero] at hx12_1);have hf12_1:=hfr12 1;(try simp only [show (k67).sz=8 from rfl,Nat.mul_one,Nat.add_zero] at hf12_1);have hx12_2:=hcc12 2 _ rfl;(try simp only [show (k67).sz=8 from rfl,Nat.mul_one,Nat.add_zero] at hx12_2);have hf12_2:=hfr12 2;(try simp only [show (k67).sz=8 from rfl,Nat.mul_one,Nat.add_zero] at hf12_2);have hx12_3:=hcc12 3 _ rfl;(try simp only [show (k67).sz=8 from rfl,Nat.mul_one,Nat.add_zero] at hx12_3);have hf12_3:=hfr12 3;(try simp only [show (k67).sz=8 from rfl,Nat.mul_one,Nat.add_zero] at hf12_3);have hx12_4:=hcc12 4 _ rfl;(try simp only [show (k67).sz=8 from rfl,Nat.mul_one,Nat.add_zero] at hx12_4);have hf12_4:=hfr12 4;(try simp only [show (k67).sz=8 from rfl,Nat.mul_one,Nat.add_zero] at hf12_4);have hx12_5:=hcc12 5 _ rfl;(try simp only [show (k67).sz=8 from rfl,Nat.mul_one,Nat.add_zero] at hx12_5);have hf12_5:=hfr12 5;(try simp only [show (k67).sz=8 from rfl,Nat.mul_one,Nat.add_zero] at hf12_5);have hx12_6:=hcc12 6 _ rfl;(try simp only [show (k67).sz=8 from rfl,Nat.mul_one,Nat.add_zero] at hx12_6);have hf12_6:=hfr12 6;(try simp only [show (k67).sz=8 from rfl,Nat.mul_one,Nat.add_zero] at hf12_6);have hx12_7:=hcc12 7 _ rfl;(try simp only [show (k67).sz=8 from rfl,Nat.mul_one,Nat.add_zero] at hx12_7);have hf12_7:=hfr12 7;(try simp only [show (k67).sz=8 from rfl,Nat.mul_one,Nat.add_zero] at hf12_7);clear hcl12 hcc12 hfr12;(try clear hM12))|((with_reducible refine gate_store (t:=67) (p:=21) rfl ?_);refine store_event (t:=67) (p:=21) (v:=?vo_w13) (w1:=((((((((w11.setCell ⟨go10,(x4_1:Int).toNat * 8,none⟩ (.int .i64 t56005)).setCell ⟨go10,(x4_1:Int).toNat * 8+1,none⟩ (.string t56006)).setCell ⟨go10,(x4_1:Int).toNat * 8+2,none⟩ (.string t56007)).setCell ⟨go10,(x4_1:Int).toNat * 8+3,none⟩ (.int .i64 t56008)).setCell ⟨go10,(x4_1:Int).toNat * 8+4,none⟩ (.string t56009)).setCell ⟨go10,(x4_1:Int).toNat * 8+5,none⟩ (v56011)).setCell ⟨go10,(x4_1:Int).toNat * 8+6,none⟩ (v56014)).setCell ⟨go10,(x4_1:Int).toNat * 8+7,none⟩ (.int .i64 t56016))) ?hg ?ho ?hn ?hr ?_;(case ho=>rfl);(case hg=>rfl);(case hn=>rfl);(case hr=>first|(go_simp;done)|(go_simp;rfl)|(obtain ⟨sA_,sc_,se_⟩:=Kd.R_slice HO56012.out;subst se_;first|(go_simp;done)|(go_simp;rfl))|(obtain ⟨sA_,sc_,se_⟩:=Kd.R_slice HO56015.out;subst se_;first|(go_simp;done)|(go_simp;rfl))|(obtain ⟨sA0_,sc0_,se0_⟩:=Kd.R_slice HO56012.out;subst se0_;obtain ⟨sA1_,sc1_,se1_⟩:=Kd.R_slice HO56015.out;subst se1_;first|(go_simp;done)|(go_simp;rfl)));intro w13 hw;have hg:w11.grownBy w13 (some go10):=(by rw [hw];exact HP12.2);have hp_:Kd.R k67 67 w13 w.heap.size (fun _=>True) (.slice (some ⟨go10,0,none⟩) x3_1.length co10) y56017:=(by rw [hw,Ny56017.out];exact HP12.1);clear HP12;have n0_:=zk (hp_);have n1_:=zk ((by rw [hw];exact below_set (below_set (below_set (below_set (below_set (below_set (below_set (below_set (HB.out) GB10.out) GB10.out) GB10.out) GB10.out) GB10.out) GB10.out) GB10.out) GB10.out:Below w.heap.size w w13));clear HO_3;clear HB;clear HO56012;clear HO56015;have HO_3:=n0_;have HB:=n1_;clear n0_ n1_;clear hg hw hp_))
     go_roundg k1
     case measure=>have:=HK1.out;omega
     case rel=>exact ⟨(y56017),(wrap64 (x4_1+1)),za7,H',⟨za15⟩,⟨za0 HO_3.out⟩,⟨za3⟩⟩
    ·rw [if_neg c9] at H
     exact absurd H (by simp)
    ·rw [if_neg c7] at H
     exact absurd H (by simp)
    ·rw [if_neg c6] at H
     have c6b0:decide (x4_1 < (l0.length:Int))=false:=decide_eq_false c6
     clear c6
     obtain rfl:=zi H
     go_wp2
     go_ret
     exact ⟨_,za6,za0 HO_3.out,za3⟩
 ·rw [if_neg c3] at H
  exact absurd H (by simp)
 ·rw [if_neg c2] at H
  exact absurd H (by simp)
def laws_eqConstraint.f (k:Nat) (a0_0:Int) (a0_1:ByteArray) (a0_2:ByteArray) (a0_3:Int) (a0_4:ByteArray) (l0_5:List (S65)) (l0_6:List Int) (a0_7:Int) (a1_0:Int) (a1_1:ByteArray) (a1_2:ByteArray) (a1_3:Int) (a1_4:ByteArray) (l1_5:List (S65)) (l1_6:List Int) (a1_7:Int):Option (Bool):=if a0_0=a1_0 then (if a0_1.toList=a1_1.toList then (if a0_2.toList=a1_2.toList then ((laws_eqRegex.f k a0_3 a0_4 l0_5 a1_3 a1_4 l1_5).bind fun t87003=>(if t87003=true then ((laws_eqIntS.f k l0_6 l1_6).bind fun t87004=>(if t87004=true then (if a0_7=a1_7 then (some true) else (some false)) else (some false))) else (some false))) else (some false)) else (some false)) else (some false)
theorem laws_eqConstraint.mono:∀ a0 a1 a2 a3 a4 a5 a6 a7 a8 a9 a10 a11 a12 a13 a14 a15 k,LeO (laws_eqConstraint.f k a0 a1 a2 a3 a4 a5 a6 a7 a8 a9 a10 a11 a12 a13 a14 a15) (laws_eqConstraint.f (k+1) a0 a1 a2 a3 a4 a5 a6 a7 a8 a9 a10 a11 a12 a13 a14 a15):=by
 intro a0 a1 a2 a3 a4 a5 a6 a7 a8 a9 a10 a11 a12 a13 a14 a15 k
 unfold laws_eqConstraint.f
 repeat' first
  | with_reducible first|exact laws_eqIntS.mono _ _ _|exact laws_eqRegex.mono _ _ _ _ _ _ _|exact LeO.refl _|exact LeO.none _|refine LeO.ite ?_ ?_|refine LeO.bind ?_ (fun _=>?_)
theorem laws_eqConstraint.calls (k:Nat) (a0_0:Int) (a0_1:ByteArray) (a0_2:ByteArray) (a0_3:Int) (a0_4:ByteArray) (A0_5:Option Addr) (c0_5:Nat) (l0_5:List (S65)) (A0_6:Option Addr) (c0_6:Nat) (l0_6:List Int) (a0_7:Int) (a1_0:Int) (a1_1:ByteArray) (a1_2:ByteArray) (a1_3:Int) (a1_4:ByteArray) (A1_5:Option Addr) (c1_5:Nat) (l1_5:List (S65)) (A1_6:Option Addr) (c1_6:Nat) (l1_6:List Int) (a1_7:Int) (r:Bool) (w:World) (hr0_5:Kd.C k65 w A0_5 l0_5.length l0_5) (hc0_5:l0_5.length≤c0_5) (hr0_6:Kd.C (Kd.int .i64) w A0_6 l0_6.length l0_6) (hc0_6:l0_6.length≤c0_6) (hr1_5:Kd.C k65 w A1_5 l1_5.length l1_5) (hc1_5:l1_5.length≤c1_5) (hr1_6:Kd.C (Kd.int .i64) w A1_6 l1_6.length l1_6) (hc1_6:l1_6.length≤c1_6) (h:laws_eqConstraint.f k a0_0 a0_1 a0_2 a0_3 a0_4 l0_5 l0_6 a0_7 a1_0 a1_1 a1_2 a1_3 a1_4 l1_5 l1_6 a1_7=some r) :
   Calls Tryz.prog 87 #[.agg #[.int .i64 a0_0,.string a0_1,.string a0_2,.int .i64 a0_3,.string a0_4,.slice A0_5 l0_5.length c0_5,.slice A0_6 l0_6.length c0_6,.int .i64 a0_7],.agg #[.int .i64 a1_0,.string a1_1,.string a1_2,.int .i64 a1_3,.string a1_4,.slice A1_5 l1_5.length c1_5,.slice A1_6 l1_6.length c1_6,.int .i64 a1_7]] w fun e w'=>e = .returned (.bool r)∧Below w.heap.size w w':=by
 have hu67:=Tryz.underlying67
 have hu65:=Tryz.underlying65
 have HR0_5:=zk hr0_5
 have HC0_5:=zk hc0_5
 clear hr0_5 hc0_5
 have HR0_6:=zk hr0_6
 have HC0_6:=zk hc0_6
 clear hr0_6 hc0_6
 have HR1_5:=zk hr1_5
 have HC1_5:=zk hc1_5
 clear hr1_5 hc1_5
 have HR1_6:=zk hr1_6
 have HC1_6:=zk hc1_6
 clear hr1_6 hc1_6
 have HB:=zk (Below.refl w.heap.size w)
 have H:(if a0_0=a1_0 then (if a0_1.toList=a1_1.toList then (if a0_2.toList=a1_2.toList then ((laws_eqRegex.f k a0_3 a0_4 l0_5 a1_3 a1_4 l1_5).bind fun t87003=>(if t87003=true then ((laws_eqIntS.f k l0_6 l1_6).bind fun t87004=>(if t87004=true then (if a0_7=a1_7 then (some true) else (some false)) else (some false))) else (some false))) else (some false)) else (some false)) else (some false))=some r:=h
 clear h
 by_cases c3:a0_0=a1_0
 rw [if_pos c3] at H
 have c3b0:(a0_0 == a1_0)=true:=beq_iff_eq.mpr c3
 have c3b1:(a0_0 != a1_0)=false:=bne_eq_false_iff_eq.mpr c3
 clear c3
 by_cases c4:a0_1.toList=a1_1.toList
 rw [if_pos c4] at H
 have c4b0:(a0_1.toList == a1_1.toList)=true:=beq_iff_eq.mpr c4
 have c4b1:(a0_1.toList != a1_1.toList)=false:=bne_eq_false_iff_eq.mpr c4
 clear c4
 by_cases c5:a0_2.toList=a1_2.toList
 rw [if_pos c5] at H
 have c5b0:(a0_2.toList == a1_2.toList)=true:=beq_iff_eq.mpr c5
 have c5b1:(a0_2.toList != a1_2.toList)=false:=bne_eq_false_iff_eq.mpr c5
 clear c5
 replace H:=zo H
 obtain ⟨t87003,A60,H⟩:=H
 replace H:(if t87003=true then ((laws_eqIntS.f k l0_6 l1_6).bind fun t87004=>(if t87004=true then (if a0_7=a1_7 then (some true) else (some false)) else (some false))) else (some false))=some r:=H
 have A6:=zk A60
 clear A60
 by_cases c7:t87003=true
 subst c7
 have H1:((laws_eqIntS.f k l0_6 l1_6).bind fun t87004=>(if t87004=true then (if a0_7=a1_7 then (some true) else (some false)) else (some false)))=some r:=by rw [if_pos rfl] at H;exact H
 clear H
 have H:=H1
 clear H1
 replace H:=zo H
 obtain ⟨t87004,A80,H⟩:=H
 replace H:(if t87004=true then (if a0_7=a1_7 then (some true) else (some false)) else (some false))=some r:=H
 have A8:=zk A80
 clear A80
 by_cases c9:t87004=true
 subst c9
 have H1:(if a0_7=a1_7 then (some true) else (some false))=some r:=by rw [if_pos rfl] at H;exact H
 clear H
 have H:=H1
 clear H1
 by_cases c10:a0_7=a1_7
 rw [if_pos c10] at H
 have c10b0:(a0_7 == a1_7)=true:=beq_iff_eq.mpr c10
 have c10b1:(a0_7 != a1_7)=false:=bne_eq_false_iff_eq.mpr c10
 clear c10
 rotate_left
 rw [if_neg c10] at H
 have c10b0:(a0_7 == a1_7)=false:=beq_eq_false_iff_ne.mpr c10
 have c10b1:(a0_7 != a1_7)=true:=bne_iff_ne.mpr c10
 rotate_left
 replace c9:=Bool.eq_false_iff.mpr c9
 subst c9
 have H1:(some false)=some r:=by rw [if_neg (show ¬ (false=true) by decide)] at H;exact H
 clear H
 have H:=H1
 clear H1
 rotate_left
 replace c7:=Bool.eq_false_iff.mpr c7
 subst c7
 have H1:(some false)=some r:=by rw [if_neg (show ¬ (false=true) by decide)] at H;exact H
 clear H
 have H:=H1
 clear H1
 rotate_left
 rw [if_neg c5] at H
 have c5b0:(a0_2.toList == a1_2.toList)=false:=beq_eq_false_iff_ne.mpr c5
 have c5b1:(a0_2.toList != a1_2.toList)=true:=bne_iff_ne.mpr c5
 rotate_left
 rw [if_neg c4] at H
 have c4b0:(a0_1.toList == a1_1.toList)=false:=beq_eq_false_iff_ne.mpr c4
 have c4b1:(a0_1.toList != a1_1.toList)=true:=bne_iff_ne.mpr c4
 rotate_left
 rw [if_neg c3] at H
 have c3b0:(a0_0 == a1_0)=false:=beq_eq_false_iff_ne.mpr c3
 have c3b1:(a0_0 != a1_0)=true:=bne_iff_ne.mpr c3
 rotate_left
 all_goals
  obtain rfl:=zi H
  go_enter Tryz.func87,Tryz.ntmps87
  go_wp2_with (first|((with_reducible refine gate_dst (N:=2) rfl ?_);refine zE (N:=2) (cs:=#[.int .i64 a0_0,.string a0_1,.string a0_2,.int .i64 a0_3,.string a0_4,.slice A0_5 l0_5.length c0_5,.slice A0_6 l0_6.length c0_6,.int .i64 a0_7]) (t:=67) ?_;intro gb87001 hg w11 hbox hb;have n0_:=zk (below_step za3 hb);have n1_:=zk (hbox);have n2_:=zk (zs (w:=w) hg za3);have n3_:=zk (zs (w:=w) hg za3);clear HB;have HB:=n0_;have BK87001:=n1_;have GW87001:=n2_;have GE87001:=n3_;clear n0_ n1_ n2_ n3_;clear hb hbox hg)|((with_reducible refine gate_dst (N:=3) rfl ?_);refine zE (N:=3) (cs:=#[.int .i64 a1_0,.string a1_1,.string a1_2,.int .i64 a1_3,.string a1_4,.slice A1_5 l1_5.length c1_5,.slice A1_6 l1_6.length c1_6,.int .i64 a1_7]) (t:=67) ?_;intro gb87002 hg w12 hbox hb;have n0_:=zk (zb BK87001.out hb);have n1_:=zk (below_step za3 hb);have n2_:=zk (hbox);have n3_:=zk (zs (w:=w) hg za3);have n4_:=zk (zs (w:=w) hg za3);have n5_:=zk ((by rw [hg];exact Nat.ne_of_lt (zl BK87001.out):gb87001 ≠ gb87002));have n6_:=zk ((by rw [hg];exact Nat.ne_of_gt (zl BK87001.out):gb87002 ≠ gb87001));clear BK87001;clear HB;have BK87001:=n0_;have HB:=n1_;have BK87002:=n2_;have GW87002:=n3_;have GE87002:=n4_;have NB87001_87002:=n5_;have NB87002_87001:=n6_;clear n0_ n1_ n2_ n3_ n4_ n5_ n6_;clear hb hbox hg;have hnb13:=NB87001_87002.out;have hnc13:=NB87002_87001.out;obtain ⟨hcz14_0,hcz14_1,hcz14_2,hcz14_3,hcz14_4,hcz14_5,hcz14_6,hcz14_7,hfz14_0,hfz14_1,hfz14_2,hfz14_3,hfz14_4,hfz14_5,hfz14_6,hfz14_7⟩:=blk8 BK87001.out;obtain ⟨hcz15_0,hcz15_1,hcz15_2,hcz15_3,hcz15_4,hcz15_5,hcz15_6,hcz15_7,hfz15_0,hfz15_1,hfz15_2,hfz15_3,hfz15_4,hfz15_5,hfz15_6,hfz15_7⟩:=blk8 BK87002.out)|((with_reducible refine gate_callee (f:=122) rfl ?_);refine goesL_ (some 24) rfl rfl Tryz.func122 (by kernel_rfl) rfl #[.agg #[.int .i64 a0_3,.string a0_4,.slice A0_5 l0_5.length c0_5],.agg #[.int .i64 a1_3,.string a1_4,.slice A1_5 l1_5.length c1_5]] rfl za4 ?_;(with_reducible refine (laws_eqRegex.calls k a0_3 a0_4 _ _ l0_5 a1_3 a1_4 _ _ l1_5 _ _ ?side1 ?side2 ?side3 ?side4 A6.out).mono ?_);(case side1=>repeat (first|exact (Kd.C_below HR0_5.out HB.out)|(with_reducible refine Kd.C_alloc ?_ _)|(with_reducible refine Kd.C_drewN ?_ _)|(with_reducible refine Kd.C_drew ?_)));(case side2=>exact HC0_5.out);(case side3=>repeat (first|exact (Kd.C_below HR1_5.out HB.out)|(with_reducible refine Kd.C_alloc ?_ _)|(with_reducible refine Kd.C_drewN ?_ _)|(with_reducible refine Kd.C_drew ?_)));(case side4=>exact HC1_5.out);rintro e w16 ⟨rfl,hb⟩;refine ⟨_,rfl,?_⟩;have n0_:=zk (zb BK87001.out hb);have n1_:=zk (zb BK87002.out hb);have n2_:=zk (below_step za3 hb);clear BK87001;clear BK87002;clear HB;have BK87001:=n0_;have BK87002:=n1_;have HB:=n2_;clear n0_ n1_ n2_;(try clear hb);(try clear hb2);(try clear hk);(try clear hi);obtain ⟨hcz17_0,hcz17_1,hcz17_2,hcz17_3,hcz17_4,hcz17_5,hcz17_6,hcz17_7,hfz17_0,hfz17_1,hfz17_2,hfz17_3,hfz17_4,hfz17_5,hfz17_6,hfz17_7⟩:=blk8 BK87001.out;obtain ⟨hcz18_0,hcz18_1,hcz18_2,hcz18_3,hcz18_4,hcz18_5,hcz18_6,hcz18_7,hfz18_0,hfz18_1,hfz18_2,hfz18_3,hfz18_4,hfz18_5,hfz18_6,hfz18_7⟩:=blk8 BK87002.out)|((with_reducible refine gate_callee (f:=123) rfl ?_);refine goesL_ (some 30) rfl rfl Tryz.func123 (by kernel_rfl) rfl #[.slice A0_6 l0_6.length c0_6,.slice A1_6 l1_6.length c1_6] rfl za4 ?_;(with_reducible refine (laws_eqIntS.calls k _ _ l0_6 _ _ l1_6 _ _ ?side1 ?side2 ?side3 ?side4 A8.out).mono ?_);(case side1=>repeat (first|exact (Kd.C_below HR0_6.out HB.out)|(with_reducible refine Kd.C_alloc ?_ _)|(with_reducible refine Kd.C_drewN ?_ _)|(with_reducible refine Kd.C_drew ?_)));(case side2=>exact HC0_6.out);(case side3=>repeat (first|exact (Kd.C_below HR1_6.out HB.out)|(with_reducible refine Kd.C_alloc ?_ _)|(with_reducible refine Kd.C_drewN ?_ _)|(with_reducible refine Kd.C_drew ?_)));(case side4=>exact HC1_6.out);rintro e w' ⟨rfl,⟨nd,rfl⟩⟩;refine ⟨_,rfl,?_⟩))
  go_ret
  exact ⟨za6,za3⟩
def laws_eqConstraintS.l0:Nat→List (S67)→List (S67)→Int→Option (Bool)
 | 0,_,_,_=>none
 | k+1,x0,x1,x5=>if x5 < (x0.length:Int) then (if 0≤x5 then (if x5 < (x1.length:Int) then ((laws_eqConstraint.f k ((rd_T67 x0 x5).f0) ((rd_T67 x0 x5).f1) ((rd_T67 x0 x5).f2) ((rd_T67 x0 x5).f3.f0) ((rd_T67 x0 x5).f3.f1) ((rd_T67 x0 x5).f3.f2) ((rd_T67 x0 x5).f4) ((rd_T67 x0 x5).f5) ((rd_T67 x1 x5).f0) ((rd_T67 x1 x5).f1) ((rd_T67 x1 x5).f2) ((rd_T67 x1 x5).f3.f0) ((rd_T67 x1 x5).f3.f1) ((rd_T67 x1 x5).f3.f2) ((rd_T67 x1 x5).f4) ((rd_T67 x1 x5).f5)).bind fun t57003=>(if t57003=true then (laws_eqConstraintS.l0 k x0 x1 (wrap64 (x5+1))) else (some false))) else (none)) else (none)) else (some true)
def laws_eqConstraintS.f (k:Nat) (l0:List (S67)) (l1:List (S67)):Option (Bool):=if (l0.length:Int)=(l1.length:Int) then (laws_eqConstraintS.l0 k l0 l1 0) else (some false)
theorem laws_eqConstraintS.mono_l:∀ k,(∀ y0 y1 y2,LeO (laws_eqConstraintS.l0 k y0 y1 y2) (laws_eqConstraintS.l0 (k+1) y0 y1 y2))
 | 0=>fun _ _ _ r h=>by simp [laws_eqConstraintS.l0] at h
 | k+1=>by
  have ih0:=laws_eqConstraintS.mono_l k
  ·intro y0 y1 y2
   unfold laws_eqConstraintS.l0
   repeat' first
   | with_reducible first|exact ih0 _ _ _|exact laws_eqConstraint.mono _ _ _ _ _ _ _ _ _ _ _ _ _ _ _ _ _|exact LeO.refl _|exact LeO.none _|refine LeO.ite ?_ ?_|refine LeO.bind ?_ (fun _=>?_)
theorem laws_eqConstraintS.mono:∀ a0 a1 k,LeO (laws_eqConstraintS.f k a0 a1) (laws_eqConstraintS.f (k+1) a0 a1):=by
 intro a0 a1 k
 have ih0:=laws_eqConstraintS.mono_l k
 unfold laws_eqConstraintS.f
 repeat' first
  | with_reducible first|exact ih0 _ _ _|exact laws_eqConstraint.mono _ _ _ _ _ _ _ _ _ _ _ _ _ _ _ _ _|exact LeO.refl _|exact LeO.none _|refine LeO.ite ?_ ?_|refine LeO.bind ?_ (fun _=>?_)
def laws_eqConstraintS.T6:Bool × List (List Nat × List Nat):=(true,[([],[]),([],[]),([0,1],[0,1]),([2],[2]),([],[]),([],[]),([4,5],[4,5]),([6],[6]),([3,7],[3,7]),([8],[8])])
def laws_eqConstraintS.B6:List Nat:=[0,0,3,7,0,0,48,112,255,511]
theorem laws_eqConstraintS.tab6:rtab .any (opsOf Tryz.f57 6)=laws_eqConstraintS.T6:=by kernel_rfl
theorem laws_eqConstraintS.bits6:waitsOk laws_eqConstraintS.T6.2 laws_eqConstraintS.B6=true:=by kernel_rfl
theorem laws_eqConstraintS.calls (k:Nat) (A0:Option Addr) (c0:Nat) (l0:List (S67)) (A1:Option Addr) (c1:Nat) (l1:List (S67)) (r:Bool) (w:World) (hr0:Kd.C k67 w A0 l0.length l0) (hc0:l0.length≤c0) (hr1:Kd.C k67 w A1 l1.length l1) (hc1:l1.length≤c1) (h:laws_eqConstraintS.f k l0 l1=some r) :
  Calls Tryz.prog 57 #[.slice A0 l0.length c0,.slice A1 l1.length c1] w fun e w'=>e = .returned (.bool r)∧Below w.heap.size w w':=by
 have hu67:=Tryz.underlying67
 have HR0:=zk hr0
 have HC0:=zk hc0
 clear hr0 hc0
 have HR1:=zk hr1
 have HC1:=zk hc1
 clear hr1 hc1
 have HB:=zk (Below.refl w.heap.size w)
 have H:(if (l0.length:Int)=(l1.length:Int) then (laws_eqConstraintS.l0 k l0 l1 0) else (some false))=some r:=h
 clear h
 by_cases c3:(l0.length:Int)=(l1.length:Int)
 ·rw [if_pos c3] at H
  have c3b0:((l0.length:Int) == (l1.length:Int))=true:=beq_iff_eq.mpr c3
  have c3b1:((l0.length:Int) != (l1.length:Int))=false:=bne_eq_false_iff_eq.mpr c3
  have c3b2:(l0.length == l1.length)=true:=by first|simpa using c3|(simp at c3 ⊢;omega)
  clear c3
  have H':=zk H
  clear H
  go_enter Tryz.func57,Tryz.ntmps57
  go_wp2
  first|go_loopg [5] k (fun kq v5 w'=>∃ (x5_1:Int),v5 = .int .i64 x5_1∧Aside0 (laws_eqConstraintS.l0 kq l0 l1 x5_1=some r)∧Aside0 (kq≤k)∧Aside0 (Below w.heap.size w w'))|(simp only [Act.put,zt,zv,zu];go_loopg [5] k (fun kq v5 w'=>∃ (x5_1:Int),v5 = .int .i64 x5_1∧Aside0 (laws_eqConstraintS.l0 kq l0 l1 x5_1=some r)∧Aside0 (kq≤k)∧Aside0 (Below w.heap.size w w')))
  case atStart=>exact ⟨(0),za7,H',⟨Nat.le_refl _⟩,⟨za3⟩⟩
  case round =>
   clear H'
   try clear c3
   try clear c3b0
   try clear c3b1
   try clear c3b2
   obtain ⟨x5_1,rfl,HA,HK1,HB⟩:=hrel
   cases gk with
   | zero=>exact absurd HA.out (by simp [laws_eqConstraintS.l0])
   | succ k1 =>
    have H:=HA.out
    clear HA
    simp only [laws_eqConstraintS.l0] at H
    by_cases c4:x5_1 < (l0.length:Int)
    rw [if_pos c4] at H
    have c4b0:decide (x5_1 < (l0.length:Int))=true:=decide_eq_true c4
    clear c4
    by_cases c5:0≤x5_1
    rw [if_pos c5] at H
    have c5b0:decide (0≤x5_1)=true:=decide_eq_true c5
    clear c5
    by_cases c6:x5_1 < (l1.length:Int)
    rw [if_pos c6] at H
    have c6b0:decide (x5_1 < (l1.length:Int))=true:=decide_eq_true c6
    clear c6
    replace H:=zo H
    obtain ⟨t57003,A70,H⟩:=H
    replace H:(if t57003=true then (laws_eqConstraintS.l0 k1 l0 l1 (wrap64 (x5_1+1))) else (some false))=some r:=H
    have A7:=zk A70
    clear A70
    by_cases c8:t57003=true
    subst c8
    have H1:(laws_eqConstraintS.l0 k1 l0 l1 (wrap64 (x5_1+1)))=some r:=by rw [if_pos rfl] at H;exact H
    clear H
    have H:=H1
    clear H1
    have H':=zk H
    clear H
    have fin1_:=zk trivial
    rotate_left
    replace c8:=Bool.eq_false_iff.mpr c8
    subst c8
    have H1:(some false)=some r:=by rw [if_neg (show ¬ (false=true) by decide)] at H;exact H
    clear H
    have H:=H1
    clear H1
    obtain rfl:=zi H
    have fin0_:=zk trivial
    rotate_left
    · rw [if_neg c6] at H
      exact absurd H (by simp)
    · rw [if_neg c5] at H
      exact absurd H (by simp)
    · rw [if_neg c4] at H
      have c4b0:decide (x5_1 < (l0.length:Int))=false:=decide_eq_false c4
      clear c4
      obtain rfl:=zi H
      go_wp2
      go_ret
      exact ⟨za6,za3⟩
    all_goals
     try go_wp2
     have n0_:=zk (below_drew1 HB.out)
     clear HB
     have HB:=n0_
     clear n0_
     have p57001:0≤(x5_1:Int):=of_decide_eq_true za8
     have q57001:x5_1 < (l0.length:Int):=of_decide_eq_true za8
     obtain ⟨ad57001,A57001_5,c57001_5,A57001_6,c57001_6,e57001,hx57001_0,hx57001_1,hx57001_2,hx57001_3,hx57001_4,hx57001_5,hx57001_6,hx57001_7,hl57001_5,hi57001_5,hl57001_6,hi57001_6⟩:=at_T67 HR0.out x5_1 p57001 q57001
     have hw57001_7:=hx57001_7
     have hw57001_6:=hx57001_6
     have hw57001_5:=hx57001_5
     have hw57001_4:=hx57001_4
     have hw57001_3:=hx57001_3
     have hw57001_2:=hx57001_2
     have hw57001_1:=hx57001_1
     have hw57001_0:=hx57001_0
     cases e57001
     replace hx57001_0:=zx HB.out hx57001_0
     replace hx57001_1:=zx HB.out hx57001_1
     replace hx57001_2:=zx HB.out hx57001_2
     replace hx57001_3:=zx HB.out hx57001_3
     replace hx57001_4:=zx HB.out hx57001_4
     replace hx57001_5:=zx HB.out hx57001_5
     replace hx57001_6:=zx HB.out hx57001_6
     replace hx57001_7:=zx HB.out hx57001_7
     have HR57001_5:=zk hi57001_5
     have HC57001_5:=zk hl57001_5
     clear hi57001_5 hl57001_5
     have HR57001_6:=zk hi57001_6
     have HC57001_6:=zk hl57001_6
     clear hi57001_6 hl57001_6
     replace p57001:=eq_true p57001
     replace q57001:=eq_true q57001
     have p57002:0≤(x5_1:Int):=of_decide_eq_true za8
     have q57002:x5_1 < (l1.length:Int):=of_decide_eq_true za8
     obtain ⟨ad57002,A57002_5,c57002_5,A57002_6,c57002_6,e57002,hx57002_0,hx57002_1,hx57002_2,hx57002_3,hx57002_4,hx57002_5,hx57002_6,hx57002_7,hl57002_5,hi57002_5,hl57002_6,hi57002_6⟩:=at_T67 HR1.out x5_1 p57002 q57002
     have hw57002_7:=hx57002_7
     have hw57002_6:=hx57002_6
     have hw57002_5:=hx57002_5
     have hw57002_4:=hx57002_4
     have hw57002_3:=hx57002_3
     have hw57002_2:=hx57002_2
     have hw57002_1:=hx57002_1
     have hw57002_0:=hx57002_0
     cases e57002
     replace hx57002_0:=zx HB.out hx57002_0
     replace hx57002_1:=zx HB.out hx57002_1
     replace hx57002_2:=zx HB.out hx57002_2
     replace hx57002_3:=zx HB.out hx57002_3
     replace hx57002_4:=zx HB.out hx57002_4
     replace hx57002_5:=zx HB.out hx57002_5
     replace hx57002_6:=zx HB.out hx57002_6
     replace hx57002_7:=zx HB.out hx57002_7
     have HR57002_5:=zk hi57002_5
     have HC57002_5:=zk hl57002_5
     clear hi57002_5 hl57002_5
     have HR57002_6:=zk hi57002_6
     have HC57002_6:=zk hl57002_6
     clear hi57002_6 hl57002_6
     replace p57002:=eq_true p57002
     replace q57002:=eq_true q57002
     refine start_ (n:=10) (S:=fun w'=>w'.cell? (ad57001.add ((x5_1).toNat * 8))=some (.int .i64 ((rd_T67 l0 x5_1).f0))∧w'.cell? ⟨(ad57001.add ((x5_1).toNat * 8)).block,(ad57001.add ((x5_1).toNat * 8)).off+1,none⟩=some (.string ((rd_T67 l0 x5_1).f1))∧w'.cell? ⟨(ad57001.add ((x5_1).toNat * 8)).block,(ad57001.add ((x5_1).toNat * 8)).off+2,none⟩=some (.string ((rd_T67 l0 x5_1).f2))∧w'.cell? ⟨(ad57001.add ((x5_1).toNat * 8)).block,(ad57001.add ((x5_1).toNat * 8)).off+3,none⟩=some (.int .i64 ((rd_T67 l0 x5_1).f3.f0))∧w'.cell? ⟨(ad57001.add ((x5_1).toNat * 8)).block,(ad57001.add ((x5_1).toNat * 8)).off+4,none⟩=some (.string ((rd_T67 l0 x5_1).f3.f1))∧w'.cell? ⟨(ad57001.add ((x5_1).toNat * 8)).block,(ad57001.add ((x5_1).toNat * 8)).off+5,none⟩=some (.slice A57001_5 ((rd_T67 l0 x5_1).f3.f2).length c57001_5)∧w'.cell? ⟨(ad57001.add ((x5_1).toNat * 8)).block,(ad57001.add ((x5_1).toNat * 8)).off+6,none⟩=some (.slice A57001_6 ((rd_T67 l0 x5_1).f4).length c57001_6)∧w'.cell? ⟨(ad57001.add ((x5_1).toNat * 8)).block,(ad57001.add ((x5_1).toNat * 8)).off+7,none⟩=some (.int .i64 ((rd_T67 l0 x5_1).f5))∧w'.cell? (ad57002.add ((x5_1).toNat * 8))=some (.int .i64 ((rd_T67 l1 x5_1).f0))∧w'.cell? ⟨(ad57002.add ((x5_1).toNat * 8)).block,(ad57002.add ((x5_1).toNat * 8)).off+1,none⟩=some (.string ((rd_T67 l1 x5_1).f1))∧w'.cell? ⟨(ad57002.add ((x5_1).toNat * 8)).block,(ad57002.add ((x5_1).toNat * 8)).off+2,none⟩=some (.string ((rd_T67 l1 x5_1).f2))∧w'.cell? ⟨(ad57002.add ((x5_1).toNat * 8)).block,(ad57002.add ((x5_1).toNat * 8)).off+3,none⟩=some (.int .i64 ((rd_T67 l1 x5_1).f3.f0))∧w'.cell? ⟨(ad57002.add ((x5_1).toNat * 8)).block,(ad57002.add ((x5_1).toNat * 8)).off+4,none⟩=some (.string ((rd_T67 l1 x5_1).f3.f1))∧w'.cell? ⟨(ad57002.add ((x5_1).toNat * 8)).block,(ad57002.add ((x5_1).toNat * 8)).off+5,none⟩=some (.slice A57002_5 ((rd_T67 l1 x5_1).f3.f2).length c57002_5)∧w'.cell? ⟨(ad57002.add ((x5_1).toNat * 8)).block,(ad57002.add ((x5_1).toNat * 8)).off+6,none⟩=some (.slice A57002_6 ((rd_T67 l1 x5_1).f4).length c57002_6)∧w'.cell? ⟨(ad57002.add ((x5_1).toNat * 8)).block,(ad57002.add ((x5_1).toNat * 8)).off+7,none⟩=some (.int .i64 ((rd_T67 l1 x5_1).f5))) (ds:=[]) #[false,false,false,false,false,false,false,false,false,false] (by kernel_rfl) rfl rfl ⟨((HB.out.cell (World.block_lt_of_cell? w _ hw57001_0)).trans hw57001_0),((HB.out.cell (World.block_lt_of_cell? w _ hw57001_1)).trans hw57001_1),((HB.out.cell (World.block_lt_of_cell? w _ hw57001_2)).trans hw57001_2),((HB.out.cell (World.block_lt_of_cell? w _ hw57001_3)).trans hw57001_3),((HB.out.cell (World.block_lt_of_cell? w _ hw57001_4)).trans hw57001_4),((HB.out.cell (World.block_lt_of_cell? w _ hw57001_5)).trans hw57001_5),((HB.out.cell (World.block_lt_of_cell? w _ hw57001_6)).trans hw57001_6),((HB.out.cell (World.block_lt_of_cell? w _ hw57001_7)).trans hw57001_7),((HB.out.cell (World.block_lt_of_cell? w _ hw57002_0)).trans hw57002_0),((HB.out.cell (World.block_lt_of_cell? w _ hw57002_1)).trans hw57002_1),((HB.out.cell (World.block_lt_of_cell? w _ hw57002_2)).trans hw57002_2),((HB.out.cell (World.block_lt_of_cell? w _ hw57002_3)).trans hw57002_3),((HB.out.cell (World.block_lt_of_cell? w _ hw57002_4)).trans hw57002_4),((HB.out.cell (World.block_lt_of_cell? w _ hw57002_5)).trans hw57002_5),((HB.out.cell (World.block_lt_of_cell? w _ hw57002_6)).trans hw57002_6),((HB.out.cell (World.block_lt_of_cell? w _ hw57002_7)).trans hw57002_7)⟩ (fun hHeld=>?_);refine with_tabW laws_eqConstraintS.tab6 laws_eqConstraintS.bits6 (fun HT_ HW_=>?_)
     generalize wr.drew=w11 at HB HR57001_5 HR57001_6 HR57002_5 HR57002_6 hx57001_0 hx57001_1 hx57001_2 hx57001_3 hx57001_4 hx57001_5 hx57001_6 hx57001_7 hx57002_0 hx57002_1 hx57002_2 hx57002_3 hx57002_4 hx57002_5 hx57002_6 hx57002_7 hHeld ⊢
     refine pure_ (i:=0) (N:=some 17) (v:=?_) (a':=?_) #[true,false,false,false,false,false,false,false,false,false] rfl rfl (any_of HT_.out (by kernel_rfl)) (fun _ _ _ h=>h) (Or.inl ⟨by rfl,?_⟩) ?_ ?_
     rotate_left
     · intro w'
       go_simp
       exact zr1
     rotate_left
     · simp only [Act.put,zt,zu,zv,i64_w,i32_w]
       rfl
     refine pure_ (i:=1) (N:=some 18) (v:=?_) (a':=?_) #[true,true,false,false,false,false,false,false,false,false] rfl rfl (any_of HT_.out (by kernel_rfl)) (fun _ _ _ h=>h) (Or.inl ⟨by rfl,?_⟩) ?_ ?_
     rotate_left
     · intro w'
       go_simp
       exact zr1
     rotate_left
     · simp only [Act.put,zt,zu,zv,i64_w,i32_w]
       rfl
     refine pure_ (i:=2) (N:=some 19) (v:=?_) (a':=?_) #[true,true,true,false,false,false,false,false,false,false] rfl rfl (any_of HT_.out (by kernel_rfl)) (fun _ _ _ h=>h) (Or.inl ⟨by rfl,?_⟩) ?_ ?_
     rotate_left
     · intro w'
       go_simp
       exact zr1
     rotate_left
     · simp only [Act.put,zt,zu,zv,i64_w,i32_w]
       rfl
     refine pure_ (i:=4) (N:=some 21) (v:=?_) (a':=?_) #[true,true,true,false,true,false,false,false,false,false] rfl rfl (any_of HT_.out (by kernel_rfl)) (fun _ _ _ h=>h) (Or.inl ⟨by rfl,?_⟩) ?_ ?_
     rotate_left
     · intro w'
       go_simp
       exact zr1
     rotate_left
     · simp only [Act.put,zt,zu,zv,i64_w,i32_w]
       rfl
     refine pure_ (i:=5) (N:=some 22) (v:=?_) (a':=?_) #[true,true,true,false,true,true,false,false,false,false] rfl rfl (any_of HT_.out (by kernel_rfl)) (fun _ _ _ h=>h) (Or.inl ⟨by rfl,?_⟩) ?_ ?_
     rotate_left
     · intro w'
       go_simp
       exact zr1
     rotate_left
     · simp only [Act.put,zt,zu,zv,i64_w,i32_w]
       rfl
     refine pure_ (i:=6) (N:=some 23) (v:=?_) (a':=?_) #[true,true,true,false,true,true,true,false,false,false] rfl rfl (any_of HT_.out (by kernel_rfl)) (fun _ _ _ h=>h) (Or.inl ⟨by rfl,?_⟩) ?_ ?_
     rotate_left
     · intro w'
       go_simp
       exact zr1
     rotate_left
     · simp only [Act.put,zt,zu,zv,i64_w,i32_w]
       rfl
     refine take_ (i:=3) (N:=some 20) (v:=?_) (a':=?_) #[true,true,true,true,true,true,true,false,false,false] rfl rfl (take_ofW HT_.out HW_.out (by kernel_rfl)) (fun _ _ _ h=>h) (Or.inl ⟨by rfl,?_⟩) hHeld ?_ ?_
     rotate_left
     · rintro w' ⟨s0,s1,s2,s3,s4,s5,s6,s7,s8,s9,s10,s11,s12,s13,s14,s15⟩
       go_simp
       exact zr1
     rotate_left
     · simp only [Act.put,zt,zu,zv,i64_w,i32_w]
       rfl
     refine take_ (i:=7) (N:=some 24) (v:=?_) (a':=?_) #[true,true,true,true,true,true,true,true,false,false] rfl rfl (take_ofW HT_.out HW_.out (by kernel_rfl)) (fun _ _ _ h=>h) (Or.inl ⟨by rfl,?_⟩) hHeld ?_ ?_
     rotate_left
     · rintro w' ⟨s0,s1,s2,s3,s4,s5,s6,s7,s8,s9,s10,s11,s12,s13,s14,s15⟩
       go_simp
       exact zr1
     rotate_left
     · simp only [Act.put,zt,zu,zv,i64_w,i32_w]
       rfl
     refine one_ (i:=8) (N:=some 25) #[true,true,true,true,true,true,true,true,true,false] rfl rfl (one_of HT_.out (by kernel_rfl)) (by decide) (fun K hK=>?_)
     refine goes_ Tryz.func87 (by kernel_rfl) rfl #[.agg #[.int .i64 ((rd_T67 l0 x5_1).f0),.string ((rd_T67 l0 x5_1).f1),.string ((rd_T67 l0 x5_1).f2),.int .i64 ((rd_T67 l0 x5_1).f3.f0),.string ((rd_T67 l0 x5_1).f3.f1),.slice A57001_5 ((rd_T67 l0 x5_1).f3.f2).length c57001_5,.slice A57001_6 ((rd_T67 l0 x5_1).f4).length c57001_6,.int .i64 ((rd_T67 l0 x5_1).f5)],.agg #[.int .i64 ((rd_T67 l1 x5_1).f0),.string ((rd_T67 l1 x5_1).f1),.string ((rd_T67 l1 x5_1).f2),.int .i64 ((rd_T67 l1 x5_1).f3.f0),.string ((rd_T67 l1 x5_1).f3.f1),.slice A57002_5 ((rd_T67 l1 x5_1).f3.f2).length c57002_5,.slice A57002_6 ((rd_T67 l1 x5_1).f4).length c57002_6,.int .i64 ((rd_T67 l1 x5_1).f5)]] (by rfl) rfl rfl za4 ?_
     with_reducible refine (laws_eqConstraint.calls k1 ((rd_T67 l0 x5_1).f0) ((rd_T67 l0 x5_1).f1) ((rd_T67 l0 x5_1).f2) ((rd_T67 l0 x5_1).f3.f0) ((rd_T67 l0 x5_1).f3.f1) _ _ ((rd_T67 l0 x5_1).f3.f2) _ _ ((rd_T67 l0 x5_1).f4) ((rd_T67 l0 x5_1).f5) ((rd_T67 l1 x5_1).f0) ((rd_T67 l1 x5_1).f1) ((rd_T67 l1 x5_1).f2) ((rd_T67 l1 x5_1).f3.f0) ((rd_T67 l1 x5_1).f3.f1) _ _ ((rd_T67 l1 x5_1).f3.f2) _ _ ((rd_T67 l1 x5_1).f4) ((rd_T67 l1 x5_1).f5) _ _ ?side1 ?side2 ?side3 ?side4 ?side5 ?side6 ?side7 ?side8 A7.out).mono ?_
     (case side1=>repeat (first|exact (Kd.C_below HR57001_5.out HB.out)|(with_reducible refine Kd.C_alloc ?_ _)|(with_reducible refine Kd.C_drewN ?_ _)|(with_reducible refine Kd.C_drew ?_)))
     (case side2=>exact HC57001_5.out)
     (case side3=>repeat (first|exact (Kd.C_below HR57001_6.out HB.out)|(with_reducible refine Kd.C_alloc ?_ _)|(with_reducible refine Kd.C_drewN ?_ _)|(with_reducible refine Kd.C_drew ?_)))
     (case side4=>exact HC57001_6.out)
     (case side5=>repeat (first|exact (Kd.C_below HR57002_5.out HB.out)|(with_reducible refine Kd.C_alloc ?_ _)|(with_reducible refine Kd.C_drewN ?_ _)|(with_reducible refine Kd.C_drew ?_)))
     (case side6=>exact HC57002_5.out)
     (case side7=>repeat (first|exact (Kd.C_below HR57002_6.out HB.out)|(with_reducible refine Kd.C_alloc ?_ _)|(with_reducible refine Kd.C_drewN ?_ _)|(with_reducible refine Kd.C_drew ?_)))
     (case side8=>exact HC57002_6.out)
     rintro e w12 ⟨rfl,hb⟩
     refine ⟨_,rfl,?_⟩
     have n0_:=zk (below_step za3 hb)
     clear HB
     have HB:=n0_
     clear n0_
     (try clear hb)
     (try clear hb2)
     (try clear hk)
     (try clear hi)
     refine hK.out _ _ ⟨((HB.out.cell (World.block_lt_of_cell? w _ hw57001_0)).trans hw57001_0),((HB.out.cell (World.block_lt_of_cell? w _ hw57001_1)).trans hw57001_1),((HB.out.cell (World.block_lt_of_cell? w _ hw57001_2)).trans hw57001_2),((HB.out.cell (World.block_lt_of_cell? w _ hw57001_3)).trans hw57001_3),((HB.out.cell (World.block_lt_of_cell? w _ hw57001_4)).trans hw57001_4),((HB.out.cell (World.block_lt_of_cell? w _ hw57001_5)).trans hw57001_5),((HB.out.cell (World.block_lt_of_cell? w _ hw57001_6)).trans hw57001_6),((HB.out.cell (World.block_lt_of_cell? w _ hw57001_7)).trans hw57001_7),((HB.out.cell (World.block_lt_of_cell? w _ hw57002_0)).trans hw57002_0),((HB.out.cell (World.block_lt_of_cell? w _ hw57002_1)).trans hw57002_1),((HB.out.cell (World.block_lt_of_cell? w _ hw57002_2)).trans hw57002_2),((HB.out.cell (World.block_lt_of_cell? w _ hw57002_3)).trans hw57002_3),((HB.out.cell (World.block_lt_of_cell? w _ hw57002_4)).trans hw57002_4),((HB.out.cell (World.block_lt_of_cell? w _ hw57002_5)).trans hw57002_5),((HB.out.cell (World.block_lt_of_cell? w _ hw57002_6)).trans hw57002_6),((HB.out.cell (World.block_lt_of_cell? w _ hw57002_7)).trans hw57002_7)⟩ (fun hHeld=>?_)
     clear hK K
     refine norm_ (a':=?_) ?_ ?_
     rotate_left
     · show Act.put _ (some 25) _=_
       simp only [Act.put,zt,zu,zv,i64_w,i32_w]
       rfl
     refine pure_ (i:=9) (N:=some 26) (v:=?_) (a':=?_) #[true,true,true,true,true,true,true,true,true,true] rfl rfl (any_of HT_.out (by kernel_rfl)) (fun _ _ _ h=>h) (Or.inl ⟨by rfl,?_⟩) ?_ ?_
     rotate_left
     · intro w'
       go_simp
       exact zr1
     rotate_left
     · simp only [Act.put,zt,zu,zv,i64_w,i32_w]
       rfl
     refine done_ (done_of HT_.out (by kernel_rfl)) ?_
     try go_wp2
     first
     | (
        clear fin0_
        go_ret
        exact ⟨za6,za3⟩)
     | (
        clear fin1_
        go_roundg k1
        case measure=>have:=HK1.out;omega
        case rel=>exact ⟨(wrap64 (x5_1+1)),za7,H',⟨za15⟩,⟨za3⟩⟩)
 ·rw [if_neg c3] at H
  have c3b0:((l0.length:Int) == (l1.length:Int))=false:=beq_eq_false_iff_ne.mpr c3
  have c3b1:((l0.length:Int) != (l1.length:Int))=true:=bne_iff_ne.mpr c3
  have c3b2:(l0.length == l1.length)=false:=by first|simpa using c3|(simp at c3 ⊢;omega)
  obtain rfl:=zi H
  go_enter Tryz.func57,Tryz.ntmps57
  go_wp2
  go_ret
  exact ⟨za6,za3⟩
def laws_szProblem.f (k:Nat) (l0_0:List (S103)) (a1:Int):Option (Int):=(laws_szConstraintS.f k l0_0 a1).bind fun t19002=>(if t19002 < 0 then (some (-1)) else (some t19002))
theorem laws_szProblem.mono:∀ a0 a1 k,LeO (laws_szProblem.f k a0 a1) (laws_szProblem.f (k+1) a0 a1):=by
 intro a0 a1 k
 unfold laws_szProblem.f
 repeat' first
  | with_reducible first|exact laws_szConstraintS.mono _ _ _|exact LeO.refl _|exact LeO.none _|refine LeO.ite ?_ ?_|refine LeO.bind ?_ (fun _=>?_)
theorem laws_szProblem.calls (k:Nat) (A0_0:Option Addr) (c0_0:Nat) (l0_0:List (S103)) (a1:Int) (r:Int) (w:World) (hr0_0:Kd.C k103 w A0_0 l0_0.length l0_0) (hc0_0:l0_0.length≤c0_0) (h:laws_szProblem.f k l0_0 a1=some r) :
   Calls Tryz.prog 19 #[.agg #[.slice A0_0 l0_0.length c0_0],.int .i64 a1] w fun e w'=>e = .returned (.int .i64 r)∧Below w.heap.size w w':=by
 have hu42:=Tryz.underlying42
 have HR0_0:=zk hr0_0
 have HC0_0:=zk hc0_0
 clear hr0_0 hc0_0
 have HB:=zk (Below.refl w.heap.size w)
 have H:((laws_szConstraintS.f k l0_0 a1).bind fun t19002=>(if t19002 < 0 then (some (-1)) else (some t19002)))=some r:=h
 clear h
 replace H:=zo H
 obtain ⟨t19002,A30,H⟩:=H
 replace H:(if t19002 < 0 then (some (-1)) else (some t19002))=some r:=H
 have A3:=zk A30
 clear A30
 by_cases c4:t19002 < 0
 rw [if_pos c4] at H
 have c4b0:decide (t19002 < 0)=true:=decide_eq_true c4
 rotate_left
 rw [if_neg c4] at H
 have c4b0:decide (t19002 < 0)=false:=decide_eq_false c4
 rotate_left
 all_goals
  clear c4
  obtain rfl:=zi H
  go_enter Tryz.func19,Tryz.ntmps19
  go_wp2_with (first|((with_reducible refine gate_dst (N:=2) rfl ?_);refine zE (N:=2) (cs:=#[.slice A0_0 l0_0.length c0_0]) (t:=42) ?_;intro gb19001 hg w8 hbox hb;have n0_:=zk (below_step za3 hb);have n1_:=zk (hbox);have n2_:=zk (zs (w:=w) hg za3);have n3_:=zk (zs (w:=w) hg za3);clear HB;have HB:=n0_;have BK19001:=n1_;have GW19001:=n2_;have GE19001:=n3_;clear n0_ n1_ n2_ n3_;clear hb hbox hg;obtain ⟨hcz9_0,hfz9_0⟩:=blk1 BK19001.out)|((with_reducible refine gate_callee (f:=55) rfl ?_);refine goesL_ (some 8) rfl rfl Tryz.func55 (by kernel_rfl) rfl #[.slice A0_0 l0_0.length c0_0,.int .i64 a1] rfl za4 ?_;(with_reducible refine (laws_szConstraintS.calls k _ _ l0_0 a1 t19002 _ ?side1 ?side2 A3.out).mono ?_);(case side1=>repeat (first|exact (Kd.C_below HR0_0.out HB.out)|(with_reducible refine Kd.C_alloc ?_ _)|(with_reducible refine Kd.C_drewN ?_ _)|(with_reducible refine Kd.C_drew ?_)));(case side2=>exact HC0_0.out);rintro e w10 ⟨rfl,hb⟩;refine ⟨_,rfl,?_⟩;have n0_:=zk (zb BK19001.out hb);have n1_:=zk (below_step za3 hb);clear BK19001;clear HB;have BK19001:=n0_;have HB:=n1_;clear n0_ n1_;(try clear hb);(try clear hb2);(try clear hk);(try clear hi)))
  go_ret
  exact ⟨za6,za3⟩
def laws_toProblem.f (k:Nat) (l0_0:List (S103)):Option ((List (S67))):=(laws_toConstraintS.f k l0_0).bind fun t21004=>(some t21004)
theorem laws_toProblem.mono:∀ a0 k,LeO (laws_toProblem.f k a0) (laws_toProblem.f (k+1) a0):=by
 intro a0 k
 unfold laws_toProblem.f
 repeat' first
  | with_reducible first|exact laws_toConstraintS.mono _ _|exact LeO.refl _|exact LeO.none _|refine LeO.ite ?_ ?_|refine LeO.bind ?_ (fun _=>?_)
theorem laws_toProblem.calls (k:Nat) (A0_0:Option Addr) (c0_0:Nat) (l0_0:List (S103)) (r:List (S67)) (w:World) (hr0_0:Kd.C k103 w A0_0 l0_0.length l0_0) (hc0_0:l0_0.length≤c0_0) (h:laws_toProblem.f k l0_0=some r) :
  Calls Tryz.prog 21 #[.agg #[.slice A0_0 l0_0.length c0_0]] w fun e w'=>∃ v0_:Value,e = .returned (.agg #[v0_])∧Kd.R k67 67 w' w.heap.size (fun _=>True) v0_ r∧Below w.heap.size w w':=by
 have hu42:=Tryz.underlying42
 have hu26:=Tryz.underlying26
 have HR0_0:=zk hr0_0
 have HC0_0:=zk hc0_0
 clear hr0_0 hc0_0
 have HB:=zk (Below.refl w.heap.size w)
 have H:((laws_toConstraintS.f k l0_0).bind fun t21004=>(some t21004))=some r:=h
 clear h
 replace H:=zo H
 obtain ⟨t21004,A20,H⟩:=H
 replace H:(some t21004)=some r:=H
 have A2:=zk A20
 clear A20
 obtain rfl:=zi H
 go_enter Tryz.func21,Tryz.ntmps21
 go_wp2_with (first|((with_reducible refine gate_dst (N:=1) rfl ?_);refine zE (N:=1) (cs:=#[.slice A0_0 l0_0.length c0_0]) (t:=42) ?_;intro gb21001 hg w3 hbox hb;have n0_:=zk (below_step za3 hb);have n1_:=zk (hbox);have n2_:=zk (zs (w:=w) hg za3);have n3_:=zk (zs (w:=w) hg za3);clear HB;have HB:=n0_;have BK21001:=n1_;have GW21001:=n2_;have GE21001:=n3_;clear n0_ n1_ n2_ n3_;clear hb hbox hg)|((with_reducible refine gate_dst (N:=2) rfl ?_);refine zE (N:=2) (cs:=#[.slice none 0 0]) (t:=26) ?_;intro gb21002 hg w4 hbox hb;have n0_:=zk (zb BK21001.out hb);have n1_:=zk (below_step za3 hb);have n2_:=zk (hbox);have n3_:=zk (zs (w:=w) hg za3);have n4_:=zk (zs (w:=w) hg za3);have n5_:=zk ((by rw [hg];exact Nat.ne_of_lt (zl BK21001.out):gb21001 ≠ gb21002));have n6_:=zk ((by rw [hg];exact Nat.ne_of_gt (zl BK21001.out):gb21002 ≠ gb21001));clear BK21001;clear HB;have BK21001:=n0_;have HB:=n1_;have BK21002:=n2_;have GW21002:=n3_;have GE21002:=n4_;have NB21001_21002:=n5_;have NB21002_21001:=n6_;clear n0_ n1_ n2_ n3_ n4_ n5_ n6_;clear hb hbox hg)|((with_reducible refine gate_dst (N:=3) rfl ?_);refine zE (N:=3) (cs:=#[.slice none 0 0]) (t:=26) ?_;intro gb21003 hg w5 hbox hb;have n0_:=zk (zb BK21001.out hb);have n1_:=zk (zb BK21002.out hb);have n2_:=zk (below_step za3 hb);have n3_:=zk (hbox);have n4_:=zk (zs (w:=w) hg za3);have n5_:=zk (zs (w:=w) hg za3);have n6_:=zk ((by rw [hg];exact Nat.ne_of_lt (zl BK21001.out):gb21001 ≠ gb21003));have n7_:=zk ((by rw [hg];exact Nat.ne_of_gt (zl BK21001.out):gb21003 ≠ gb21001));have n8_:=zk ((by rw [hg];exact Nat.ne_of_lt (zl BK21002.out):gb21002 ≠ gb21003));have n9_:=zk ((by rw [hg];exact Nat.ne_of_gt (zl BK21002.out):gb21003 ≠ gb21002));clear BK21001;clear BK21002;clear HB;have BK21001:=n0_;have BK21002:=n1_;have HB:=n2_;have BK21003:=n3_;have GW21003:=n4_;have GE21003:=n5_;have NB21001_21003:=n6_;have NB21003_21001:=n7_;have NB21002_21003:=n8_;have NB21003_21002:=n9_;clear n0_ n1_ n2_ n3_ n4_ n5_ n6_ n7_ n8_ n9_;clear hb hbox hg;have hnb6:=NB21001_21002.out;have hnc6:=NB21002_21001.out;have hnb7:=NB21001_21003.out;have hnc7:=NB21003_21001.out;obtain ⟨hcz8_0,hfz8_0⟩:=blk1 BK21001.out)|((with_reducible refine gate_callee (f:=56) rfl ?_);refine goesL_ (some 6) rfl rfl Tryz.func56 (by kernel_rfl) rfl #[.slice A0_0 l0_0.length c0_0] rfl za4 ?_;(with_reducible refine (laws_toConstraintS.calls k _ _ l0_0 t21004 _ ?side1 ?side2 A2.out).mono ?_);(case side1=>repeat (first|exact (Kd.C_below HR0_0.out HB.out)|(with_reducible refine Kd.C_alloc ?_ _)|(with_reducible refine Kd.C_drewN ?_ _)|(with_reducible refine Kd.C_drew ?_)));(case side2=>exact HC0_0.out);rintro e w9 ⟨v21005,rfl,ho0,hb⟩;refine ⟨_,rfl,?_⟩;have n0_:=zk (Kd.R_lower ho0 (below_size za3));have n1_:=zk (zb BK21001.out hb);have n2_:=zk (zb BK21002.out hb);have n3_:=zk (zb BK21003.out hb);have n4_:=zk (below_step za3 hb);clear BK21001;clear BK21002;clear BK21003;clear HB;have HO21006:=n0_;have BK21001:=n1_;have BK21002:=n2_;have BK21003:=n3_;have HB:=n4_;clear n0_ n1_ n2_ n3_ n4_;(try clear hb);(try clear hb2);(try clear hk);(try clear hi);(try clear ho0);obtain ⟨Ao10,co10,eo10⟩:=Kd.R_slice HO21006.out;subst eo10;have hnb11:=NB21003_21002.out;have hnc11:=NB21002_21003.out;obtain ⟨hcz12_0,hfz12_0⟩:=blk1 BK21003.out;obtain ⟨hcz13_0,hfz13_0⟩:=blk1 BK21002.out))
 refine bodyPost_ret (results_cell_row rfl _ _ gb21002 26 #[.slice Ao10 t21004.length co10] (0,0) _ rfl (by (with_reducible repeat (first|refine blk_drewN ?_ _|refine blk_drew ?_|refine blk_alloc ?_ _));refine blk_put (cs:=#[.slice none 0 0]) ?_ 0 _ rfl;(with_reducible repeat (first|refine blk_drewN ?_ _|refine blk_drew ?_|refine blk_alloc ?_ _));refine blk_far ?_ NB21002_21003.out _;(with_reducible repeat (first|refine blk_drewN ?_ _|refine blk_drew ?_|refine blk_alloc ?_ _));exact BK21002.out) Tryz.underlying26 rfl (by kernel_rfl)) rfl ?_
 exact ⟨_,za6,by (with_reducible repeat (first|apply Kd.R_alloc|apply Kd.R_drewN|apply Kd.R_drew));exact Kd.R_mono (Kd.R_far (p:=⟨gb21002,0,none⟩) (Kd.R_far (p:=⟨gb21003,0,none⟩) (Kd.R_types (Kd.R_types HO21006.out BK21003.out (by decide)) BK21002.out (by decide)) (fun _ hk=>hk.1.2) (.slice Ao10 t21004.length co10)) (fun _ hk=>hk.2) (.slice Ao10 t21004.length co10)) (fun _ hk=>trivial),za3⟩
def laws_eqProblem.f (k:Nat) (l0_0:List (S67)) (l1_0:List (S67)):Option (Bool):=(laws_eqConstraintS.f k l0_0 l1_0).bind fun t23003=>(if t23003=true then (some true) else (some false))
theorem laws_eqProblem.mono:∀ a0 a1 k,LeO (laws_eqProblem.f k a0 a1) (laws_eqProblem.f (k+1) a0 a1):=by
 intro a0 a1 k
 unfold laws_eqProblem.f
 repeat' first
  | with_reducible first|exact laws_eqConstraintS.mono _ _ _|exact LeO.refl _|exact LeO.none _|refine LeO.ite ?_ ?_|refine LeO.bind ?_ (fun _=>?_)
theorem laws_eqProblem.calls (k:Nat) (A0_0:Option Addr) (c0_0:Nat) (l0_0:List (S67)) (A1_0:Option Addr) (c1_0:Nat) (l1_0:List (S67)) (r:Bool) (w:World) (hr0_0:Kd.C k67 w A0_0 l0_0.length l0_0) (hc0_0:l0_0.length≤c0_0) (hr1_0:Kd.C k67 w A1_0 l1_0.length l1_0) (hc1_0:l1_0.length≤c1_0) (h:laws_eqProblem.f k l0_0 l1_0=some r) :
   Calls Tryz.prog 23 #[.agg #[.slice A0_0 l0_0.length c0_0],.agg #[.slice A1_0 l1_0.length c1_0]] w fun e w'=>e = .returned (.bool r)∧Below w.heap.size w w':=by
 have hu26:=Tryz.underlying26
 have HR0_0:=zk hr0_0
 have HC0_0:=zk hc0_0
 clear hr0_0 hc0_0
 have HR1_0:=zk hr1_0
 have HC1_0:=zk hc1_0
 clear hr1_0 hc1_0
 have HB:=zk (Below.refl w.heap.size w)
 have H:((laws_eqConstraintS.f k l0_0 l1_0).bind fun t23003=>(if t23003=true then (some true) else (some false)))=some r:=h
 clear h
 replace H:=zo H
 obtain ⟨t23003,A30,H⟩:=H
 replace H:(if t23003=true then (some true) else (some false))=some r:=H
 have A3:=zk A30
 clear A30
 by_cases c4:t23003=true
 subst c4
 have H1:(some true)=some r:=by rw [if_pos rfl] at H;exact H
 rotate_left
 replace c4:=Bool.eq_false_iff.mpr c4
 subst c4
 have H1:(some false)=some r:=by rw [if_neg (show ¬ (false=true) by decide)] at H;exact H
 rotate_left
 all_goals
  clear H
  have H:=H1
  clear H1
  obtain rfl:=zi H
  go_enter Tryz.func23,Tryz.ntmps23
  go_wp2_with (first|((with_reducible refine gate_dst (N:=2) rfl ?_);refine zE (N:=2) (cs:=#[.slice A0_0 l0_0.length c0_0]) (t:=26) ?_;intro gb23001 hg w11 hbox hb;have n0_:=zk (below_step za3 hb);have n1_:=zk (hbox);have n2_:=zk (zs (w:=w) hg za3);have n3_:=zk (zs (w:=w) hg za3);clear HB;have HB:=n0_;have BK23001:=n1_;have GW23001:=n2_;have GE23001:=n3_;clear n0_ n1_ n2_ n3_;clear hb hbox hg)|((with_reducible refine gate_dst (N:=3) rfl ?_);refine zE (N:=3) (cs:=#[.slice A1_0 l1_0.length c1_0]) (t:=26) ?_;intro gb23002 hg w12 hbox hb;have n0_:=zk (zb BK23001.out hb);have n1_:=zk (below_step za3 hb);have n2_:=zk (hbox);have n3_:=zk (zs (w:=w) hg za3);have n4_:=zk (zs (w:=w) hg za3);have n5_:=zk ((by rw [hg];exact Nat.ne_of_lt (zl BK23001.out):gb23001 ≠ gb23002));have n6_:=zk ((by rw [hg];exact Nat.ne_of_gt (zl BK23001.out):gb23002 ≠ gb23001));clear BK23001;clear HB;have BK23001:=n0_;have HB:=n1_;have BK23002:=n2_;have GW23002:=n3_;have GE23002:=n4_;have NB23001_23002:=n5_;have NB23002_23001:=n6_;clear n0_ n1_ n2_ n3_ n4_ n5_ n6_;clear hb hbox hg;have hnb13:=NB23001_23002.out;have hnc13:=NB23002_23001.out;obtain ⟨hcz14_0,hfz14_0⟩:=blk1 BK23001.out;obtain ⟨hcz15_0,hfz15_0⟩:=blk1 BK23002.out)|((with_reducible refine gate_callee (f:=57) rfl ?_);refine goesL_ (some 9) rfl rfl Tryz.func57 (by kernel_rfl) rfl #[.slice A0_0 l0_0.length c0_0,.slice A1_0 l1_0.length c1_0] rfl za4 ?_;(with_reducible refine (laws_eqConstraintS.calls k _ _ l0_0 _ _ l1_0 _ _ ?side1 ?side2 ?side3 ?side4 A3.out).mono ?_);(case side1=>repeat (first|exact (Kd.C_below HR0_0.out HB.out)|(with_reducible refine Kd.C_alloc ?_ _)|(with_reducible refine Kd.C_drewN ?_ _)|(with_reducible refine Kd.C_drew ?_)));(case side2=>exact HC0_0.out);(case side3=>repeat (first|exact (Kd.C_below HR1_0.out HB.out)|(with_reducible refine Kd.C_alloc ?_ _)|(with_reducible refine Kd.C_drewN ?_ _)|(with_reducible refine Kd.C_drew ?_)));(case side4=>exact HC1_0.out);rintro e w16 ⟨rfl,hb⟩;refine ⟨_,rfl,?_⟩;have n0_:=zk (zb BK23001.out hb);have n1_:=zk (zb BK23002.out hb);have n2_:=zk (below_step za3 hb);clear BK23001;clear BK23002;clear HB;have BK23001:=n0_;have BK23002:=n1_;have HB:=n2_;clear n0_ n1_ n2_;(try clear hb);(try clear hb2);(try clear hk);(try clear hi)))
  go_ret
  exact ⟨za6,za3⟩
def spec_l1Max.f (a0:Int) (a1:Int):Option (Int):=if a0 > a1 then (some a0) else (some a1)
theorem spec_l1Max.calls (a0:Int) (a1:Int) (r:Int) (w:World) (h:spec_l1Max.f a0 a1=some r) :
   Calls Tryz.prog 139 #[.int .i64 a0,.int .i64 a1] w fun e w'=>e = .returned (.int .i64 r)∧Drawn0 w w':=by
 have H:(if a0 > a1 then (some a0) else (some a1))=some r:=h
 clear h
 by_cases c3:a0 > a1
 rw [if_pos c3] at H
 have c3b0:decide (a1 < a0)=true:=decide_eq_true c3
 rotate_left
 rw [if_neg c3] at H
 have c3b0:decide (a1 < a0)=false:=decide_eq_false c3
 rotate_left
 all_goals
  clear c3
  obtain rfl:=zi H
  go_enter Tryz.func139,Tryz.ntmps139
  go_wp2
  go_ret
  exact ⟨za7,za10⟩
def spec_l1In.f (a0:Int) (a1:Int) (a2:Int):Option (Bool):=if a0 ≥ a1 then (some (decide (a0≤a2))) else (some false)
theorem spec_l1In.calls (a0:Int) (a1:Int) (a2:Int) (r:Bool) (w:World) (h:spec_l1In.f a0 a1 a2=some r) :
   Calls Tryz.prog 101 #[.int .i64 a0,.int .i64 a1,.int .i64 a2] w fun e w'=>e = .returned (.bool r)∧Drawn0 w w':=by
 have H:(if a0 ≥ a1 then (some (decide (a0≤a2))) else (some false))=some r:=h
 clear h
 by_cases c4:a0 ≥ a1
 rw [if_pos c4] at H
 have c4b0:decide (a1≤a0)=true:=decide_eq_true c4
 rotate_left
 rw [if_neg c4] at H
 have c4b0:decide (a1≤a0)=false:=decide_eq_false c4
 rotate_left
 all_goals
  clear c4
  obtain rfl:=zi H
  go_enter Tryz.func101,Tryz.ntmps101
  go_wp2
  go_ret
  exact ⟨za7,za10⟩
def spec_l1Min.f (a0:Int) (a1:Int):Option (Int):=if a0 < a1 then (some a0) else (some a1)
theorem spec_l1Min.calls (a0:Int) (a1:Int) (r:Int) (w:World) (h:spec_l1Min.f a0 a1=some r) :
   Calls Tryz.prog 37 #[.int .i64 a0,.int .i64 a1] w fun e w'=>e = .returned (.int .i64 r)∧Drawn0 w w':=by
 have H:(if a0 < a1 then (some a0) else (some a1))=some r:=h
 clear h
 by_cases c3:a0 < a1
 rw [if_pos c3] at H
 have c3b0:decide (a0 < a1)=true:=decide_eq_true c3
 rotate_left
 rw [if_neg c3] at H
 have c3b0:decide (a0 < a1)=false:=decide_eq_false c3
 rotate_left
 all_goals
  clear c3
  obtain rfl:=zi H
  go_enter Tryz.func37,Tryz.ntmps37
  go_wp2
  go_ret
  exact ⟨za7,za10⟩
def spec_LetterIndex.l0:Nat→Int→Int→Option (Int)
 | 0,_,_=>none
 | k+1,x0,x3=>if x3 < 3 then (if 0≤x3 then (if (bt (⟨#[97,98,99]⟩:ByteArray) x3)=x0 then (some x3) else (spec_LetterIndex.l0 k x0 (wrap64 (x3+1)))) else (none)) else (some (-1))
def spec_LetterIndex.f (k:Nat) (a0:Int):Option (Int):=spec_LetterIndex.l0 k a0 0
theorem spec_LetterIndex.mono_l:∀ k,(∀ y0 y1,LeO (spec_LetterIndex.l0 k y0 y1) (spec_LetterIndex.l0 (k+1) y0 y1))
 | 0=>fun _ _ r h=>by simp [spec_LetterIndex.l0] at h
 | k+1=>by
  have ih0:=spec_LetterIndex.mono_l k
  ·intro y0 y1
   unfold spec_LetterIndex.l0
   repeat' first
   | with_reducible first|exact ih0 _ _|exact LeO.refl _|exact LeO.none _|refine LeO.ite ?_ ?_|refine LeO.bind ?_ (fun _=>?_)
theorem spec_LetterIndex.mono:∀ a0 k,LeO (spec_LetterIndex.f k a0) (spec_LetterIndex.f (k+1) a0):=by
 intro a0 k
 have ih0:=spec_LetterIndex.mono_l k
 unfold spec_LetterIndex.f
 repeat' first
  | with_reducible first|exact ih0 _ _|exact LeO.refl _|exact LeO.none _|refine LeO.ite ?_ ?_|refine LeO.bind ?_ (fun _=>?_)
theorem spec_LetterIndex.calls (k:Nat) (a0:Int) (r:Int) (w:World) (h:spec_LetterIndex.f k a0=some r) :
   Calls Tryz.prog 117 #[.int .u8 a0] w fun e w'=>e = .returned (.int .i64 r)∧Drawn0 w w':=by
 have H:(spec_LetterIndex.l0 k a0 0)=some r:=h
 clear h
 have H':=zk H
 clear H
 go_enter Tryz.func117,Tryz.ntmps117
 go_wp2
 first|go_loopg [3] k (fun kq v3 w'=>∃ (x3_1:Int),v3 = .int .i64 x3_1∧Aside0 (spec_LetterIndex.l0 kq a0 x3_1=some r)∧Aside0 (kq≤k)∧Drawn0 w w')|(simp only [Act.put,zt,zv,zu];go_loopg [3] k (fun kq v3 w'=>∃ (x3_1:Int),v3 = .int .i64 x3_1∧Aside0 (spec_LetterIndex.l0 kq a0 x3_1=some r)∧Aside0 (kq≤k)∧Drawn0 w w'))
 case atStart=>exact ⟨(0),za7,H',⟨Nat.le_refl _⟩,za10⟩
 case round =>
  clear H'
  obtain ⟨x3_1,rfl,HA,HK1,⟨m1,rfl⟩⟩:=hrel
  cases gk with
  | zero=>exact absurd HA.out (by simp [spec_LetterIndex.l0])
  | succ k1 =>
   have H:=HA.out
   clear HA
   simp only [spec_LetterIndex.l0] at H
   by_cases c2:x3_1 < 3
   rw [if_pos c2] at H
   have c2b0:decide (x3_1 < 3)=true:=decide_eq_true c2
   clear c2
   by_cases c3:0≤x3_1
   rw [if_pos c3] at H
   have c3b0:decide (0≤x3_1)=true:=decide_eq_true c3
   clear c3
   by_cases c5:(bt (⟨#[97,98,99]⟩:ByteArray) x3_1)=a0
   ·rw [if_pos c5] at H
    have c5b0:((bt (⟨#[97,98,99]⟩:ByteArray) x3_1) == a0)=true:=beq_iff_eq.mpr c5
    have c5b1:((bt (⟨#[97,98,99]⟩:ByteArray) x3_1) != a0)=false:=bne_eq_false_iff_eq.mpr c5
    clear c5
    obtain rfl:=zi H
    have p4:0≤(x3_1:Int):=of_decide_eq_true za8
    have q4:x3_1 < (3:Int):=of_decide_eq_true za8
    have hx4:=bt_at (⟨#[97,98,99]⟩:ByteArray) x3_1
    replace p4:=eq_true p4
    replace q4:=eq_true q4
    go_wp2
    go_ret
    exact ⟨za7,za10⟩
   ·rw [if_neg c5] at H
    have c5b0:((bt (⟨#[97,98,99]⟩:ByteArray) x3_1) == a0)=false:=beq_eq_false_iff_ne.mpr c5
    have c5b1:((bt (⟨#[97,98,99]⟩:ByteArray) x3_1) != a0)=true:=bne_iff_ne.mpr c5
    have H':=zk H
    clear H
    have p4:0≤(x3_1:Int):=of_decide_eq_true za8
    have q4:x3_1 < (3:Int):=of_decide_eq_true za8
    have hx4:=bt_at (⟨#[97,98,99]⟩:ByteArray) x3_1
    replace p4:=eq_true p4
    replace q4:=eq_true q4
    go_wp2
    go_roundg k1
    case measure=>have:=HK1.out;omega
    case rel=>exact ⟨(wrap64 (x3_1+1)),za7,H',⟨za15⟩,za10⟩
   ·rw [if_neg c3] at H
    exact absurd H (by simp)
   ·rw [if_neg c2] at H
    have c2b0:decide (x3_1 < 3)=false:=decide_eq_false c2
    clear c2
    obtain rfl:=zi H
    go_wp2
    go_ret
    exact ⟨za7,za10⟩
def spec_IsWord.l0:Nat→ByteArray→Int→Option (Bool)
 | 0,_,_=>none
 | k+1,x0,x3=>if x3 < (x0.size:Int) then (if 0≤x3 then ((spec_LetterIndex.f k (bt x0 x3)).bind fun t84001=>(if t84001 < 0 then (some false) else (spec_IsWord.l0 k x0 (wrap64 (x3+1))))) else (none)) else (some (decide ((x0.size:Int)≤30)))
def spec_IsWord.f (k:Nat) (a0:ByteArray):Option (Bool):=spec_IsWord.l0 k a0 0
theorem spec_IsWord.mono_l:∀ k,(∀ y0 y1,LeO (spec_IsWord.l0 k y0 y1) (spec_IsWord.l0 (k+1) y0 y1))
 | 0=>fun _ _ r h=>by simp [spec_IsWord.l0] at h
 | k+1=>by
  have ih0:=spec_IsWord.mono_l k
  ·intro y0 y1
   unfold spec_IsWord.l0
   repeat' first
   | with_reducible first|exact ih0 _ _|exact spec_LetterIndex.mono _ _|exact LeO.refl _|exact LeO.none _|refine LeO.ite ?_ ?_|refine LeO.bind ?_ (fun _=>?_)
theorem spec_IsWord.mono:∀ a0 k,LeO (spec_IsWord.f k a0) (spec_IsWord.f (k+1) a0):=by
 intro a0 k
 have ih0:=spec_IsWord.mono_l k
 unfold spec_IsWord.f
 repeat' first
  | with_reducible first|exact ih0 _ _|exact spec_LetterIndex.mono _ _|exact LeO.refl _|exact LeO.none _|refine LeO.ite ?_ ?_|refine LeO.bind ?_ (fun _=>?_)
theorem spec_IsWord.calls (k:Nat) (a0:ByteArray) (r:Bool) (w:World) (h:spec_IsWord.f k a0=some r) :
   Calls Tryz.prog 84 #[.string a0] w fun e w'=>e = .returned (.bool r)∧Drawn0 w w':=by
 have H:(spec_IsWord.l0 k a0 0)=some r:=h
 clear h
 have H':=zk H
 clear H
 go_enter Tryz.func84,Tryz.ntmps84
 go_wp2
 first|go_loopg [3] k (fun kq v3 w'=>∃ (x3_1:Int),v3 = .int .i64 x3_1∧Aside0 (spec_IsWord.l0 kq a0 x3_1=some r)∧Aside0 (kq≤k)∧Drawn0 w w')|(simp only [Act.put,zt,zv,zu];go_loopg [3] k (fun kq v3 w'=>∃ (x3_1:Int),v3 = .int .i64 x3_1∧Aside0 (spec_IsWord.l0 kq a0 x3_1=some r)∧Aside0 (kq≤k)∧Drawn0 w w'))
 case atStart=>exact ⟨(0),za7,H',⟨Nat.le_refl _⟩,za10⟩
 case round =>
  clear H'
  obtain ⟨x3_1,rfl,HA,HK1,⟨m1,rfl⟩⟩:=hrel
  cases gk with
  | zero=>exact absurd HA.out (by simp [spec_IsWord.l0])
  | succ k1 =>
   have H:=HA.out
   clear HA
   simp only [spec_IsWord.l0] at H
   by_cases c2:x3_1 < (a0.size:Int)
   rw [if_pos c2] at H
   have c2b0:decide (x3_1 < (a0.size:Int))=true:=decide_eq_true c2
   clear c2
   by_cases c3:0≤x3_1
   rw [if_pos c3] at H
   have c3b0:decide (0≤x3_1)=true:=decide_eq_true c3
   clear c3
   replace H:=zo H
   obtain ⟨t84001,A50,H⟩:=H
   replace H:(if t84001 < 0 then (some false) else (spec_IsWord.l0 k1 a0 (wrap64 (x3_1+1))))=some r:=H
   have A5:=zk A50
   clear A50
   by_cases c6:t84001 < 0
   rw [if_pos c6] at H
   have c6b0:decide (t84001 < 0)=true:=decide_eq_true c6
   clear c6
   obtain rfl:=zi H
   have fin0_:=zk trivial
   rotate_left
   rw [if_neg c6] at H
   have c6b0:decide (t84001 < 0)=false:=decide_eq_false c6
   clear c6
   have H':=zk H
   clear H
   have fin1_:=zk trivial
   rotate_left
   · rw [if_neg c3] at H
     exact absurd H (by simp)
   · rw [if_neg c2] at H
     have c2b0:decide (x3_1 < (a0.size:Int))=false:=decide_eq_false c2
     clear c2
     obtain rfl:=zi H
     go_wp2
     go_ret
     exact ⟨za7,za10⟩
   all_goals
    have p4:0≤(x3_1:Int):=of_decide_eq_true za8
    have q4:x3_1 < (a0.size:Int):=of_decide_eq_true za8
    have hx4:=bt_at a0 x3_1
    replace p4:=eq_true p4
    replace q4:=eq_true q4
    go_wp2_with (((with_reducible refine gate_callee (f:=117) rfl ?_);refine goesL_ (some 13) rfl rfl Tryz.func117 (by kernel_rfl) rfl #[.int .u8 (bt a0 x3_1)] rfl za4 ?_;(with_reducible refine (spec_LetterIndex.calls k1 (bt a0 x3_1) t84001 _ A5.out).mono ?_);rintro e w' ⟨rfl,⟨nd,rfl⟩⟩;refine ⟨_,rfl,?_⟩))
    first
    | (
      clear fin0_
      go_ret
      exact ⟨za7,za10⟩)
    | (
      clear fin1_
      go_roundg k1
      case measure=>have:=HK1.out;omega
      case rel=>exact ⟨(wrap64 (x3_1+1)),za7,H',⟨za15⟩,za10⟩)
mutual
def spec_WordsOfLength.l0:Nat→Int→List ByteArray→Int→Option (List ByteArray)
 | 0,_,_,_=>none
 | k+1,x0,x3,x4=>if x4 < x0 then (spec_WordsOfLength.l1 k x0 x3 x4 (([]:List ByteArray)) 0) else (some x3)
def spec_WordsOfLength.l1:Nat→Int→List ByteArray→Int→List ByteArray→Int→Option (List ByteArray)
 | 0,_,_,_,_,_=>none
 | k+1,x0,x3,x4,x5,x6=>if x6 < (x3.length:Int) then (spec_WordsOfLength.l2 k x0 x3 x4 x5 x6 0) else (spec_WordsOfLength.l0 k x0 x5 (wrap64 (x4+1)))
def spec_WordsOfLength.l2:Nat→Int→List ByteArray→Int→List ByteArray→Int→Int→Option (List ByteArray)
 | 0,_,_,_,_,_,_=>none
 | k+1,x0,x3,x4,x5,x6,x7=>if x7 < 3 then (if 0≤x6 then (if x6 < (x3.length:Int) then (if 0≤x7 then (if x7≤(wrap64 (x7+1)) then (if (wrap64 (x7+1))≤3 then (if (rdOf ByteArray.empty x3 x6).size+((⟨#[97,98,99]⟩:ByteArray).extract (x7:Int).toNat ((wrap64 (x7+1)):Int).toNat).size≤9223372036854775807 then (if x5.length < 8796093022208 then (spec_WordsOfLength.l2 k x0 x3 x4 (x5 ++ [(rdOf ByteArray.empty x3 x6) ++ ((⟨#[97,98,99]⟩:ByteArray).extract (x7:Int).toNat ((wrap64 (x7+1)):Int).toNat)]) x6 (wrap64 (x7+1))) else (none)) else (none)) else (none)) else (none)) else (none)) else (none)) else (none)) else (spec_WordsOfLength.l1 k x0 x3 x4 x5 (wrap64 (x6+1)))
end
def spec_WordsOfLength.f (k:Nat) (a0:Int):Option (List ByteArray):=(spec_l1In.f a0 0 5).bind fun t70001=>(if t70001=true then (spec_WordsOfLength.l0 k a0 (([(⟨#[]⟩:ByteArray)]:List ByteArray)) 0) else (some (([]:List ByteArray))))
theorem spec_WordsOfLength.mono_l:∀ k,(∀ y0 y1 y2,LeO (spec_WordsOfLength.l0 k y0 y1 y2) (spec_WordsOfLength.l0 (k+1) y0 y1 y2))∧(∀ y0 y1 y2 y3 y4,LeO (spec_WordsOfLength.l1 k y0 y1 y2 y3 y4) (spec_WordsOfLength.l1 (k+1) y0 y1 y2 y3 y4))∧(∀ y0 y1 y2 y3 y4 y5,LeO (spec_WordsOfLength.l2 k y0 y1 y2 y3 y4 y5) (spec_WordsOfLength.l2 (k+1) y0 y1 y2 y3 y4 y5))
 | 0=>⟨fun _ _ _ r h=>by simp [spec_WordsOfLength.l0] at h,fun _ _ _ _ _ r h=>by simp [spec_WordsOfLength.l1] at h,fun _ _ _ _ _ _ r h=>by simp [spec_WordsOfLength.l2] at h⟩
 | k+1=>by
  obtain ⟨ih0,ih1,ih2⟩:=spec_WordsOfLength.mono_l k
  refine ⟨?_,?_,?_⟩
  ·intro y0 y1 y2
   unfold spec_WordsOfLength.l0
   repeat' first
   | with_reducible first|exact ih0 _ _ _|exact ih1 _ _ _ _ _|exact ih2 _ _ _ _ _ _|exact LeO.refl _|exact LeO.none _|refine LeO.ite ?_ ?_|refine LeO.bind ?_ (fun _=>?_)
  ·intro y0 y1 y2 y3 y4
   unfold spec_WordsOfLength.l1
   repeat' first
   | with_reducible first|exact ih0 _ _ _|exact ih1 _ _ _ _ _|exact ih2 _ _ _ _ _ _|exact LeO.refl _|exact LeO.none _|refine LeO.ite ?_ ?_|refine LeO.bind ?_ (fun _=>?_)
  ·intro y0 y1 y2 y3 y4 y5
   unfold spec_WordsOfLength.l2
   repeat' first
   | with_reducible first|exact ih0 _ _ _|exact ih1 _ _ _ _ _|exact ih2 _ _ _ _ _ _|exact LeO.refl _|exact LeO.none _|refine LeO.ite ?_ ?_|refine LeO.bind ?_ (fun _=>?_)
theorem spec_WordsOfLength.mono:∀ a0 k,LeO (spec_WordsOfLength.f k a0) (spec_WordsOfLength.f (k+1) a0):=by
 intro a0 k
 obtain ⟨ih0,ih1,ih2⟩:=spec_WordsOfLength.mono_l k
 unfold spec_WordsOfLength.f
 repeat' first
  | with_reducible first|exact ih0 _ _ _|exact ih1 _ _ _ _ _|exact ih2 _ _ _ _ _ _|exact LeO.refl _|exact LeO.none _|refine LeO.ite ?_ ?_|refine LeO.bind ?_ (fun _=>?_)
def spec_WordsOfLength.T14:Bool × List (List Nat × List Nat):=(true,[([],[]),([],[]),([],[]),([1,2],[1,2]),([3],[3]),([],[]),([],[]),([6],[6]),([5,7],[5,7]),([4,8],[4,8]),([9],[9]),([0,10],[0,10]),([11,11,0,1,2,3,4,5,6,7,8,9,10,11],[0,11])])
def spec_WordsOfLength.B14:List Nat:=[0,0,0,6,14,0,0,64,224,510,1022,2047,4095]
theorem spec_WordsOfLength.tab14:rtab .any (opsOf Tryz.f70 14)=spec_WordsOfLength.T14:=by kernel_rfl
theorem spec_WordsOfLength.bits14:waitsOk spec_WordsOfLength.T14.2 spec_WordsOfLength.B14=true:=by kernel_rfl
theorem spec_WordsOfLength.calls (k:Nat) (a0:Int) (r:List ByteArray) (w:World) (h:spec_WordsOfLength.f k a0=some r) :
  Calls Tryz.prog 70 #[.int .i64 a0] w fun e w'=>∃ v0_:Value,e = .returned (v0_)∧Kd.R Kd.string 9 w' w.heap.size (fun _=>True) v0_ r∧Below w.heap.size w w':=by
 have HB:=zk (Below.refl w.heap.size w)
 have H:((spec_l1In.f a0 0 5).bind fun t70001=>(if t70001=true then (spec_WordsOfLength.l0 k a0 (([(⟨#[]⟩:ByteArray)]:List ByteArray)) 0) else (some (([]:List ByteArray)))))=some r:=h
 clear h
 replace H:=zo H
 obtain ⟨t70001,A20,H⟩:=H
 replace H:(if t70001=true then (spec_WordsOfLength.l0 k a0 (([(⟨#[]⟩:ByteArray)]:List ByteArray)) 0) else (some (([]:List ByteArray))))=some r:=H
 have A2:=zk A20
 clear A20
 by_cases c3:t70001=true
 ·subst c3
  have H1:(spec_WordsOfLength.l0 k a0 (([(⟨#[]⟩:ByteArray)]:List ByteArray)) 0)=some r:=by rw [if_pos rfl] at H;exact H
  clear H
  have H:=H1
  clear H1
  obtain ⟨y70005,hy70005⟩:∃ y_:List ByteArray,y_=(([(⟨#[]⟩:ByteArray)]:List ByteArray)):=⟨_,rfl⟩
  replace H:(spec_WordsOfLength.l0 k a0 y70005 0)=some r:=by first|(rw [hy70005];with_reducible exact H)|(have H2_:=(Option.bind_some _ _).symm.trans H;rw [hy70005];with_reducible exact H2_)|(have H2_:=(Option.bind_some _ _).symm.trans H;with_reducible exact H2_)|with_reducible exact H|(rw [hy70005];exact H)|exact H
  have Ny70005:=zk hy70005
  clear hy70005
  have H':=zk H
  clear H
  go_enter Tryz.func70,Tryz.ntmps70
  go_wp2_with (first|((with_reducible refine gate_callee (f:=101) rfl ?_);refine goesL_ (some 9) rfl rfl Tryz.func101 (by kernel_rfl) rfl #[.int .i64 a0,.int .i64 0,.int .i64 5] rfl za4 ?_;(with_reducible refine (spec_l1In.calls a0 0 5 _ _ A2.out).mono ?_);rintro e w' ⟨rfl,⟨nd,rfl⟩⟩;refine ⟨_,rfl,?_⟩)|((with_reducible refine gate_dst (N:=12) rfl ?_);refine Kd.R_lit Kd.string _ 9 ?hg (N:=12) ?hd (xs:=([(⟨#[]⟩:ByteArray)]:List ByteArray)) (inner:=[.string (⟨#[]⟩:ByteArray)]) (ok:=fun _=>True) (okp:=fun _=>True) ?hr ?hp (fun _ hk=>hk) trivial (Below.refl _ _) (Nat.le_refl _) (by simp) ?_;(case hd=>rfl);(case hg=>rfl);(case hr=>first|(go_simp;done)|(go_simp;rfl));(case hp=>exact (Reps.one (show Kd.M Kd.string _ _ _ (⟨#[]⟩:ByteArray) [.string (⟨#[]⟩:ByteArray)] from rfl) (Reps.none _ _)));intro v70006 w4 ho5 hb hg_ hnew_;clear hg_ hnew_;(first|rw [← Ny70005.out] at ho5|(simp only [Int.reduceToNat] at ho5;rw [← Ny70005.out] at ho5));have n0_:=zk (Kd.R_lower ho5 (below_size za3));have n1_:=zk (below_step za3 hb);clear HB;have HO70007:=n0_;have HB:=n1_;clear n0_ n1_;clear hb ho5))
  first|go_loopg [3,4] k (fun kq v3 v4 w'=>∃ (x3_1:List ByteArray) (x4_1:Int),v4 = .int .i64 x4_1∧Aside0 (spec_WordsOfLength.l0 kq a0 x3_1 x4_1=some r)∧Aside0 (kq≤k)∧Aside0 (Kd.R Kd.string 9 w' w.heap.size (fun _=>True) v3 x3_1)∧Aside0 (Below w.heap.size w w'))|(simp only [Act.put,zt,zv,zu];go_loopg [3,4] k (fun kq v3 v4 w'=>∃ (x3_1:List ByteArray) (x4_1:Int),v4 = .int .i64 x4_1∧Aside0 (spec_WordsOfLength.l0 kq a0 x3_1 x4_1=some r)∧Aside0 (kq≤k)∧Aside0 (Kd.R Kd.string 9 w' w.heap.size (fun _=>True) v3 x3_1)∧Aside0 (Below w.heap.size w w')))
  case atStart=>exact ⟨(y70005),(0),za7,H',⟨Nat.le_refl _⟩,⟨za0 HO70007.out⟩,⟨za3⟩⟩
  case round =>
   clear H'
   try clear c3
   obtain ⟨x3_1,x4_1,rfl,HA,HK1,HO_3,HB⟩:=hrel
   cases gk with
   | zero=>exact absurd HA.out (by simp [spec_WordsOfLength.l0])
   | succ k1 =>
    have H:=HA.out
    clear HA
    simp only [spec_WordsOfLength.l0] at H
    by_cases c6:x4_1 < a0
    ·rw [if_pos c6] at H
     have c6b0:decide (x4_1 < a0)=true:=decide_eq_true c6
     clear c6
     obtain ⟨y70008,hy70008⟩:∃ y_:List ByteArray,y_=(([]:List ByteArray)):=⟨_,rfl⟩
     replace H:(spec_WordsOfLength.l1 k1 a0 x3_1 x4_1 y70008 0)=some r:=by first|(rw [hy70008];with_reducible exact H)|(have H2_:=(Option.bind_some _ _).symm.trans H;rw [hy70008];with_reducible exact H2_)|(have H2_:=(Option.bind_some _ _).symm.trans H;with_reducible exact H2_)|with_reducible exact H|(rw [hy70008];exact H)|exact H
     have Ny70008:=zk hy70008
     clear hy70008
     have H':=zk H
     clear H
     go_wp2_with (first|((with_reducible refine gate_dst (N:=18) rfl ?_);refine Kd.R_lit Kd.string _ 9 ?hg (N:=18) ?hd (xs:=([]:List ByteArray)) (inner:=[]) (ok:=fun _=>True) (okp:=fun _=>True) ?hr ?hp (fun _ hk=>hk) trivial (Below.refl _ _) (Nat.le_refl _) (by simp) ?_;(case hd=>rfl);(case hg=>rfl);(case hr=>first|(go_simp;done)|(go_simp;rfl));(case hp=>exact (Reps.none _ _));intro v70009 w7 ho8 hb hg_ hnew_;clear hg_ hnew_;(first|rw [← Ny70008.out] at ho8|(simp only [Int.reduceToNat] at ho8;rw [← Ny70008.out] at ho8));have n0_:=zk (Kd.R_elder' (za0 HO_3.out) (Kd.R_base ho8) hb);have n1_:=zk (Kd.R_lower (Kd.R_new' ho8 (Kd.R_lt (za0 HO_3.out))) (below_size za3));have n2_:=zk (below_step za3 hb);clear HO_3;clear HB;have HO_3:=n0_;have HO70010:=n1_;have HB:=n2_;clear n0_ n1_ n2_;clear hb ho8))
     first|go_loopg [5,6] k1 (fun kq v5 v6 w'=>∃ (x5_2:List ByteArray) (x6_2:Int),v6 = .int .i64 x6_2∧Aside0 (spec_WordsOfLength.l1 kq a0 x3_1 x4_1 x5_2 x6_2=some r)∧Aside0 (kq≤k1)∧Aside0 (Kd.R Kd.string 9 w' w.heap.size (fun k_=>some k_ ≠ (v5:Value).ownBlock) u3 x3_1)∧Aside0 (Kd.R Kd.string 9 w' w.heap.size (fun k_=>some k_ ≠ (u3:Value).ownBlock) v5 x5_2)∧Aside0 (Below w.heap.size w w'))|(simp only [Act.put,zt,zv,zu];go_loopg [5,6] k1 (fun kq v5 v6 w'=>∃ (x5_2:List ByteArray) (x6_2:Int),v6 = .int .i64 x6_2∧Aside0 (spec_WordsOfLength.l1 kq a0 x3_1 x4_1 x5_2 x6_2=some r)∧Aside0 (kq≤k1)∧Aside0 (Kd.R Kd.string 9 w' w.heap.size (fun k_=>some k_ ≠ (v5:Value).ownBlock) u3 x3_1)∧Aside0 (Kd.R Kd.string 9 w' w.heap.size (fun k_=>some k_ ≠ (u3:Value).ownBlock) v5 x5_2)∧Aside0 (Below w.heap.size w w')))
     case atStart=>exact ⟨(y70008),(0),za7,H',⟨Nat.le_refl _⟩,⟨za21⟩,⟨by (with_reducible repeat (first|apply Kd.R_alloc|apply Kd.R_drewN|apply Kd.R_drew));exact Kd.R_mono HO70010.out (fun _ hk=>hk.2)⟩,⟨za3⟩⟩
     case round =>
      clear H'
      try clear c3
      try clear c6
      try clear c6b0
      obtain ⟨x5_2,x6_2,rfl,HA,HK2,HO_3,HO_5,HB⟩:=hrel
      cases gk with
      | zero=>exact absurd HA.out (by simp [spec_WordsOfLength.l1])
      | succ k2 =>
       have H:=HA.out
       clear HA
       simp only [spec_WordsOfLength.l1] at H
       by_cases c9:x6_2 < (x3_1.length:Int)
       ·rw [if_pos c9] at H
        have c9b0:decide (x6_2 < (x3_1.length:Int))=true:=decide_eq_true c9
        clear c9
        have H':=zk H
        clear H
        obtain ⟨Ao10,co10,eo10⟩:=Kd.R_slice HO_3.out
        subst eo10
        go_wp2
        first|go_loopg [5,7] k2 (fun kq v5 v7 w'=>∃ (x5_3:List ByteArray) (x7_3:Int),v7 = .int .i64 x7_3∧Aside0 (spec_WordsOfLength.l2 kq a0 x3_1 x4_1 x5_3 x6_2 x7_3=some r)∧Aside0 (kq≤k2)∧Aside0 (Kd.R Kd.string 9 w' w.heap.size (fun k_=>some k_ ≠ (v5:Value).ownBlock) (.slice Ao10 x3_1.length co10) x3_1)∧Aside0 (Kd.R Kd.string 9 w' w.heap.size (fun k_=>some k_ ≠ ((.slice Ao10 x3_1.length co10):Value).ownBlock) v5 x5_3)∧Aside0 (Below w.heap.size w w'))|(simp only [Act.put,zt,zv,zu];go_loopg [5,7] k2 (fun kq v5 v7 w'=>∃ (x5_3:List ByteArray) (x7_3:Int),v7 = .int .i64 x7_3∧Aside0 (spec_WordsOfLength.l2 kq a0 x3_1 x4_1 x5_3 x6_2 x7_3=some r)∧Aside0 (kq≤k2)∧Aside0 (Kd.R Kd.string 9 w' w.heap.size (fun k_=>some k_ ≠ (v5:Value).ownBlock) (.slice Ao10 x3_1.length co10) x3_1)∧Aside0 (Kd.R Kd.string 9 w' w.heap.size (fun k_=>some k_ ≠ ((.slice Ao10 x3_1.length co10):Value).ownBlock) v5 x5_3)∧Aside0 (Below w.heap.size w w')))
        case atStart=>exact ⟨(x5_2),(0),za7,H',⟨Nat.le_refl _⟩,⟨za0 HO_3.out⟩,⟨za0 HO_5.out⟩,⟨za3⟩⟩
        case round =>
         clear H'
         try clear c3
         try clear c6
         try clear c6b0
         try clear c9
         try clear c9b0
         obtain ⟨x5_3,x7_3,rfl,HA,HK3,HO_3,HO_5,HB⟩:=hrel
         cases gk with
         | zero=>exact absurd HA.out (by simp [spec_WordsOfLength.l2])
         | succ k3 =>
          have H:=HA.out
          clear HA
          simp only [spec_WordsOfLength.l2] at H
          by_cases c11:x7_3 < 3
          rw [if_pos c11] at H
          have c11b0:decide (x7_3 < 3)=true:=decide_eq_true c11
          clear c11
          by_cases c12:0≤x6_2
          rw [if_pos c12] at H
          have c12b0:decide (0≤x6_2)=true:=decide_eq_true c12
          clear c12
          by_cases c13:x6_2 < (x3_1.length:Int)
          rw [if_pos c13] at H
          have c13b0:decide (x6_2 < (x3_1.length:Int))=true:=decide_eq_true c13
          clear c13
          by_cases c14:0≤x7_3
          rw [if_pos c14] at H
          have c14b0:=eq_true c14
          have c14b1:decide (0≤x7_3)=true:=decide_eq_true c14
          clear c14
          by_cases c15:x7_3≤(wrap64 (x7_3+1))
          rw [if_pos c15] at H
          have c15b0:=eq_true c15
          have c15b1:decide (x7_3≤(wrap64 (x7_3+1)))=true:=decide_eq_true c15
          by_cases c16:(wrap64 (x7_3+1))≤3
          rw [if_pos c16] at H
          have c16b0:=eq_true c16
          have c16b1:decide ((wrap64 (x7_3+1))≤3)=true:=decide_eq_true c16
          by_cases c17:(rdOf ByteArray.empty x3_1 x6_2).size+((⟨#[97,98,99]⟩:ByteArray).extract (x7_3:Int).toNat ((wrap64 (x7_3+1)):Int).toNat).size≤9223372036854775807
          rw [if_pos c17] at H
          have c17z:=c17
          try simp at c17z
          try replace c17z:=eq_false (Nat.not_lt.2 c17z)
          have c17b0:=eq_true c17
          have c17b1:decide ((rdOf ByteArray.empty x3_1 x6_2).size+((⟨#[97,98,99]⟩:ByteArray).extract (x7_3:Int).toNat ((wrap64 (x7_3+1)):Int).toNat).size≤9223372036854775807)=true:=decide_eq_true c17
          try have c17b2:(9223372036854775807 < (rdOf ByteArray.empty x3_1 x6_2).size+((⟨#[97,98,99]⟩:ByteArray).extract (x7_3:Int).toNat ((wrap64 (x7_3+1)):Int).toNat).size)=False:=eq_false (Nat.not_lt.2 c17)
          by_cases c18:x5_3.length < 8796093022208
          ·rw [if_pos c18] at H
           have LMc18:=zk c18
           clear c18
           obtain ⟨y70012,hy70012⟩:∃ y_:List ByteArray,y_=(x5_3 ++ [(rdOf ByteArray.empty x3_1 x6_2) ++ ((⟨#[97,98,99]⟩:ByteArray).extract (x7_3:Int).toNat ((wrap64 (x7_3+1)):Int).toNat)]):=⟨_,rfl⟩
           replace H:(spec_WordsOfLength.l2 k3 a0 x3_1 x4_1 y70012 x6_2 (wrap64 (x7_3+1)))=some r:=by first|(rw [hy70012];with_reducible exact H)|(have H2_:=(Option.bind_some _ _).symm.trans H;rw [hy70012];with_reducible exact H2_)|(have H2_:=(Option.bind_some _ _).symm.trans H;with_reducible exact H2_)|with_reducible exact H|(rw [hy70012];exact H)|exact H
           have Ny70012:=zk hy70012
           clear hy70012
           have H':=zk H
           clear H
           try go_wp2
           have n0_:=zk (Kd.R_drew HO_3.out)
           have n1_:=zk (Kd.R_drew HO_5.out)
           have n2_:=zk (below_drew1 HB.out)
           clear HO_3
           clear HO_5
           clear HB
           have HO_3:=n0_
           have HO_5:=n1_
           have HB:=n2_
           clear n0_ n1_ n2_
           have p70011:0≤(x6_2:Int):=of_decide_eq_true za8
           have q70011:x6_2 < (x3_1.length:Int):=of_decide_eq_true za8
           obtain ⟨ad70011,e70011,hx70011_0⟩:=Kd.at_string (Kd.R_reads' HO_3.out).2.2 x6_2 p70011 q70011
           cases e70011
           replace p70011:=eq_true p70011
           replace q70011:=eq_true q70011
           refine start_ (n:=13) (S:=fun w'=>w'.cell? (ad70011.add (x6_2).toNat)=some (.string (rdOf ByteArray.empty x3_1 x6_2))) (ds:=[10,11]) #[false,false,false,false,false,false,false,false,false,false,false,false,false] (by kernel_rfl) rfl rfl (hx70011_0) (fun hHeld=>?_);refine with_tabW spec_WordsOfLength.tab14 spec_WordsOfLength.bits14 (fun HT_ HW_=>?_)
           generalize wr.drew=w19 at HO_3 HO_5 HB hx70011_0 hHeld ⊢
           refine pure_ (i:=0) (N:=some 29) (v:=?_) (a':=?_) #[true,false,false,false,false,false,false,false,false,false,false,false,false] rfl rfl (any_of HT_.out (by kernel_rfl)) (fun _ _ _ h=>h) (Or.inl ⟨by rfl,?_⟩) ?_ ?_
           rotate_left
           ·intro w'
            go_simp
            exact zr0
           rotate_left
           ·simp only [Act.put,zt,zu,zv,i64_w,i32_w]
            rfl
           refine pure_ (i:=1) (N:=some 30) (v:=?_) (a':=?_) #[true,true,false,false,false,false,false,false,false,false,false,false,false] rfl rfl (any_of HT_.out (by kernel_rfl)) (fun _ _ _ h=>h) (Or.inl ⟨by rfl,?_⟩) ?_ ?_
           rotate_left
           ·intro w'
            go_simp
            exact zr0
           rotate_left
           ·simp only [Act.put,zt,zu,zv,i64_w,i32_w]
            rfl
           refine pure_ (i:=2) (N:=some 31) (v:=?_) (a':=?_) #[true,true,true,false,false,false,false,false,false,false,false,false,false] rfl rfl (any_of HT_.out (by kernel_rfl)) (fun _ _ _ h=>h) (Or.inl ⟨by rfl,?_⟩) ?_ ?_
           rotate_left
           ·intro w'
            go_simp
            exact zr0
           rotate_left
           ·simp only [Act.put,zt,zu,zv,i64_w,i32_w]
            rfl
           refine pure_ (i:=3) (N:=some 32) (v:=?_) (a':=?_) #[true,true,true,true,false,false,false,false,false,false,false,false,false] rfl rfl (any_of HT_.out (by kernel_rfl)) (fun _ _ _ h=>h) (Or.inl ⟨by rfl,?_⟩) ?_ ?_
           rotate_left
           ·intro w'
            go_simp
            exact zr0
           rotate_left
           ·simp only [Act.put,zt,zu,zv,i64_w,i32_w]
            rfl
           refine pure_ (i:=5) (N:=some 34) (v:=?_) (a':=?_) #[true,true,true,true,false,true,false,false,false,false,false,false,false] rfl rfl (any_of HT_.out (by kernel_rfl)) (fun _ _ _ h=>h) (Or.inl ⟨by rfl,?_⟩) ?_ ?_
           rotate_left
           ·intro w'
            go_simp
            exact zr0
           rotate_left
           ·simp only [Act.put,zt,zu,zv,i64_w,i32_w]
            rfl
           refine pure_ (i:=6) (N:=some 35) (v:=?_) (a':=?_) #[true,true,true,true,false,true,true,false,false,false,false,false,false] rfl rfl (any_of HT_.out (by kernel_rfl)) (fun _ _ _ h=>h) (Or.inl ⟨by rfl,?_⟩) ?_ ?_
           rotate_left
           ·intro w'
            go_simp
            exact zr0
           rotate_left
           ·simp only [Act.put,zt,zu,zv,i64_w,i32_w]
            rfl
           refine pure_ (i:=7) (N:=some 36) (v:=?_) (a':=?_) #[true,true,true,true,false,true,true,true,false,false,false,false,false] rfl rfl (any_of HT_.out (by kernel_rfl)) (fun _ _ _ h=>h) (Or.inl ⟨by rfl,?_⟩) ?_ ?_
           rotate_left
           ·intro w'
            go_simp
            exact zr0
           rotate_left
           ·simp only [Act.put,zt,zu,zv,i64_w,i32_w]
            rfl
           refine pure_ (i:=8) (N:=some 37) (v:=?_) (a':=?_) #[true,true,true,true,false,true,true,true,true,false,false,false,false] rfl rfl (any_of HT_.out (by kernel_rfl)) (fun _ _ _ h=>h) (Or.inl ⟨by rfl,?_⟩) ?_ ?_
           rotate_left
           ·intro w'
            go_simp
            exact zr0
           rotate_left
           ·simp only [Act.put,zt,zu,zv,i64_w,i32_w]
            rfl
           refine take_ (i:=4) (N:=some 33) (v:=?_) (a':=?_) #[true,true,true,true,true,true,true,true,true,false,false,false,false] rfl rfl (take_ofW HT_.out HW_.out (by kernel_rfl)) (fun _ _ _ h=>h) (Or.inl ⟨by rfl,?_⟩) hHeld ?_ ?_
           rotate_left
           ·intro w' s0
            go_simp
            exact zr0
           rotate_left
           ·simp only [Act.put,zt,zu,zv,i64_w,i32_w]
            rfl
           refine pure_ (i:=9) (N:=some 38) (v:=?_) (a':=?_) #[true,true,true,true,true,true,true,true,true,true,false,false,false] rfl rfl (any_of HT_.out (by kernel_rfl)) (fun _ _ _ h=>h) (Or.inl ⟨by rfl,?_⟩) ?_ ?_
           rotate_left
           ·intro w'
            go_simp
            exact zr0
           rotate_left
           ·simp only [Act.put,zt,zu,zv,i64_w,i32_w]
            rfl
           refine last_ (i:=10) (N:=some 39) #[true,true,true,true,true,true,true,true,true,true,true,false,false] rfl rfl (one_of HT_.out (by kernel_rfl)) (by decide) (fun K hK=>?_)
           refine value_ (w1:=?_) (v:=?_) (by rfl) rfl ?_ ?_
           rotate_left 2
           ·go_simp
            constructor
            ·rfl
            ·rfl
           refine hK.out _ _ ?_
           clear hK K
           refine norm_ (a':=?_) ?_ ?_
           rotate_left
           ·show Act.put _ (some 39) _=_
            simp only [Act.put,zt,zu,zv,i64_w,i32_w]
            rfl
           refine last_ (i:=11) (N:=some 40) #[true,true,true,true,true,true,true,true,true,true,true,true,false] rfl rfl (one_of HT_.out (by kernel_rfl)) (by decide) (fun K hK=>?_)
           refine Kd.R_append_step Kd.string (w0:=w) w.heap.size (by rfl) (.tmp 29) (.tmp 39) 53 9 (.string ⟨#[]⟩) 16 rfl Tryz.underlying53 info9 rfl (by decide) (by omega) u5 x5_3 ((rdOf ByteArray.empty x3_1 x6_2) ++ ((⟨#[97,98,99]⟩:ByteArray).extract (x7_3:Int).toNat ((wrap64 (x7_3+1)):Int).toNat)) [.string ((rdOf ByteArray.empty x3_1 x6_2) ++ ((⟨#[97,98,99]⟩:ByteArray).extract (x7_3:Int).toNat ((wrap64 (x7_3+1)):Int).toNat))] (fun k_=>some k_ ≠ (.slice (some ad70011) x3_1.length co10:Value).ownBlock) (fun _=>False) rfl rfl ?aP (fun _ hk=>hk.elim) ?aF ?aO ?aB ?aS ?aL ?_
           (case aP=>exact rfl)
           (case aB=>exact za3)
           (case aF=>exact (fun k_ hk=>Kd.fresh' (Kd.R_lt (za0 HO_3.out)) k_ hk))
           (case aO=>exact (za0 HO_5.out))
           (case aS=>exact (below_size za3))
           (case aL=>have:=LMc18.out;omega)
           intro v70013 w20 ho hb hg hat
           rw [← Ny70012.out] at ho
           have n0_:=zk (Kd.R_after (ok:=(fun _=>True)) (by (with_reducible repeat (first|apply Kd.R_alloc|apply Kd.R_drewN|apply Kd.R_drew));exact Kd.R_mono HO_3.out (fun _ hk=>⟨trivial,hk⟩)) hg hat)
           have n1_:=zk (hb)
           have n2_:=zk (ho)
           clear HO_3
           clear HB
           clear HO_5
           have HO_3:=n0_
           have HB:=n1_
           have HO70014:=n2_
           clear n0_ n1_ n2_
           clear ho hb hg hat
           refine hK.out _ _ ?_
           clear hK K
           refine norm_ (a':=?_) ?_ ?_
           rotate_left
           ·show Act.put _ (some 40) _=_
            simp only [Act.put,zt,zu,zv,i64_w,i32_w]
            rfl
           refine pure_ (i:=12) (N:=some 5) (v:=?_) (a':=?_) #[true,true,true,true,true,true,true,true,true,true,true,true,true] rfl rfl (any_of HT_.out (by kernel_rfl)) (fun _ _ _ h=>h) (Or.inl ⟨by rfl,?_⟩) ?_ ?_
           rotate_left
           ·intro w'
            go_simp
            exact zr0
           rotate_left
           ·simp only [Act.put,zt,zu,zv,i64_w,i32_w]
            rfl
           refine done_ (done_of HT_.out (by kernel_rfl)) ?_
           try go_wp2
           go_roundg k3
           case measure=>have:=HK1.out;have:=HK2.out;have:=HK3.out;omega
           case rel=>exact ⟨(y70012),(wrap64 (x7_3+1)),za7,H',⟨za34⟩,⟨za21⟩,⟨za0 HO70014.out⟩,⟨za3⟩⟩
          ·rw [if_neg c18] at H
           exact absurd H (by simp)
          ·rw [if_neg c17] at H
           exact absurd H (by simp)
          ·rw [if_neg c16] at H
           exact absurd H (by simp)
          ·rw [if_neg c15] at H
           exact absurd H (by simp)
          ·rw [if_neg c14] at H
           exact absurd H (by simp)
          ·rw [if_neg c13] at H
           exact absurd H (by simp)
          ·rw [if_neg c12] at H
           exact absurd H (by simp)
          ·rw [if_neg c11] at H
           have c11b0:decide (x7_3 < 3)=false:=decide_eq_false c11
           clear c11
           have H':=zk H
           clear H
           go_wp2
           go_roundg k3
           case measure=>have:=HK1.out;have:=HK2.out;have:=HK3.out;omega
           case rel=>exact ⟨(x5_3),(wrap64 (x6_2+1)),za7,H',⟨za34⟩,⟨za0 HO_3.out⟩,⟨za0 HO_5.out⟩,⟨za3⟩⟩
       ·rw [if_neg c9] at H
        have c9b0:decide (x6_2 < (x3_1.length:Int))=false:=decide_eq_false c9
        clear c9
        have H':=zk H
        clear H
        obtain ⟨Ao21,co21,eo21⟩:=Kd.R_slice HO_3.out
        subst eo21
        go_wp2
        go_roundg k2
        case measure=>have:=HK1.out;have:=HK2.out;omega
        case rel=>exact ⟨(x5_2),(wrap64 (x4_1+1)),za7,H',⟨by have:=HK1.out;have:=HK2.out;omega⟩,⟨by (with_reducible repeat (first|apply Kd.R_alloc|apply Kd.R_drewN|apply Kd.R_drew));exact Kd.R_mono HO_5.out (fun _ hk=>trivial)⟩,⟨za3⟩⟩
    ·rw [if_neg c6] at H
     have c6b0:decide (x4_1 < a0)=false:=decide_eq_false c6
     clear c6
     obtain rfl:=zi H
     go_wp2
     go_ret
     exact ⟨_,za6,za0 HO_3.out,za3⟩
 ·replace c3:=Bool.eq_false_iff.mpr c3
  subst c3
  have H1:(some (([]:List ByteArray)))=some r:=by rw [if_neg (show ¬ (false=true) by decide)] at H;exact H
  clear H
  have H:=H1
  clear H1
  obtain ⟨y70002,hy70002⟩:∃ y_:List ByteArray,y_=(([]:List ByteArray)):=⟨_,rfl⟩
  replace H:(some y70002)=some r:=by first|(rw [hy70002];with_reducible exact H)|(have H2_:=(Option.bind_some _ _).symm.trans H;rw [hy70002];with_reducible exact H2_)|(have H2_:=(Option.bind_some _ _).symm.trans H;with_reducible exact H2_)|with_reducible exact H|(rw [hy70002];exact H)|exact H
  have Ny70002:=zk hy70002
  clear hy70002
  obtain rfl:=zi H
  go_enter Tryz.func70,Tryz.ntmps70
  go_wp2_with (first|((with_reducible refine gate_callee (f:=101) rfl ?_);refine goesL_ (some 9) rfl rfl Tryz.func101 (by kernel_rfl) rfl #[.int .i64 a0,.int .i64 0,.int .i64 5] rfl za4 ?_;(with_reducible refine (spec_l1In.calls a0 0 5 _ _ A2.out).mono ?_);rintro e w' ⟨rfl,⟨nd,rfl⟩⟩;refine ⟨_,rfl,?_⟩)|((with_reducible refine gate_dst (N:=11) rfl ?_);refine Kd.R_lit Kd.string _ 9 ?hg (N:=11) ?hd (xs:=([]:List ByteArray)) (inner:=[]) (ok:=fun _=>True) (okp:=fun _=>True) ?hr ?hp (fun _ hk=>hk) trivial (Below.refl _ _) (Nat.le_refl _) (by simp) ?_;(case hd=>rfl);(case hg=>rfl);(case hr=>first|(go_simp;done)|(go_simp;rfl));(case hp=>exact (Reps.none _ _));intro v70003 w22 ho23 hb hg_ hnew_;clear hg_ hnew_;(first|rw [← Ny70002.out] at ho23|(simp only [Int.reduceToNat] at ho23;rw [← Ny70002.out] at ho23));have n0_:=zk (Kd.R_lower ho23 (below_size za3));have n1_:=zk (below_step za3 hb);clear HB;have HO70004:=n0_;have HB:=n1_;clear n0_ n1_;clear hb ho23))
  go_ret
  exact ⟨_,za6,za0 HO70004.out,za3⟩
def spec_WordsUpTo.l0:Nat→Int→List ByteArray→Int→Option (List ByteArray)
 | 0,_,_,_=>none
 | k+1,x0,x3,x4=>if x4≤x0 then (if x4≤5 then ((spec_WordsOfLength.f k x4).bind fun t36004=>(if x3.length+t36004.length < 8796093022208 then (spec_WordsUpTo.l0 k x0 (x3 ++ t36004) (wrap64 (x4+1))) else (none))) else (some x3)) else (some x3)
def spec_WordsUpTo.f (k:Nat) (a0:Int):Option (List ByteArray):=spec_WordsUpTo.l0 k a0 (([]:List ByteArray)) 0
theorem spec_WordsUpTo.mono_l:∀ k,(∀ y0 y1 y2,LeO (spec_WordsUpTo.l0 k y0 y1 y2) (spec_WordsUpTo.l0 (k+1) y0 y1 y2))
 | 0=>fun _ _ _ r h=>by simp [spec_WordsUpTo.l0] at h
 | k+1=>by
  have ih0:=spec_WordsUpTo.mono_l k
  ·intro y0 y1 y2
   unfold spec_WordsUpTo.l0
   repeat' first
   | with_reducible first|exact ih0 _ _ _|exact spec_WordsOfLength.mono _ _|exact LeO.refl _|exact LeO.none _|refine LeO.ite ?_ ?_|refine LeO.bind ?_ (fun _=>?_)
theorem spec_WordsUpTo.mono:∀ a0 k,LeO (spec_WordsUpTo.f k a0) (spec_WordsUpTo.f (k+1) a0):=by
 intro a0 k
 have ih0:=spec_WordsUpTo.mono_l k
 unfold spec_WordsUpTo.f
 repeat' first
  | with_reducible first|exact ih0 _ _ _|exact spec_WordsOfLength.mono _ _|exact LeO.refl _|exact LeO.none _|refine LeO.ite ?_ ?_|refine LeO.bind ?_ (fun _=>?_)
theorem spec_WordsUpTo.calls (k:Nat) (a0:Int) (r:List ByteArray) (w:World) (h:spec_WordsUpTo.f k a0=some r) :
   Calls Tryz.prog 36 #[.int .i64 a0] w fun e w'=>∃ v0_:Value,e = .returned (v0_)∧Kd.R Kd.string 9 w' w.heap.size (fun _=>True) v0_ r∧Below w.heap.size w w':=by
 have HB:=zk (Below.refl w.heap.size w)
 have H:(spec_WordsUpTo.l0 k a0 (([]:List ByteArray)) 0)=some r:=h
 clear h
 obtain ⟨y36001,hy36001⟩:∃ y_:List ByteArray,y_=(([]:List ByteArray)):=⟨_,rfl⟩
 replace H:(spec_WordsUpTo.l0 k a0 y36001 0)=some r:=by first|(rw [hy36001];with_reducible exact H)|(have H2_:=(Option.bind_some _ _).symm.trans H;rw [hy36001];with_reducible exact H2_)|(have H2_:=(Option.bind_some _ _).symm.trans H;with_reducible exact H2_)|with_reducible exact H|(rw [hy36001];exact H)|exact H
 have Ny36001:=zk hy36001
 clear hy36001
 have H':=zk H
 clear H
 go_enter Tryz.func36,Tryz.ntmps36
 go_wp2_with (first|((with_reducible refine gate_dst (N:=5) rfl ?_);refine Kd.R_lit Kd.string _ 9 ?hg (N:=5) ?hd (xs:=([]:List ByteArray)) (inner:=[]) (ok:=fun _=>True) (okp:=fun _=>True) ?hr ?hp (fun _ hk=>hk) trivial (Below.refl _ _) (Nat.le_refl _) (by simp) ?_;(case hd=>rfl);(case hg=>rfl);(case hr=>first|(go_simp;done)|(go_simp;rfl));(case hp=>exact (Reps.none _ _));intro v36002 w2 ho3 hb hg_ hnew_;clear hg_ hnew_;(first|rw [← Ny36001.out] at ho3|(simp only [Int.reduceToNat] at ho3;rw [← Ny36001.out] at ho3));have n0_:=zk (Kd.R_lower ho3 (below_size za3));have n1_:=zk (below_step za3 hb);clear HB;have HO36003:=n0_;have HB:=n1_;clear n0_ n1_;clear hb ho3))
 first|go_loopg [3,4] k (fun kq v3 v4 w'=>∃ (x3_1:List ByteArray) (x4_1:Int),v4 = .int .i64 x4_1∧Aside0 (spec_WordsUpTo.l0 kq a0 x3_1 x4_1=some r)∧Aside0 (kq≤k)∧Aside0 (Kd.R Kd.string 9 w' w.heap.size (fun _=>True) v3 x3_1)∧Aside0 (Below w.heap.size w w'))|(simp only [Act.put,zt,zv,zu];go_loopg [3,4] k (fun kq v3 v4 w'=>∃ (x3_1:List ByteArray) (x4_1:Int),v4 = .int .i64 x4_1∧Aside0 (spec_WordsUpTo.l0 kq a0 x3_1 x4_1=some r)∧Aside0 (kq≤k)∧Aside0 (Kd.R Kd.string 9 w' w.heap.size (fun _=>True) v3 x3_1)∧Aside0 (Below w.heap.size w w')))
 case atStart=>exact ⟨(y36001),(0),za7,H',⟨Nat.le_refl _⟩,⟨za0 HO36003.out⟩,⟨za3⟩⟩
 case round =>
  clear H'
  obtain ⟨x3_1,x4_1,rfl,HA,HK1,HO_3,HB⟩:=hrel
  cases gk with
  | zero=>exact absurd HA.out (by simp [spec_WordsUpTo.l0])
  | succ k1 =>
   have H:=HA.out
   clear HA
   simp only [spec_WordsUpTo.l0] at H
   by_cases c4:x4_1≤a0
   rw [if_pos c4] at H
   have c4b0:decide (x4_1≤a0)=true:=decide_eq_true c4
   clear c4
   by_cases c5:x4_1≤5
   rw [if_pos c5] at H
   have c5b0:decide (x4_1≤5)=true:=decide_eq_true c5
   clear c5
   replace H:=zo H
   obtain ⟨t36004,A60,H⟩:=H
   replace H:(if x3_1.length+t36004.length < 8796093022208 then (spec_WordsUpTo.l0 k1 a0 (x3_1 ++ t36004) (wrap64 (x4_1+1))) else (none))=some r:=H
   have A6:=zk A60
   clear A60
   by_cases c7:x3_1.length+t36004.length < 8796093022208
   · rw [if_pos c7] at H
     have LMc7:=zk c7
     clear c7
     obtain ⟨y36007,hy36007⟩:∃ y_:List ByteArray,y_=(x3_1 ++ t36004):=⟨_,rfl⟩
     replace H:(spec_WordsUpTo.l0 k1 a0 y36007 (wrap64 (x4_1+1)))=some r:=by first|(rw [hy36007];with_reducible exact H)|(have H2_:=(Option.bind_some _ _).symm.trans H;rw [hy36007];with_reducible exact H2_)|(have H2_:=(Option.bind_some _ _).symm.trans H;with_reducible exact H2_)|with_reducible exact H|(rw [hy36007];exact H)|exact H
     have Ny36007:=zk hy36007
     clear hy36007
     have H':=zk H
     clear H
     go_wp2_with (first|((with_reducible refine gate_callee (f:=70) rfl ?_);refine goesL_ (some 17) rfl rfl Tryz.func70 (by kernel_rfl) rfl #[.int .i64 x4_1] rfl za4 ?_;(with_reducible refine (spec_WordsOfLength.calls k1 x4_1 t36004 _ A6.out).mono ?_);rintro e w8 ⟨v36005,rfl,ho0,hb⟩;refine ⟨_,rfl,?_⟩;have n0_:=zk (Kd.R_elder' (za0 HO_3.out) (Kd.R_base ho0) hb);have n1_:=zk (Kd.R_lower (Kd.R_new' ho0 (Kd.R_lt (za0 HO_3.out))) (below_size za3));have n2_:=zk (below_step za3 hb);clear HO_3;clear HB;have HO_3:=n0_;have HO36006:=n1_;have HB:=n2_;clear n0_ n1_ n2_;(try clear hb);(try clear hb2);(try clear hk);(try clear hi);(try clear ho0);obtain ⟨Ao10,co10,eo10⟩:=Kd.R_slice HO36006.out;subst eo10)|((with_reducible refine gate_builtin (b:=.append) (xs:=#[.tmp 15,.tmp 17]) rfl ?_);at_builtin;refine Kd.R_append_rows Kd.string (w0:=w) w.heap.size rfl (.tmp 15) (.tmp 17) 53 9 (.string ⟨#[]⟩) 16 rfl Tryz.underlying53 info9 rfl (by decide) (by omega) u3 x3_1 t36004 _ _ _ (fun k_=>some k_ ≠ (.slice Ao10 t36004.length co10:Value).ownBlock) (fun _=>False) rfl rfl ?aO ?aR (fun _ _ h=>h) (fun _ h=>h.elim) ?aF ?aB ?aS ?aL ?_;(case aR=>repeat (first|exact (Kd.R_reads' HO36006.out).2.2|(with_reducible refine Kd.C_alloc ?_ _)|(with_reducible refine Kd.C_drewN ?_ _)|(with_reducible refine Kd.C_drew ?_)));(case aB=>exact za3);(case aF=>exact (fun k_ hk=>Kd.fresh' (Kd.R_lt (za0 HO36006.out)) k_ hk));(case aO=>exact za21);(case aS=>exact (below_size za3));(case aL=>have:=LMc7.out;omega);intro v36008 w9 ho hb hg hat;rw [← Ny36007.out] at ho;have n0_:=zk (Kd.R_after (ok:=(fun _=>True)) (za0 HO36006.out) hg hat);have n1_:=zk (hb);have n2_:=zk (ho);clear HO36006;clear HB;clear HO_3;have HO36006:=n0_;have HB:=n1_;have HO36009:=n2_;clear n0_ n1_ n2_;clear ho hb hg hat))
     go_roundg k1
     case measure=>have:=HK1.out;omega
     case rel=>exact ⟨(y36007),(wrap64 (x4_1+1)),za7,H',⟨za15⟩,⟨by (with_reducible repeat (first|apply Kd.R_alloc|apply Kd.R_drewN|apply Kd.R_drew));exact Kd.R_mono HO36009.out (fun _ hk=>trivial)⟩,⟨za3⟩⟩
   · rw [if_neg c7] at H
     exact absurd H (by simp)
   rw [if_neg c5] at H
   have c5b0:decide (x4_1≤5)=false:=decide_eq_false c5
   clear c5
   rotate_left
   rw [if_neg c4] at H
   have c4b0:decide (x4_1≤a0)=false:=decide_eq_false c4
   clear c4
   rotate_left
   all_goals
    obtain rfl:=zi H
    go_wp2
    go_ret
    exact ⟨_,za6,za0 HO_3.out,za3⟩
def spec_l8Var.f (a0:Int):Option (Bool):=if a0 ≥ 88 then (some (decide (a0≤90))) else (some false)
theorem spec_l8Var.calls (a0:Int) (r:Bool) (w:World) (h:spec_l8Var.f a0=some r) :
   Calls Tryz.prog 127 #[.int .u8 a0] w fun e w'=>e = .returned (.bool r)∧Drawn0 w w':=by
 have H:(if a0 ≥ 88 then (some (decide (a0≤90))) else (some false))=some r:=h
 clear h
 by_cases c2:a0 ≥ 88
 rw [if_pos c2] at H
 have c2b0:decide (88≤a0)=true:=decide_eq_true c2
 rotate_left
 rw [if_neg c2] at H
 have c2b0:decide (88≤a0)=false:=decide_eq_false c2
 rotate_left
 all_goals
  clear c2
  obtain rfl:=zi H
  go_enter Tryz.func127,Tryz.ntmps127
  go_wp2
  go_ret
  exact ⟨za7,za10⟩
def spec_IsTerm.l0:Nat→ByteArray→Int→Option (Bool)
 | 0,_,_=>none
 | k+1,x0,x3=>if x3 < (x0.size:Int) then (if 0≤x3 then ((spec_LetterIndex.f k (bt x0 x3)).bind fun t97001=>(if t97001 < 0 then ((spec_l8Var.f (bt x0 x3)).bind fun t97002=>(if t97002=true then (spec_IsTerm.l0 k x0 (wrap64 (x3+1))) else (some false))) else (spec_IsTerm.l0 k x0 (wrap64 (x3+1))))) else (none)) else (some (decide ((x0.size:Int)≤12)))
def spec_IsTerm.f (k:Nat) (a0:ByteArray):Option (Bool):=spec_IsTerm.l0 k a0 0
theorem spec_IsTerm.mono_l:∀ k,(∀ y0 y1,LeO (spec_IsTerm.l0 k y0 y1) (spec_IsTerm.l0 (k+1) y0 y1))
 | 0=>fun _ _ r h=>by simp [spec_IsTerm.l0] at h
 | k+1=>by
  have ih0:=spec_IsTerm.mono_l k
  ·intro y0 y1
   unfold spec_IsTerm.l0
   repeat' first
   | with_reducible first|exact ih0 _ _|exact spec_LetterIndex.mono _ _|exact LeO.refl _|exact LeO.none _|refine LeO.ite ?_ ?_|refine LeO.bind ?_ (fun _=>?_)
theorem spec_IsTerm.mono:∀ a0 k,LeO (spec_IsTerm.f k a0) (spec_IsTerm.f (k+1) a0):=by
 intro a0 k
 have ih0:=spec_IsTerm.mono_l k
 unfold spec_IsTerm.f
 repeat' first
  | with_reducible first|exact ih0 _ _|exact spec_LetterIndex.mono _ _|exact LeO.refl _|exact LeO.none _|refine LeO.ite ?_ ?_|refine LeO.bind ?_ (fun _=>?_)
theorem spec_IsTerm.calls (k:Nat) (a0:ByteArray) (r:Bool) (w:World) (h:spec_IsTerm.f k a0=some r) :
   Calls Tryz.prog 97 #[.string a0] w fun e w'=>e = .returned (.bool r)∧Drawn0 w w':=by
 have H:(spec_IsTerm.l0 k a0 0)=some r:=h
 clear h
 have H':=zk H
 clear H
 go_enter Tryz.func97,Tryz.ntmps97
 go_wp2
 first|go_loopg [3] k (fun kq v3 w'=>∃ (x3_1:Int),v3 = .int .i64 x3_1∧Aside0 (spec_IsTerm.l0 kq a0 x3_1=some r)∧Aside0 (kq≤k)∧Drawn0 w w')|(simp only [Act.put,zt,zv,zu];go_loopg [3] k (fun kq v3 w'=>∃ (x3_1:Int),v3 = .int .i64 x3_1∧Aside0 (spec_IsTerm.l0 kq a0 x3_1=some r)∧Aside0 (kq≤k)∧Drawn0 w w'))
 case atStart=>exact ⟨(0),za7,H',⟨Nat.le_refl _⟩,za10⟩
 case round =>
  clear H'
  obtain ⟨x3_1,rfl,HA,HK1,⟨m1,rfl⟩⟩:=hrel
  cases gk with
  | zero=>exact absurd HA.out (by simp [spec_IsTerm.l0])
  | succ k1 =>
   have H:=HA.out
   clear HA
   simp only [spec_IsTerm.l0] at H
   by_cases c2:x3_1 < (a0.size:Int)
   rw [if_pos c2] at H
   have c2b0:decide (x3_1 < (a0.size:Int))=true:=decide_eq_true c2
   clear c2
   by_cases c3:0≤x3_1
   rw [if_pos c3] at H
   have c3b0:decide (0≤x3_1)=true:=decide_eq_true c3
   clear c3
   replace H:=zo H
   obtain ⟨t97001,A50,H⟩:=H
   replace H:(if t97001 < 0 then ((spec_l8Var.f (bt a0 x3_1)).bind fun t97002=>(if t97002=true then (spec_IsTerm.l0 k1 a0 (wrap64 (x3_1+1))) else (some false))) else (spec_IsTerm.l0 k1 a0 (wrap64 (x3_1+1))))=some r:=H
   have A5:=zk A50
   clear A50
   by_cases c6:t97001 < 0
   rw [if_pos c6] at H
   have c6b0:decide (t97001 < 0)=true:=decide_eq_true c6
   clear c6
   replace H:=zo H
   obtain ⟨t97002,A80,H⟩:=H
   replace H:(if t97002=true then (spec_IsTerm.l0 k1 a0 (wrap64 (x3_1+1))) else (some false))=some r:=H
   have A8:=zk A80
   clear A80
   by_cases c9:t97002=true
   subst c9
   have H1:(spec_IsTerm.l0 k1 a0 (wrap64 (x3_1+1)))=some r:=by rw [if_pos rfl] at H;exact H
   clear H
   have H:=H1
   clear H1
   have H':=zk H
   clear H
   have fin0_:=zk trivial
   rotate_left
   replace c9:=Bool.eq_false_iff.mpr c9
   subst c9
   have H1:(some false)=some r:=by rw [if_neg (show ¬ (false=true) by decide)] at H;exact H
   clear H
   have H:=H1
   clear H1
   obtain rfl:=zi H
   have fin1_:=zk trivial
   rotate_left
   · rw [if_neg c6] at H
     have c6b0:decide (t97001 < 0)=false:=decide_eq_false c6
     clear c6
     have H':=zk H
     clear H
     have p4:0≤(x3_1:Int):=of_decide_eq_true za8
     have q4:x3_1 < (a0.size:Int):=of_decide_eq_true za8
     have hx4:=bt_at a0 x3_1
     replace p4:=eq_true p4
     replace q4:=eq_true q4
     go_wp2_with (first|((with_reducible refine gate_callee (f:=117) rfl ?_);refine goesL_ (some 13) rfl rfl Tryz.func117 (by kernel_rfl) rfl #[.int .u8 (bt a0 x3_1)] rfl za4 ?_;(with_reducible refine (spec_LetterIndex.calls k1 (bt a0 x3_1) t97001 _ A5.out).mono ?_);rintro e w' ⟨rfl,⟨nd,rfl⟩⟩;refine ⟨_,rfl,?_⟩))
     go_roundg k1
     case measure=>have:=HK1.out;omega
     case rel=>exact ⟨(wrap64 (x3_1+1)),za7,H',⟨za15⟩,za10⟩
   · rw [if_neg c3] at H
     exact absurd H (by simp)
   · rw [if_neg c2] at H
     have c2b0:decide (x3_1 < (a0.size:Int))=false:=decide_eq_false c2
     clear c2
     obtain rfl:=zi H
     go_wp2
     go_ret
     exact ⟨za7,za10⟩
   all_goals
    have p4:0≤(x3_1:Int):=of_decide_eq_true za8
    have q4:x3_1 < (a0.size:Int):=of_decide_eq_true za8
    have hx4:=bt_at a0 x3_1
    replace p4:=eq_true p4
    replace q4:=eq_true q4
    go_wp2_with (first|((with_reducible refine gate_callee (f:=117) rfl ?_);refine goesL_ (some 13) rfl rfl Tryz.func117 (by kernel_rfl) rfl #[.int .u8 (bt a0 x3_1)] rfl za4 ?_;(with_reducible refine (spec_LetterIndex.calls k1 (bt a0 x3_1) t97001 _ A5.out).mono ?_);rintro e w' ⟨rfl,⟨nd,rfl⟩⟩;refine ⟨_,rfl,?_⟩;have p7:0≤(x3_1:Int):=of_decide_eq_true za8;have q7:x3_1 < (a0.size:Int):=of_decide_eq_true za8;have hx7:=bt_at a0 x3_1;replace p7:=eq_true p7;replace q7:=eq_true q7)|(go_at_call 127;(with_reducible refine (spec_l8Var.calls (bt a0 x3_1) _ _ A8.out).mono ?_);rintro e w' ⟨rfl,⟨nd,rfl⟩⟩))
    first
    | (
      clear fin0_
      go_roundg k1
      case measure=>have:=HK1.out;omega
      case rel=>exact ⟨(wrap64 (x3_1+1)),za7,H',⟨za15⟩,za10⟩)
    | (
      clear fin1_
      go_ret
      exact ⟨za7,za10⟩)
def spec_CountByte.l0:Nat→ByteArray→Int→Int→Int→Option (Int)
 | 0,_,_,_,_=>none
 | k+1,x0,x1,x5,x6=>if x6 < (x0.size:Int) then (if 0≤x6 then (if (bt x0 x6)=x1 then (spec_CountByte.l0 k x0 x1 (wrap64 (x5+1)) (wrap64 (x6+1))) else (spec_CountByte.l0 k x0 x1 x5 (wrap64 (x6+1)))) else (none)) else (some x5)
def spec_CountByte.f (k:Nat) (a0:ByteArray) (a1:Int):Option (Int):=spec_CountByte.l0 k a0 a1 0 0
theorem spec_CountByte.mono_l:∀ k,(∀ y0 y1 y2 y3,LeO (spec_CountByte.l0 k y0 y1 y2 y3) (spec_CountByte.l0 (k+1) y0 y1 y2 y3))
 | 0=>fun _ _ _ _ r h=>by simp [spec_CountByte.l0] at h
 | k+1=>by
  have ih0:=spec_CountByte.mono_l k
  ·intro y0 y1 y2 y3
   unfold spec_CountByte.l0
   repeat' first
   | with_reducible first|exact ih0 _ _ _ _|exact LeO.refl _|exact LeO.none _|refine LeO.ite ?_ ?_|refine LeO.bind ?_ (fun _=>?_)
theorem spec_CountByte.mono:∀ a0 a1 k,LeO (spec_CountByte.f k a0 a1) (spec_CountByte.f (k+1) a0 a1):=by
 intro a0 a1 k
 have ih0:=spec_CountByte.mono_l k
 unfold spec_CountByte.f
 repeat' first
  | with_reducible first|exact ih0 _ _ _ _|exact LeO.refl _|exact LeO.none _|refine LeO.ite ?_ ?_|refine LeO.bind ?_ (fun _=>?_)
theorem spec_CountByte.calls (k:Nat) (a0:ByteArray) (a1:Int) (r:Int) (w:World) (h:spec_CountByte.f k a0 a1=some r) :
   Calls Tryz.prog 48 #[.string a0,.int .u8 a1] w fun e w'=>e = .returned (.int .i64 r)∧Drawn0 w w':=by
 have H:(spec_CountByte.l0 k a0 a1 0 0)=some r:=h
 clear h
 have H':=zk H
 clear H
 go_enter Tryz.func48,Tryz.ntmps48
 go_wp2
 first|go_loopg [5,6] k (fun kq v5 v6 w'=>∃ (x5_1:Int) (x6_1:Int),v5 = .int .i64 x5_1∧v6 = .int .i64 x6_1∧Aside0 (spec_CountByte.l0 kq a0 a1 x5_1 x6_1=some r)∧Aside0 (kq≤k)∧Drawn0 w w')|(simp only [Act.put,zt,zv,zu];go_loopg [5,6] k (fun kq v5 v6 w'=>∃ (x5_1:Int) (x6_1:Int),v5 = .int .i64 x5_1∧v6 = .int .i64 x6_1∧Aside0 (spec_CountByte.l0 kq a0 a1 x5_1 x6_1=some r)∧Aside0 (kq≤k)∧Drawn0 w w'))
 case atStart=>exact ⟨(0),(0),za7,za7,H',⟨Nat.le_refl _⟩,za10⟩
 case round =>
  clear H'
  obtain ⟨x5_1,x6_1,rfl,rfl,HA,HK1,⟨m1,rfl⟩⟩:=hrel
  cases gk with
  | zero=>exact absurd HA.out (by simp [spec_CountByte.l0])
  | succ k1 =>
   have H:=HA.out
   clear HA
   simp only [spec_CountByte.l0] at H
   by_cases c3:x6_1 < (a0.size:Int)
   rw [if_pos c3] at H
   have c3b0:decide (x6_1 < (a0.size:Int))=true:=decide_eq_true c3
   clear c3
   by_cases c4:0≤x6_1
   rw [if_pos c4] at H
   have c4b0:decide (0≤x6_1)=true:=decide_eq_true c4
   clear c4
   by_cases c6:(bt a0 x6_1)=a1
   rw [if_pos c6] at H
   have c6b0:((bt a0 x6_1) == a1)=true:=beq_iff_eq.mpr c6
   have c6b1:((bt a0 x6_1) != a1)=false:=bne_eq_false_iff_eq.mpr c6
   clear c6
   have fin0_:=zk trivial
   rotate_left
   rw [if_neg c6] at H
   have c6b0:((bt a0 x6_1) == a1)=false:=beq_eq_false_iff_ne.mpr c6
   have c6b1:((bt a0 x6_1) != a1)=true:=bne_iff_ne.mpr c6
   have fin1_:=zk trivial
   rotate_left
   · rw [if_neg c4] at H
     exact absurd H (by simp)
   · rw [if_neg c3] at H
     have c3b0:decide (x6_1 < (a0.size:Int))=false:=decide_eq_false c3
     clear c3
     obtain rfl:=zi H
     go_wp2
     go_ret
     exact ⟨za7,za10⟩
   all_goals
    have H':=zk H
    clear H
    have p5:0≤(x6_1:Int):=of_decide_eq_true za8
    have q5:x6_1 < (a0.size:Int):=of_decide_eq_true za8
    have hx5:=bt_at a0 x6_1
    replace p5:=eq_true p5
    replace q5:=eq_true q5
    go_wp2
    first
    | (
      clear fin0_
      go_roundg k1
      case measure=>have:=HK1.out;omega
      case rel=>exact ⟨(wrap64 (x5_1+1)),(wrap64 (x6_1+1)),za7,za7,H',⟨za15⟩,za10⟩)
    | (
      clear fin1_
      go_roundg k1
      case measure=>have:=HK1.out;omega
      case rel=>exact ⟨(x5_1),(wrap64 (x6_1+1)),za7,za7,H',⟨za15⟩,za10⟩)
def spec_VarsOf.l0:Nat→ByteArray→ByteArray→Int→Option (ByteArray)
 | 0,_,_,_=>none
 | k+1,x0,x3,x4=>if x4 < 3 then (if 0≤x4 then ((spec_CountByte.f k x0 (bt (⟨#[88,89,90]⟩:ByteArray) x4)).bind fun t73001=>(if t73001 > 0 then (if x4≤(wrap64 (x4+1)) then (if (wrap64 (x4+1))≤3 then (if x3.size+((⟨#[88,89,90]⟩:ByteArray).extract (x4:Int).toNat ((wrap64 (x4+1)):Int).toNat).size≤9223372036854775807 then (spec_VarsOf.l0 k x0 (x3 ++ ((⟨#[88,89,90]⟩:ByteArray).extract (x4:Int).toNat ((wrap64 (x4+1)):Int).toNat)) (wrap64 (x4+1))) else (none)) else (none)) else (none)) else (spec_VarsOf.l0 k x0 x3 (wrap64 (x4+1))))) else (none)) else (some x3)
def spec_VarsOf.f (k:Nat) (a0:ByteArray):Option (ByteArray):=spec_VarsOf.l0 k a0 (⟨#[]⟩:ByteArray) 0
theorem spec_VarsOf.mono_l:∀ k,(∀ y0 y1 y2,LeO (spec_VarsOf.l0 k y0 y1 y2) (spec_VarsOf.l0 (k+1) y0 y1 y2))
 | 0=>fun _ _ _ r h=>by simp [spec_VarsOf.l0] at h
 | k+1=>by
  have ih0:=spec_VarsOf.mono_l k
  ·intro y0 y1 y2
   unfold spec_VarsOf.l0
   repeat' first
   | with_reducible first|exact ih0 _ _ _|exact spec_CountByte.mono _ _ _|exact LeO.refl _|exact LeO.none _|refine LeO.ite ?_ ?_|refine LeO.bind ?_ (fun _=>?_)
theorem spec_VarsOf.mono:∀ a0 k,LeO (spec_VarsOf.f k a0) (spec_VarsOf.f (k+1) a0):=by
 intro a0 k
 have ih0:=spec_VarsOf.mono_l k
 unfold spec_VarsOf.f
 repeat' first
  | with_reducible first|exact ih0 _ _ _|exact spec_CountByte.mono _ _ _|exact LeO.refl _|exact LeO.none _|refine LeO.ite ?_ ?_|refine LeO.bind ?_ (fun _=>?_)
theorem spec_VarsOf.calls (k:Nat) (a0:ByteArray) (r:ByteArray) (w:World) (h:spec_VarsOf.f k a0=some r) :
   Calls Tryz.prog 73 #[.string a0] w fun e w'=>e = .returned (.string r)∧Drawn0 w w':=by
 have H:(spec_VarsOf.l0 k a0 (⟨#[]⟩:ByteArray) 0)=some r:=h
 clear h
 have H':=zk H
 clear H
 go_enter Tryz.func73,Tryz.ntmps73
 go_wp2
 first|go_loopg [3,4] k (fun kq v3 v4 w'=>∃ (x3_1:ByteArray) (x4_1:Int),v3 = .string x3_1∧v4 = .int .i64 x4_1∧Aside0 (spec_VarsOf.l0 kq a0 x3_1 x4_1=some r)∧Aside0 (kq≤k)∧Drawn0 w w')|(simp only [Act.put,zt,zv,zu];go_loopg [3,4] k (fun kq v3 v4 w'=>∃ (x3_1:ByteArray) (x4_1:Int),v3 = .string x3_1∧v4 = .int .i64 x4_1∧Aside0 (spec_VarsOf.l0 kq a0 x3_1 x4_1=some r)∧Aside0 (kq≤k)∧Drawn0 w w'))
 case atStart=>exact ⟨((⟨#[]⟩:ByteArray)),(0),za7,za7,H',⟨Nat.le_refl _⟩,za10⟩
 case round =>
  clear H'
  obtain ⟨x3_1,x4_1,rfl,rfl,HA,HK1,⟨m1,rfl⟩⟩:=hrel
  cases gk with
  | zero=>exact absurd HA.out (by simp [spec_VarsOf.l0])
  | succ k1 =>
   have H:=HA.out
   clear HA
   simp only [spec_VarsOf.l0] at H
   by_cases c2:x4_1 < 3
   rw [if_pos c2] at H
   have c2b0:decide (x4_1 < 3)=true:=decide_eq_true c2
   clear c2
   by_cases c3:0≤x4_1
   rw [if_pos c3] at H
   have c3b0:decide (0≤x4_1)=true:=decide_eq_true c3
   clear c3
   replace H:=zo H
   obtain ⟨t73001,A50,H⟩:=H
   replace H:(if t73001 > 0 then (if x4_1≤(wrap64 (x4_1+1)) then (if (wrap64 (x4_1+1))≤3 then (if x3_1.size+((⟨#[88,89,90]⟩:ByteArray).extract (x4_1:Int).toNat ((wrap64 (x4_1+1)):Int).toNat).size≤9223372036854775807 then (spec_VarsOf.l0 k1 a0 (x3_1 ++ ((⟨#[88,89,90]⟩:ByteArray).extract (x4_1:Int).toNat ((wrap64 (x4_1+1)):Int).toNat)) (wrap64 (x4_1+1))) else (none)) else (none)) else (none)) else (spec_VarsOf.l0 k1 a0 x3_1 (wrap64 (x4_1+1))))=some r:=H
   have A5:=zk A50
   clear A50
   by_cases c6:t73001 > 0
   rw [if_pos c6] at H
   have c6b0:decide (0 < t73001)=true:=decide_eq_true c6
   clear c6
   have c7b0:=eq_true (of_decide_eq_true za8:0≤x4_1)
   by_cases c8:x4_1≤(wrap64 (x4_1+1))
   rw [if_pos c8] at H
   have c8b0:=eq_true c8
   have c8b1:decide (x4_1≤(wrap64 (x4_1+1)))=true:=decide_eq_true c8
   by_cases c9:(wrap64 (x4_1+1))≤3
   rw [if_pos c9] at H
   have c9b0:=eq_true c9
   have c9b1:decide ((wrap64 (x4_1+1))≤3)=true:=decide_eq_true c9
   by_cases c10:x3_1.size+((⟨#[88,89,90]⟩:ByteArray).extract (x4_1:Int).toNat ((wrap64 (x4_1+1)):Int).toNat).size≤9223372036854775807
   rw [if_pos c10] at H
   have c10z:=c10
   try simp at c10z
   try replace c10z:=eq_false (Nat.not_lt.2 c10z)
   have c10b0:=eq_true c10
   have c10b1:decide (x3_1.size+((⟨#[88,89,90]⟩:ByteArray).extract (x4_1:Int).toNat ((wrap64 (x4_1+1)):Int).toNat).size≤9223372036854775807)=true:=decide_eq_true c10
   try have c10b2:(9223372036854775807 < x3_1.size+((⟨#[88,89,90]⟩:ByteArray).extract (x4_1:Int).toNat ((wrap64 (x4_1+1)):Int).toNat).size)=False:=eq_false (Nat.not_lt.2 c10)
   have fin0_:=zk trivial
   rotate_left
   · rw [if_neg c10] at H
     exact absurd H (by simp)
   · rw [if_neg c9] at H
     exact absurd H (by simp)
   · rw [if_neg c8] at H
     exact absurd H (by simp)
   rw [if_neg c6] at H
   have c6b0:decide (0 < t73001)=false:=decide_eq_false c6
   clear c6
   have fin1_:=zk trivial
   rotate_left
   · rw [if_neg c3] at H
     exact absurd H (by simp)
   · rw [if_neg c2] at H
     have c2b0:decide (x4_1 < 3)=false:=decide_eq_false c2
     clear c2
     obtain rfl:=zi H
     go_wp2
     go_ret
     exact ⟨za7,za10⟩
   all_goals
    have H':=zk H
    clear H
    have p4:0≤(x4_1:Int):=of_decide_eq_true za8
    have q4:x4_1 < (3:Int):=of_decide_eq_true za8
    have hx4:=bt_at (⟨#[88,89,90]⟩:ByteArray) x4_1
    replace p4:=eq_true p4
    replace q4:=eq_true q4
    go_wp2_with (((with_reducible refine gate_callee (f:=48) rfl ?_);refine goesL_ (some 12) rfl rfl Tryz.func48 (by kernel_rfl) rfl #[.string a0,.int .u8 (bt (⟨#[88,89,90]⟩:ByteArray) x4_1)] rfl za4 ?_;(with_reducible refine (spec_CountByte.calls k1 a0 (bt (⟨#[88,89,90]⟩:ByteArray) x4_1) t73001 _ A5.out).mono ?_);rintro e w' ⟨rfl,⟨nd,rfl⟩⟩;refine ⟨_,rfl,?_⟩))
    first
    | (
      clear fin0_
      go_roundg k1
      case measure=>have:=HK1.out;omega
      case rel=>exact ⟨(x3_1 ++ ((⟨#[88,89,90]⟩:ByteArray).extract (x4_1:Int).toNat ((wrap64 (x4_1+1)):Int).toNat)),(wrap64 (x4_1+1)),za7,za7,H',⟨za15⟩,za10⟩)
    | (
      clear fin1_
      go_roundg k1
      case measure=>have:=HK1.out;omega
      case rel=>exact ⟨(x3_1),(wrap64 (x4_1+1)),za7,za7,H',⟨za15⟩,za10⟩)
def spec_WithValue.f (a0_0:ByteArray) (a0_1:ByteArray) (a0_2:ByteArray) (a1:Int) (a2:ByteArray):Option (ByteArray × ByteArray × ByteArray):=if a1=88 then (some (a2,a0_1,a0_2)) else (if a1=89 then (some (a0_0,a2,a0_2)) else (if a1=90 then (some (a0_0,a0_1,a2)) else (some (a0_0,a0_1,a0_2))))
theorem spec_WithValue.calls (a0_0:ByteArray) (a0_1:ByteArray) (a0_2:ByteArray) (a1:Int) (a2:ByteArray) (r1:ByteArray) (r2:ByteArray) (r3:ByteArray) (w:World) (h:spec_WithValue.f a0_0 a0_1 a0_2 a1 a2=some (r1,r2,r3)) :
   Calls Tryz.prog 49 #[.agg #[.string a0_0,.string a0_1,.string a0_2],.int .u8 a1,.string a2] w fun e w'=>e = .returned (.agg #[.string r1,.string r2,.string r3])∧Below w.heap.size w w':=by
 have hu32:=Tryz.underlying32
 have HB:=zk (Below.refl w.heap.size w)
 have H:(if a1=88 then (some (a2,a0_1,a0_2)) else (if a1=89 then (some (a0_0,a2,a0_2)) else (if a1=90 then (some (a0_0,a0_1,a2)) else (some (a0_0,a0_1,a0_2)))))=some (r1,r2,r3):=h
 clear h
 by_cases c4:a1=88
 rw [if_pos c4] at H
 have c4b0:(a1 == 88)=true:=beq_iff_eq.mpr c4
 have c4b1:(a1 != 88)=false:=bne_eq_false_iff_eq.mpr c4
 clear c4
 have fin3_:=zk trivial
 rotate_left
 rw [if_neg c4] at H
 have c4b0:(a1 == 88)=false:=beq_eq_false_iff_ne.mpr c4
 have c4b1:(a1 != 88)=true:=bne_iff_ne.mpr c4
 by_cases c10:a1=89
 rw [if_pos c10] at H
 have c10b0:(a1 == 89)=true:=beq_iff_eq.mpr c10
 have c10b1:(a1 != 89)=false:=bne_eq_false_iff_eq.mpr c10
 clear c10
 have fin0_:=zk trivial
 rotate_left
 rw [if_neg c10] at H
 have c10b0:(a1 == 89)=false:=beq_eq_false_iff_ne.mpr c10
 have c10b1:(a1 != 89)=true:=bne_iff_ne.mpr c10
 by_cases c16:a1=90
 rw [if_pos c16] at H
 have c16b0:(a1 == 90)=true:=beq_iff_eq.mpr c16
 have c16b1:(a1 != 90)=false:=bne_eq_false_iff_eq.mpr c16
 clear c16
 have fin1_:=zk trivial
 rotate_left
 rw [if_neg c16] at H
 have c16b0:(a1 == 90)=false:=beq_eq_false_iff_ne.mpr c16
 have c16b1:(a1 != 90)=true:=bne_iff_ne.mpr c16
 have fin2_:=zk trivial
 rotate_left
 all_goals
  simp only [Option.some.injEq,Prod.mk.injEq] at H
  obtain ⟨rfl,rfl,rfl⟩:=H
  go_enter Tryz.func49,Tryz.ntmps49
  go_wp2_with (first|((with_reducible refine gate_dst (N:=3) rfl ?_);refine zE (N:=3) (cs:=#[.string a0_0,.string a0_1,.string a0_2]) (t:=32) ?_;intro gb49001 hg w11 hbox hb;have n0_:=zk (below_step za3 hb);have n1_:=zk (hbox);have n2_:=zk (zs (w:=w) hg za3);have n3_:=zk (zs (w:=w) hg za3);clear HB;have HB:=n0_;have BK49001:=n1_;have GW49001:=n2_;have GE49001:=n3_;clear n0_ n1_ n2_ n3_;clear hb hbox hg)|((with_reducible refine gate_dst (N:=6) rfl ?_);refine zE (N:=6) (cs:=#[.string (⟨#[]⟩:ByteArray),.string (⟨#[]⟩:ByteArray),.string (⟨#[]⟩:ByteArray)]) (t:=32) ?_;intro gb49002 hg w12 hbox hb;have n0_:=zk (zb BK49001.out hb);have n1_:=zk (below_step za3 hb);have n2_:=zk (hbox);have n3_:=zk (zs (w:=w) hg za3);have n4_:=zk (zs (w:=w) hg za3);have n5_:=zk ((by rw [hg];exact Nat.ne_of_lt (zl BK49001.out):gb49001 ≠ gb49002));have n6_:=zk ((by rw [hg];exact Nat.ne_of_gt (zl BK49001.out):gb49002 ≠ gb49001));clear BK49001;clear HB;have BK49001:=n0_;have HB:=n1_;have BK49002:=n2_;have GW49002:=n3_;have GE49002:=n4_;have NB49001_49002:=n5_;have NB49002_49001:=n6_;clear n0_ n1_ n2_ n3_ n4_ n5_ n6_;clear hb hbox hg;have hnb13:=NB49001_49002.out;have hnc13:=NB49002_49001.out;obtain ⟨hcz14_0,hcz14_1,hcz14_2,hfz14_0,hfz14_1,hfz14_2⟩:=blk3 BK49001.out;obtain ⟨hcz15_0,hcz15_1,hcz15_2,hfz15_0,hfz15_1,hfz15_2⟩:=blk3 BK49002.out))
  first
  | (
    clear fin0_
    refine bodyPost_ret (results_cell_row rfl _ _ gb49002 32 #[.string a0_0,.string a2,.string a0_2] (0,0) _ rfl (by (with_reducible repeat (first|refine blk_drewN ?_ _|refine blk_drew ?_|refine blk_alloc ?_ _));refine blk_put (cs:=#[.string a0_0,.string a2,.string (⟨#[]⟩:ByteArray)]) ?_ 2 _ rfl;(with_reducible repeat (first|refine blk_drewN ?_ _|refine blk_drew ?_|refine blk_alloc ?_ _));refine blk_put (cs:=#[.string a0_0,.string (⟨#[]⟩:ByteArray),.string (⟨#[]⟩:ByteArray)]) ?_ 1 _ rfl;(with_reducible repeat (first|refine blk_drewN ?_ _|refine blk_drew ?_|refine blk_alloc ?_ _));refine blk_put (cs:=#[.string (⟨#[]⟩:ByteArray),.string (⟨#[]⟩:ByteArray),.string (⟨#[]⟩:ByteArray)]) ?_ 0 _ rfl;(with_reducible repeat (first|refine blk_drewN ?_ _|refine blk_drew ?_|refine blk_alloc ?_ _));refine blk_far ?_ NB49002_49001.out _;(with_reducible repeat (first|refine blk_drewN ?_ _|refine blk_drew ?_|refine blk_alloc ?_ _));exact BK49002.out) Tryz.underlying32 rfl (by kernel_rfl)) rfl ?_
    exact ⟨za6,za3⟩)
  | (
    clear fin1_
    refine bodyPost_ret (results_cell_row rfl _ _ gb49002 32 #[.string a0_0,.string a0_1,.string a2] (0,0) _ rfl (by (with_reducible repeat (first|refine blk_drewN ?_ _|refine blk_drew ?_|refine blk_alloc ?_ _));refine blk_put (cs:=#[.string a0_0,.string a0_1,.string (⟨#[]⟩:ByteArray)]) ?_ 2 _ rfl;(with_reducible repeat (first|refine blk_drewN ?_ _|refine blk_drew ?_|refine blk_alloc ?_ _));refine blk_put (cs:=#[.string a0_0,.string (⟨#[]⟩:ByteArray),.string (⟨#[]⟩:ByteArray)]) ?_ 1 _ rfl;(with_reducible repeat (first|refine blk_drewN ?_ _|refine blk_drew ?_|refine blk_alloc ?_ _));refine blk_put (cs:=#[.string (⟨#[]⟩:ByteArray),.string (⟨#[]⟩:ByteArray),.string (⟨#[]⟩:ByteArray)]) ?_ 0 _ rfl;(with_reducible repeat (first|refine blk_drewN ?_ _|refine blk_drew ?_|refine blk_alloc ?_ _));refine blk_far ?_ NB49002_49001.out _;(with_reducible repeat (first|refine blk_drewN ?_ _|refine blk_drew ?_|refine blk_alloc ?_ _));exact BK49002.out) Tryz.underlying32 rfl (by kernel_rfl)) rfl ?_
    exact ⟨za6,za3⟩)
  | (
    clear fin2_
    refine bodyPost_ret (results_cell_row rfl _ _ gb49002 32 #[.string a0_0,.string a0_1,.string a0_2] (0,0) _ rfl (za2 BK49002.out) Tryz.underlying32 rfl (by kernel_rfl)) rfl ?_
    exact ⟨za6,za3⟩)
  | (
    clear fin3_
    refine bodyPost_ret (results_cell_row rfl _ _ gb49002 32 #[.string a2,.string a0_1,.string a0_2] (0,0) _ rfl (by (with_reducible repeat (first|refine blk_drewN ?_ _|refine blk_drew ?_|refine blk_alloc ?_ _));refine blk_put (cs:=#[.string a2,.string a0_1,.string (⟨#[]⟩:ByteArray)]) ?_ 2 _ rfl;(with_reducible repeat (first|refine blk_drewN ?_ _|refine blk_drew ?_|refine blk_alloc ?_ _));refine blk_put (cs:=#[.string a2,.string (⟨#[]⟩:ByteArray),.string (⟨#[]⟩:ByteArray)]) ?_ 1 _ rfl;(with_reducible repeat (first|refine blk_drewN ?_ _|refine blk_drew ?_|refine blk_alloc ?_ _));refine blk_put (cs:=#[.string (⟨#[]⟩:ByteArray),.string (⟨#[]⟩:ByteArray),.string (⟨#[]⟩:ByteArray)]) ?_ 0 _ rfl;(with_reducible repeat (first|refine blk_drewN ?_ _|refine blk_drew ?_|refine blk_alloc ?_ _));refine blk_far ?_ NB49002_49001.out _;(with_reducible repeat (first|refine blk_drewN ?_ _|refine blk_drew ?_|refine blk_alloc ?_ _));exact BK49002.out) Tryz.underlying32 rfl (by kernel_rfl)) rfl ?_
    exact ⟨za6,za3⟩)
def spec_ValueOf.f (a0_0:ByteArray) (a0_1:ByteArray) (a0_2:ByteArray) (a1:Int):Option (ByteArray):=if a1=88 then (some a0_0) else (if a1=89 then (some a0_1) else (if a1=90 then (some a0_2) else (some (⟨#[]⟩:ByteArray))))
theorem spec_ValueOf.calls (a0_0:ByteArray) (a0_1:ByteArray) (a0_2:ByteArray) (a1:Int) (r:ByteArray) (w:World) (h:spec_ValueOf.f a0_0 a0_1 a0_2 a1=some r) :
   Calls Tryz.prog 52 #[.agg #[.string a0_0,.string a0_1,.string a0_2],.int .u8 a1] w fun e w'=>e = .returned (.string r)∧Below w.heap.size w w':=by
 have hu32:=Tryz.underlying32
 have HB:=zk (Below.refl w.heap.size w)
 have H:(if a1=88 then (some a0_0) else (if a1=89 then (some a0_1) else (if a1=90 then (some a0_2) else (some (⟨#[]⟩:ByteArray)))))=some r:=h
 clear h
 by_cases c3:a1=88
 rw [if_pos c3] at H
 have c3b0:(a1 == 88)=true:=beq_iff_eq.mpr c3
 have c3b1:(a1 != 88)=false:=bne_eq_false_iff_eq.mpr c3
 clear c3
 rotate_left
 rw [if_neg c3] at H
 have c3b0:(a1 == 88)=false:=beq_eq_false_iff_ne.mpr c3
 have c3b1:(a1 != 88)=true:=bne_iff_ne.mpr c3
 by_cases c6:a1=89
 rw [if_pos c6] at H
 have c6b0:(a1 == 89)=true:=beq_iff_eq.mpr c6
 have c6b1:(a1 != 89)=false:=bne_eq_false_iff_eq.mpr c6
 clear c6
 rotate_left
 rw [if_neg c6] at H
 have c6b0:(a1 == 89)=false:=beq_eq_false_iff_ne.mpr c6
 have c6b1:(a1 != 89)=true:=bne_iff_ne.mpr c6
 by_cases c9:a1=90
 rw [if_pos c9] at H
 have c9b0:(a1 == 90)=true:=beq_iff_eq.mpr c9
 have c9b1:(a1 != 90)=false:=bne_eq_false_iff_eq.mpr c9
 clear c9
 rotate_left
 rw [if_neg c9] at H
 have c9b0:(a1 == 90)=false:=beq_eq_false_iff_ne.mpr c9
 have c9b1:(a1 != 90)=true:=bne_iff_ne.mpr c9
 rotate_left
 all_goals
  obtain rfl:=zi H
  go_enter Tryz.func52,Tryz.ntmps52
  go_wp2_with (((with_reducible refine gate_dst (N:=2) rfl ?_);refine zE (N:=2) (cs:=#[.string a0_0,.string a0_1,.string a0_2]) (t:=32) ?_;intro gb52001 hg w10 hbox hb;have n0_:=zk (below_step za3 hb);have n1_:=zk (hbox);have n2_:=zk (zs (w:=w) hg za3);have n3_:=zk (zs (w:=w) hg za3);clear HB;have HB:=n0_;have BK52001:=n1_;have GW52001:=n2_;have GE52001:=n3_;clear n0_ n1_ n2_ n3_;clear hb hbox hg;obtain ⟨hcz11_0,hcz11_1,hcz11_2,hfz11_0,hfz11_1,hfz11_2⟩:=blk3 BK52001.out))
  go_ret
  exact ⟨za6,za3⟩
def spec_ApplyValues.l0:Nat→ByteArray→ByteArray→Int→ByteArray→ByteArray→ByteArray→Option (ByteArray)
 | 0,_,_,_,_,_,_=>none
 | k+1,x0,x5,x6,x114002000,x114002001,x114002002=>if x6 < (x0.size:Int) then (if 0≤x6 then ((spec_l8Var.f (bt x0 x6)).bind fun t114002=>(if t114002=true then ((spec_ValueOf.f x114002000 x114002001 x114002002 (bt x0 x6)).bind fun t114003=>(if x5.size+t114003.size≤9223372036854775807 then (if ((x5 ++ t114003).size:Int) > 1048576 then (some (⟨#[]⟩:ByteArray)) else (spec_ApplyValues.l0 k x0 (x5 ++ t114003) (wrap64 (x6+1)) x114002000 x114002001 x114002002)) else (none))) else (if x6≤(wrap64 (x6+1)) then (if (wrap64 (x6+1))≤(x0.size:Int) then (if x5.size+(x0.extract (x6:Int).toNat ((wrap64 (x6+1)):Int).toNat).size≤9223372036854775807 then (if ((x5 ++ (x0.extract (x6:Int).toNat ((wrap64 (x6+1)):Int).toNat)).size:Int) > 1048576 then (some (⟨#[]⟩:ByteArray)) else (spec_ApplyValues.l0 k x0 (x5 ++ (x0.extract (x6:Int).toNat ((wrap64 (x6+1)):Int).toNat)) (wrap64 (x6+1)) x114002000 x114002001 x114002002)) else (none)) else (none)) else (none)))) else (none)) else (some x5)
def spec_ApplyValues.f (k:Nat) (a0:ByteArray) (a1_0:ByteArray) (a1_1:ByteArray) (a1_2:ByteArray):Option (ByteArray):=spec_ApplyValues.l0 k a0 (⟨#[]⟩:ByteArray) 0 a1_0 a1_1 a1_2
theorem spec_ApplyValues.mono_l:∀ k,(∀ y0 y1 y2 y3 y4 y5,LeO (spec_ApplyValues.l0 k y0 y1 y2 y3 y4 y5) (spec_ApplyValues.l0 (k+1) y0 y1 y2 y3 y4 y5))
 | 0=>fun _ _ _ _ _ _ r h=>by simp [spec_ApplyValues.l0] at h
 | k+1=>by
  have ih0:=spec_ApplyValues.mono_l k
  ·intro y0 y1 y2 y3 y4 y5
   unfold spec_ApplyValues.l0
   repeat' first
   | with_reducible first|exact ih0 _ _ _ _ _ _|exact LeO.refl _|exact LeO.none _|refine LeO.ite ?_ ?_|refine LeO.bind ?_ (fun _=>?_)
theorem spec_ApplyValues.mono:∀ a0 a1 a2 a3 k,LeO (spec_ApplyValues.f k a0 a1 a2 a3) (spec_ApplyValues.f (k+1) a0 a1 a2 a3):=by
 intro a0 a1 a2 a3 k
 have ih0:=spec_ApplyValues.mono_l k
 unfold spec_ApplyValues.f
 repeat' first
  | with_reducible first|exact ih0 _ _ _ _ _ _|exact LeO.refl _|exact LeO.none _|refine LeO.ite ?_ ?_|refine LeO.bind ?_ (fun _=>?_)
def spec_ApplyValues.T6:Bool × List (List Nat × List Nat):=(true,[([],[]),([],[]),([],[]),([],[]),([2,3],[2,3]),([1,4],[1,4]),([0,5],[0,5]),([6,5,0,1,2,3,4,5,6],[0,6])])
def spec_ApplyValues.B6:List Nat:=[0,0,0,0,12,30,63,127]
theorem spec_ApplyValues.tab6:rtab .any (opsOf Tryz.f114 6)=spec_ApplyValues.T6:=by kernel_rfl
theorem spec_ApplyValues.bits6:waitsOk spec_ApplyValues.T6.2 spec_ApplyValues.B6=true:=by kernel_rfl
theorem spec_ApplyValues.calls (k:Nat) (a0:ByteArray) (a1_0:ByteArray) (a1_1:ByteArray) (a1_2:ByteArray) (r:ByteArray) (w:World) (h:spec_ApplyValues.f k a0 a1_0 a1_1 a1_2=some r) :
   Calls Tryz.prog 114 #[.string a0,.agg #[.string a1_0,.string a1_1,.string a1_2]] w fun e w'=>e = .returned (.string r)∧Below w.heap.size w w':=by
 have hu32:=Tryz.underlying32
 have HB:=zk (Below.refl w.heap.size w)
 have H:(spec_ApplyValues.l0 k a0 (⟨#[]⟩:ByteArray) 0 a1_0 a1_1 a1_2)=some r:=h
 clear h
 have H':=zk H
 clear H
 go_enter Tryz.func114,Tryz.ntmps114
 go_wp2_with (first|((with_reducible refine gate_dst (N:=3) rfl ?_);refine zE (N:=3) (cs:=#[.string a1_0,.string a1_1,.string a1_2]) (t:=32) ?_;intro gb114001 hg w3 hbox hb;have n0_:=zk (below_step za3 hb);have n1_:=zk (hbox);have n2_:=zk (zs (w:=w) hg za3);have n3_:=zk (zs (w:=w) hg za3);clear HB;have HB:=n0_;have BK114001:=n1_;have GW114001:=n2_;have GE114001:=n3_;clear n0_ n1_ n2_ n3_;clear hb hbox hg))
 first|go_loopg [5,6] k (fun kq v5 v6 w'=>∃ (x5_1:ByteArray) (x6_1:Int),v5 = .string x5_1∧v6 = .int .i64 x6_1∧Aside0 (spec_ApplyValues.l0 kq a0 x5_1 x6_1 a1_0 a1_1 a1_2=some r)∧Aside0 (kq≤k)∧Aside0 (w'.heap[gb114001]? = some (.cells #[.string a1_0,.string a1_1,.string a1_2] 32 (0,0)))∧Aside0 (Below w.heap.size w w'))|(simp only [Act.put,zt,zv,zu];go_loopg [5,6] k (fun kq v5 v6 w'=>∃ (x5_1:ByteArray) (x6_1:Int),v5 = .string x5_1∧v6 = .int .i64 x6_1∧Aside0 (spec_ApplyValues.l0 kq a0 x5_1 x6_1 a1_0 a1_1 a1_2=some r)∧Aside0 (kq≤k)∧Aside0 (w'.heap[gb114001]? = some (.cells #[.string a1_0,.string a1_1,.string a1_2] 32 (0,0)))∧Aside0 (Below w.heap.size w w')))
 case atStart=>exact ⟨((⟨#[]⟩:ByteArray)),(0),za7,za7,H',⟨Nat.le_refl _⟩,⟨za1 BK114001.out⟩,⟨za3⟩⟩
 case round =>
  clear H'
  obtain ⟨x5_1,x6_1,rfl,rfl,HA,HK1,BK114001,HB⟩:=hrel
  cases gk with
  | zero=>exact absurd HA.out (by simp [spec_ApplyValues.l0])
  | succ k1 =>
   have H:=HA.out
   clear HA
   simp only [spec_ApplyValues.l0] at H
   by_cases c4:x6_1 < (a0.size:Int)
   rw [if_pos c4] at H
   have c4b0:decide (x6_1 < (a0.size:Int))=true:=decide_eq_true c4
   clear c4
   by_cases c5:0≤x6_1
   rw [if_pos c5] at H
   have c5b0:decide (0≤x6_1)=true:=decide_eq_true c5
   clear c5
   replace H:=zo H
   obtain ⟨t114002,A70,H⟩:=H
   replace H:(if t114002=true then ((spec_ValueOf.f a1_0 a1_1 a1_2 (bt a0 x6_1)).bind fun t114003=>(if x5_1.size+t114003.size≤9223372036854775807 then (if ((x5_1 ++ t114003).size:Int) > 1048576 then (some (⟨#[]⟩:ByteArray)) else (spec_ApplyValues.l0 k1 a0 (x5_1 ++ t114003) (wrap64 (x6_1+1)) a1_0 a1_1 a1_2)) else (none))) else (if x6_1≤(wrap64 (x6_1+1)) then (if (wrap64 (x6_1+1))≤(a0.size:Int) then (if x5_1.size+(a0.extract (x6_1:Int).toNat ((wrap64 (x6_1+1)):Int).toNat).size≤9223372036854775807 then (if ((x5_1 ++ (a0.extract (x6_1:Int).toNat ((wrap64 (x6_1+1)):Int).toNat)).size:Int) > 1048576 then (some (⟨#[]⟩:ByteArray)) else (spec_ApplyValues.l0 k1 a0 (x5_1 ++ (a0.extract (x6_1:Int).toNat ((wrap64 (x6_1+1)):Int).toNat)) (wrap64 (x6_1+1)) a1_0 a1_1 a1_2)) else (none)) else (none)) else (none)))=some r:=H
   have A7:=zk A70
   clear A70
   by_cases c8:t114002=true
   subst c8
   have H1:((spec_ValueOf.f a1_0 a1_1 a1_2 (bt a0 x6_1)).bind fun t114003=>(if x5_1.size+t114003.size≤9223372036854775807 then (if ((x5_1 ++ t114003).size:Int) > 1048576 then (some (⟨#[]⟩:ByteArray)) else (spec_ApplyValues.l0 k1 a0 (x5_1 ++ t114003) (wrap64 (x6_1+1)) a1_0 a1_1 a1_2)) else (none)))=some r:=by rw [if_pos rfl] at H;exact H
   clear H
   have H:=H1
   clear H1
   replace H:=zo H
   obtain ⟨t114003,A100,H⟩:=H
   replace H:(if x5_1.size+t114003.size≤9223372036854775807 then (if ((x5_1 ++ t114003).size:Int) > 1048576 then (some (⟨#[]⟩:ByteArray)) else (spec_ApplyValues.l0 k1 a0 (x5_1 ++ t114003) (wrap64 (x6_1+1)) a1_0 a1_1 a1_2)) else (none))=some r:=H
   have A10:=zk A100
   clear A100
   by_cases c11:x5_1.size+t114003.size≤9223372036854775807
   rw [if_pos c11] at H
   have c11z:=c11
   try simp at c11z
   try replace c11z:=eq_false (Nat.not_lt.2 c11z)
   have c11b0:=eq_true c11
   have c11b1:decide (x5_1.size+t114003.size≤9223372036854775807)=true:=decide_eq_true c11
   try have c11b2:(9223372036854775807 < x5_1.size+t114003.size)=False:=eq_false (Nat.not_lt.2 c11)
   by_cases c12:((x5_1 ++ t114003).size:Int) > 1048576
   rw [if_pos c12] at H
   have c12b0:decide (1048576 < ((x5_1 ++ t114003).size:Int))=true:=decide_eq_true c12
   have c12y:=c12b0
   try simp at c12y
   have c12b1:decide (1048576 < (x5_1 ++ t114003).size)=true:=decide_eq_true (by omega)
   clear c12
   obtain rfl:=zi H
   have tag0_:=zk trivial
   have fin0_:=zk trivial
   rotate_left
   rw [if_neg c12] at H
   have c12b0:decide (1048576 < ((x5_1 ++ t114003).size:Int))=false:=decide_eq_false c12
   have c12y:=c12b0
   try simp at c12y
   have c12b1:decide (1048576 < (x5_1 ++ t114003).size)=false:=decide_eq_false (by omega)
   clear c12
   have H':=zk H
   clear H
   have tag0_:=zk trivial
   have fin1_:=zk trivial
   rotate_left
   · rw [if_neg c11] at H
     exact absurd H (by simp)
   replace c8:=Bool.eq_false_iff.mpr c8
   subst c8
   have H1:(if x6_1≤(wrap64 (x6_1+1)) then (if (wrap64 (x6_1+1))≤(a0.size:Int) then (if x5_1.size+(a0.extract (x6_1:Int).toNat ((wrap64 (x6_1+1)):Int).toNat).size≤9223372036854775807 then (if ((x5_1 ++ (a0.extract (x6_1:Int).toNat ((wrap64 (x6_1+1)):Int).toNat)).size:Int) > 1048576 then (some (⟨#[]⟩:ByteArray)) else (spec_ApplyValues.l0 k1 a0 (x5_1 ++ (a0.extract (x6_1:Int).toNat ((wrap64 (x6_1+1)):Int).toNat)) (wrap64 (x6_1+1)) a1_0 a1_1 a1_2)) else (none)) else (none)) else (none))=some r:=by rw [if_neg (show ¬ (false=true) by decide)] at H;exact H
   clear H
   have H:=H1
   clear H1
   have c17b0:=eq_true (of_decide_eq_true za8:0≤x6_1)
   by_cases c18:x6_1≤(wrap64 (x6_1+1))
   rw [if_pos c18] at H
   have c18b0:=eq_true c18
   have c18b1:decide (x6_1≤(wrap64 (x6_1+1)))=true:=decide_eq_true c18
   by_cases c19:(wrap64 (x6_1+1))≤(a0.size:Int)
   rw [if_pos c19] at H
   have c19b0:=eq_true c19
   have c19b1:decide ((wrap64 (x6_1+1))≤(a0.size:Int))=true:=decide_eq_true c19
   by_cases c20:x5_1.size+(a0.extract (x6_1:Int).toNat ((wrap64 (x6_1+1)):Int).toNat).size≤9223372036854775807
   rw [if_pos c20] at H
   have c20z:=c20
   try simp at c20z
   try replace c20z:=eq_false (Nat.not_lt.2 c20z)
   have c20b0:=eq_true c20
   have c20b1:decide (x5_1.size+(a0.extract (x6_1:Int).toNat ((wrap64 (x6_1+1)):Int).toNat).size≤9223372036854775807)=true:=decide_eq_true c20
   try have c20b2:(9223372036854775807 < x5_1.size+(a0.extract (x6_1:Int).toNat ((wrap64 (x6_1+1)):Int).toNat).size)=False:=eq_false (Nat.not_lt.2 c20)
   by_cases c21:((x5_1 ++ (a0.extract (x6_1:Int).toNat ((wrap64 (x6_1+1)):Int).toNat)).size:Int) > 1048576
   rw [if_pos c21] at H
   have c21b0:decide (1048576 < ((x5_1 ++ (a0.extract (x6_1:Int).toNat ((wrap64 (x6_1+1)):Int).toNat)).size:Int))=true:=decide_eq_true c21
   have c21w:decide (1048576 < ((x5_1 ++ (a0.extract (x6_1:Int).toNat ((IntKind.i64.wrap (x6_1+1)):Int).toNat)).size:Int))=true:=by simp only [i64_w];exact c21b0
   have c21y:=c21b0
   try simp at c21y
   have c21b1:decide (1048576 < (x5_1 ++ (a0.extract (x6_1:Int).toNat ((wrap64 (x6_1+1)):Int).toNat)).size)=true:=decide_eq_true (by omega)
   clear c21
   obtain rfl:=zi H
   have tag1_:=zk trivial
   have fin0_:=zk trivial
   rotate_left
   rw [if_neg c21] at H
   have c21b0:decide (1048576 < ((x5_1 ++ (a0.extract (x6_1:Int).toNat ((wrap64 (x6_1+1)):Int).toNat)).size:Int))=false:=decide_eq_false c21
   have c21w:decide (1048576 < ((x5_1 ++ (a0.extract (x6_1:Int).toNat ((IntKind.i64.wrap (x6_1+1)):Int).toNat)).size:Int))=false:=by simp only [i64_w];exact c21b0
   have c21y:=c21b0
   try simp at c21y
   have c21b1:decide (1048576 < (x5_1 ++ (a0.extract (x6_1:Int).toNat ((wrap64 (x6_1+1)):Int).toNat)).size)=false:=decide_eq_false (by omega)
   clear c21
   have H':=zk H
   clear H
   have tag1_:=zk trivial
   have fin1_:=zk trivial
   rotate_left
   · rw [if_neg c20] at H
     exact absurd H (by simp)
   · rw [if_neg c19] at H
     exact absurd H (by simp)
   · rw [if_neg c18] at H
     exact absurd H (by simp)
   · rw [if_neg c5] at H
     exact absurd H (by simp)
   · rw [if_neg c4] at H
     have c4b0:decide (x6_1 < (a0.size:Int))=false:=decide_eq_false c4
     clear c4
     obtain rfl:=zi H
     go_wp2
     go_ret
     exact ⟨za6,za3⟩
   all_goals first
    | (
      clear tag0_
      have p6:0≤(x6_1:Int):=of_decide_eq_true za8
      have q6:x6_1 < (a0.size:Int):=of_decide_eq_true za8
      have hx6:=bt_at a0 x6_1
      replace p6:=eq_true p6
      replace q6:=eq_true q6
      try go_wp2_with (first|((with_reducible refine gate_callee (f:=127) rfl ?_);refine goesL_ (some 16) rfl rfl Tryz.func127 (by kernel_rfl) rfl #[.int .u8 (bt a0 x6_1)] rfl za4 ?_;(with_reducible refine (spec_l8Var.calls (bt a0 x6_1) _ _ A7.out).mono ?_);rintro e w' ⟨rfl,⟨nd,rfl⟩⟩;refine ⟨_,rfl,?_⟩))
      (try (rw [drewN_self wr];generalize hq_:World.drewN wr _=wr;have n0_:Aside0 (wr.heap[gb114001]? = some (.cells #[.string a1_0,.string a1_1,.string a1_2] 32 (0,0))):=⟨by rw [← hq_];exact (za1 BK114001.out)⟩;have n1_:Aside0 (Below w.heap.size w wr):=⟨by rw [← hq_];exact za3⟩;clear BK114001 HB hq_;have BK114001:=n0_;have HB:=n1_;clear n0_ n1_))
      have n0_:=zk (blk_drew BK114001.out)
      have n1_:=zk (below_drew1 HB.out)
      clear BK114001
      clear HB
      have BK114001:=n0_
      have HB:=n1_
      clear n0_ n1_
      have p9:0≤(x6_1:Int):=of_decide_eq_true za8
      have q9:x6_1 < (a0.size:Int):=of_decide_eq_true za8
      have hx9:=bt_at a0 x6_1
      replace p9:=eq_true p9
      replace q9:=eq_true q9
      refine start_ (n:=8) (S:=fun w'=>w'.cell? ⟨gb114001,0,none⟩=some (.string a1_0)∧w'.cell? ⟨gb114001,1,none⟩=some (.string a1_1)∧w'.cell? ⟨gb114001,2,none⟩=some (.string a1_2)) (ds:=[]) #[false,false,false,false,false,false,false,false] (by kernel_rfl) rfl rfl ⟨(blk_cell BK114001.out 0).trans rfl,(blk_cell BK114001.out 1).trans rfl,(blk_cell BK114001.out 2).trans rfl⟩ (fun hHeld=>?_);refine with_tabW spec_ApplyValues.tab6 spec_ApplyValues.bits6 (fun HT_ HW_=>?_)
      generalize wr.drew=w13 at BK114001 HB hHeld ⊢
      refine pure_ (i:=0) (N:=some 17) (v:=?_) (a':=?_) #[true,false,false,false,false,false,false,false] rfl rfl (any_of HT_.out (by kernel_rfl)) (fun _ _ _ h=>h) (Or.inl ⟨by rfl,?_⟩) ?_ ?_
      rotate_left
      ·intro w'
       go_simp
       exact zr0
      rotate_left
      ·simp only [Act.put,zt,zu,zv,i64_w,i32_w]
       rfl
      refine pure_ (i:=2) (N:=some 19) (v:=?_) (a':=?_) #[true,false,true,false,false,false,false,false] rfl rfl (any_of HT_.out (by kernel_rfl)) (fun _ _ _ h=>h) (Or.inl ⟨by rfl,?_⟩) ?_ ?_
      rotate_left
      ·intro w'
       go_simp
       exact zr0
      rotate_left
      ·simp only [Act.put,zt,zu,zv,i64_w,i32_w]
       rfl
      refine pure_ (i:=3) (N:=some 20) (v:=?_) (a':=?_) #[true,false,true,true,false,false,false,false] rfl rfl (any_of HT_.out (by kernel_rfl)) (fun _ _ _ h=>h) (Or.inl ⟨by rfl,?_⟩) ?_ ?_
      rotate_left
      ·intro w'
       go_simp
       exact zr0
      rotate_left
      ·simp only [Act.put,zt,zu,zv,i64_w,i32_w]
       rfl
      refine take_ (i:=1) (N:=some 18) (v:=?_) (a':=?_) #[true,true,true,true,false,false,false,false] rfl rfl (take_ofW HT_.out HW_.out (by kernel_rfl)) (fun _ _ _ h=>h) (Or.inl ⟨by rfl,?_⟩) hHeld ?_ ?_
      rotate_left
      ·rintro w' ⟨s0,s1,s2⟩
       go_simp
       exact zr0
      rotate_left
      ·simp only [Act.put,zt,zu,zv,i64_w,i32_w]
       rfl
      refine take_ (i:=4) (N:=some 21) (v:=?_) (a':=?_) #[true,true,true,true,true,false,false,false] rfl rfl (take_ofW HT_.out HW_.out (by kernel_rfl)) (fun _ _ _ h=>h) (Or.inl ⟨by rfl,?_⟩) hHeld ?_ ?_
      rotate_left
      ·rintro w' ⟨s0,s1,s2⟩
       go_simp
       exact zr0
      rotate_left
      ·simp only [Act.put,zt,zu,zv,i64_w,i32_w]
       rfl
      refine one_ (i:=5) (N:=some 22) #[true,true,true,true,true,true,false,false] rfl rfl (one_of HT_.out (by kernel_rfl)) (by decide) (fun K hK=>?_)
      refine goes_ Tryz.func52 (by kernel_rfl) rfl #[.agg #[.string a1_0,.string a1_1,.string a1_2],.int .u8 (bt a0 x6_1)] (by rfl) rfl rfl za4 ?_
      with_reducible refine (spec_ValueOf.calls a1_0 a1_1 a1_2 (bt a0 x6_1) t114003 _ A10.out).mono ?_
      rintro e w14 ⟨rfl,hb⟩
      refine ⟨_,rfl,?_⟩
      have n0_:=zk (zb BK114001.out hb)
      have n1_:=zk (below_step za3 hb)
      clear BK114001
      clear HB
      have BK114001:=n0_
      have HB:=n1_
      clear n0_ n1_
      (try clear hb)
      (try clear hb2)
      (try clear hk)
      (try clear hi)
      refine hK.out _ _ ⟨(blk_cell BK114001.out 0).trans rfl,(blk_cell BK114001.out 1).trans rfl,(blk_cell BK114001.out 2).trans rfl⟩ (fun hHeld=>?_)
      clear hK K
      refine norm_ (a':=?_) ?_ ?_
      rotate_left
      ·show Act.put _ (some 22) _=_
       simp only [Act.put,zt,zu,zv,i64_w,i32_w]
       rfl
      refine pure_ (i:=6) (N:=some 23) (v:=?_) (a':=?_) #[true,true,true,true,true,true,true,false] rfl rfl (any_of HT_.out (by kernel_rfl)) (fun _ _ _ h=>h) (Or.inl ⟨by rfl,?_⟩) ?_ ?_
      rotate_left
      ·intro w'
       go_simp
       exact zr0
      rotate_left
      ·simp only [Act.put,zt,zu,zv,i64_w,i32_w]
       rfl
      refine pure_ (i:=7) (N:=some 5) (v:=?_) (a':=?_) #[true,true,true,true,true,true,true,true] rfl rfl (any_of HT_.out (by kernel_rfl)) (fun _ _ _ h=>h) (Or.inl ⟨by rfl,?_⟩) ?_ ?_
      rotate_left
      ·intro w'
       go_simp
       exact zr0
      rotate_left
      ·simp only [Act.put,zt,zu,zv,i64_w,i32_w]
       rfl
      refine done_ (done_of HT_.out (by kernel_rfl)) ?_
      try go_wp2
      first
      | (
        clear fin0_
        go_ret
        exact ⟨za6,za3⟩)
      | (
        clear fin1_
        go_roundg k1
        case measure=>have:=HK1.out;omega
        case rel=>exact ⟨(x5_1 ++ t114003),(wrap64 (x6_1+1)),za7,za7,H',⟨za15⟩,⟨za1 BK114001.out⟩,⟨za3⟩⟩))
    | (
      clear tag1_
      have p6:0≤(x6_1:Int):=of_decide_eq_true za8
      have q6:x6_1 < (a0.size:Int):=of_decide_eq_true za8
      have hx6:=bt_at a0 x6_1
      replace p6:=eq_true p6
      replace q6:=eq_true q6
      go_wp2_with (((with_reducible refine gate_callee (f:=127) rfl ?_);refine goesL_ (some 16) rfl rfl Tryz.func127 (by kernel_rfl) rfl #[.int .u8 (bt a0 x6_1)] rfl za4 ?_;(with_reducible refine (spec_l8Var.calls (bt a0 x6_1) _ _ A7.out).mono ?_);rintro e w' ⟨rfl,⟨nd,rfl⟩⟩;refine ⟨_,rfl,?_⟩))
      first
      | (
        clear fin0_
        go_ret
        exact ⟨za6,za3⟩)
      | (
        clear fin1_
        go_roundg k1
        case measure=>have:=HK1.out;omega
        case rel=>exact ⟨(x5_1 ++ (a0.extract (x6_1:Int).toNat ((wrap64 (x6_1+1)):Int).toNat)),(wrap64 (x6_1+1)),za7,za7,H',⟨za15⟩,⟨za1 BK114001.out⟩,⟨za3⟩⟩))
end Go.Proofs.YtffjfdoghofkdaaGreat.A
