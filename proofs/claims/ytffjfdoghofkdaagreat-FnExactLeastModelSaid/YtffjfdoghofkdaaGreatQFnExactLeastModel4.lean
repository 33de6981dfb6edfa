/- FnExactLeastModel: what its proof needs, put together by this session's program wip/merge.py out of the texts that wip/xp.py printed and of this session's own. -/
import Derived.Test.YtffjfdoghofkdaaGreatQFnExactLeastModel3
import Derived.Test.YtffjfdoghofkdaaGreatProg
import Derived.Shelf.Abstract
import Derived.Deep.LoopGhost
set_option linter.unusedVariables false
set_option linter.unusedSimpArgs false
set_option linter.unusedSectionVars false
set_option maxHeartbeats 8000000
set_option maxRecDepth 100000
namespace Go.Proofs.YtffjfdoghofkdaaGreat.A
open Go.RowKit YtffjfdoghofkdaaGreat.Ext YtffjfdoghofkdaaGreatW.PrintWords YtffjfdoghofkdaaGreatW.PrintLast YtffjfdoghofkdaaGreatW.PrintMore
attribute [local go_sem] max2_int min2_int max_two min_two max_three min_three max_four min_four
def spec_BoundOf.j0:Nat→Int→Bool→Option (Int)
 | 0,_,_=>none
 | k+1,x8,x9=>if x9=true then (some 5) else (if x8=2 then (some 3) else (some 2))
def spec_BoundOf.f (k:Nat) (l0_0:List (S67)):Option (Int):=(spec_IsValidProblem.f k l0_0).bind fun t14002=>(if t14002=true then ((spec_VarsOfProblem.f k l0_0).bind fun t14003=>(if (t14003.size:Int)=0 then (spec_BoundOf.j0 k (t14003.size:Int) ((t14003.size:Int) == 0)) else (spec_BoundOf.j0 k (t14003.size:Int) ((t14003.size:Int) == 1)))) else (some (-1)))
theorem spec_BoundOf.mono_l:∀ k,(∀ y0 y1,LeO (spec_BoundOf.j0 k y0 y1) (spec_BoundOf.j0 (k+1) y0 y1))
 | 0=>fun _ _ r h=>by simp [spec_BoundOf.j0] at h
 | k+1=>by
  have ih0:=spec_BoundOf.mono_l k
  ·intro y0 y1
   unfold spec_BoundOf.j0
   repeat' first
   | with_reducible first|exact ih0 _ _|exact spec_IsValidProblem.mono _ _|exact spec_VarsOfProblem.mono _ _|exact LeO.refl _|exact LeO.none _|refine LeO.ite ?_ ?_|refine LeO.bind ?_ (fun _=>?_)
theorem spec_BoundOf.mono:∀ a0 k,LeO (spec_BoundOf.f k a0) (spec_BoundOf.f (k+1) a0):=by
 intro a0 k
 have ih0:=spec_BoundOf.mono_l k
 unfold spec_BoundOf.f
 repeat' first
  | with_reducible first|exact ih0 _ _|exact spec_IsValidProblem.mono _ _|exact spec_VarsOfProblem.mono _ _|exact LeO.refl _|exact LeO.none _|refine LeO.ite ?_ ?_|refine LeO.bind ?_ (fun _=>?_)
theorem spec_BoundOf.calls (k:Nat) (A0_0:Option Addr) (c0_0:Nat) (l0_0:List (S67)) (r:Int) (w:World) (hr0_0:Kd.C k67 w A0_0 l0_0.length l0_0) (hc0_0:l0_0.length≤c0_0) (h:spec_BoundOf.f k l0_0=some r) :
  Calls Tryz.prog 14 #[.agg #[.slice A0_0 l0_0.length c0_0]] w fun e w'=>e = .returned (.int .i64 r)∧Below w.heap.size w w':=by
 have hu26:=Tryz.underlying26
 have HR0_0:=zk hr0_0
 have HC0_0:=zk hc0_0
 clear hr0_0 hc0_0
 have HB:=zk (Below.refl w.heap.size w)
 have H:((spec_IsValidProblem.f k l0_0).bind fun t14002=>(if t14002=true then ((spec_VarsOfProblem.f k l0_0).bind fun t14003=>(if (t14003.size:Int)=0 then (spec_BoundOf.j0 k (t14003.size:Int) ((t14003.size:Int) == 0)) else (spec_BoundOf.j0 k (t14003.size:Int) ((t14003.size:Int) == 1)))) else (some (-1))))=some r:=h
 clear h
 replace H:=zo H
 obtain ⟨t14002,A20,H⟩:=H
 replace H:(if t14002=true then ((spec_VarsOfProblem.f k l0_0).bind fun t14003=>(if (t14003.size:Int)=0 then (spec_BoundOf.j0 k (t14003.size:Int) ((t14003.size:Int) == 0)) else (spec_BoundOf.j0 k (t14003.size:Int) ((t14003.size:Int) == 1)))) else (some (-1)))=some r:=H
 have A2:=zk A20
 clear A20
 by_cases c3:t14002=true
 ·subst c3
  have H1:((spec_VarsOfProblem.f k l0_0).bind fun t14003=>(if (t14003.size:Int)=0 then (spec_BoundOf.j0 k (t14003.size:Int) ((t14003.size:Int) == 0)) else (spec_BoundOf.j0 k (t14003.size:Int) ((t14003.size:Int) == 1))))=some r:=by rw [if_pos rfl] at H;exact H
  clear H
  have H:=H1
  clear H1
  replace H:=zo H
  obtain ⟨t14003,A40,H⟩:=H
  replace H:(if (t14003.size:Int)=0 then (spec_BoundOf.j0 k (t14003.size:Int) ((t14003.size:Int) == 0)) else (spec_BoundOf.j0 k (t14003.size:Int) ((t14003.size:Int) == 1)))=some r:=H
  have A4:=zk A40
  clear A40
  have HC5:=zk H
  clear H
  go_enter Tryz.func14,Tryz.ntmps14
  go_upto_if 9 with (first|((with_reducible refine gate_dst (N:=1) rfl ?_);refine zE (N:=1) (cs:=#[.slice A0_0 l0_0.length c0_0]) (t:=26) ?_;intro gb14001 hg w6 hbox hb;have n0_:=zk (below_step za4 hb);have n1_:=zk (hbox);have n2_:=zk (zs (w:=w) hg za4);have n3_:=zk (zs (w:=w) hg za4);clear HB;have HB:=n0_;have BK14001:=n1_;have GW14001:=n2_;have GE14001:=n3_;clear n0_ n1_ n2_ n3_;clear hb hbox hg;obtain ⟨hcz7_0,hfz7_0⟩:=blk1 BK14001.out)|((with_reducible refine gate_callee (f:=35) rfl ?_);refine goesL_ (some 4) rfl rfl Tryz.func35 (by kernel_rfl) rfl #[.agg #[.slice A0_0 l0_0.length c0_0]] rfl za5 ?_;(with_reducible refine (spec_IsValidProblem.calls k _ _ l0_0 _ _ ?side1 ?side2 A2.out).mono ?_);(case side1=>repeat (first|exact (Kd.C_below HR0_0.out HB.out)|(with_reducible refine Kd.C_alloc ?_ _)|(with_reducible refine Kd.C_drewN ?_ _)|(with_reducible refine Kd.C_drew ?_)));(case side2=>exact HC0_0.out);rintro e w8 ⟨rfl,hb⟩;refine ⟨_,rfl,?_⟩;have n0_:=zk (zb BK14001.out hb);have n1_:=zk (below_step za4 hb);clear BK14001;clear HB;have BK14001:=n0_;have HB:=n1_;clear n0_ n1_;(try clear hb);(try clear hb2);(try clear hk);(try clear hi);obtain ⟨hcz9_0,hfz9_0⟩:=blk1 BK14001.out)|((with_reducible refine gate_callee (f:=39) rfl ?_);refine goesL_ (some 7) rfl rfl Tryz.func39 (by kernel_rfl) rfl #[.agg #[.slice A0_0 l0_0.length c0_0]] rfl za5 ?_;(with_reducible refine (spec_VarsOfProblem.calls k _ _ l0_0 t14003 _ ?side1 ?side2 A4.out).mono ?_);(case side1=>repeat (first|exact (Kd.C_below HR0_0.out HB.out)|(with_reducible refine Kd.C_alloc ?_ _)|(with_reducible refine Kd.C_drewN ?_ _)|(with_reducible refine Kd.C_drew ?_)));(case side2=>exact HC0_0.out);rintro e w10 ⟨rfl,hb⟩;refine ⟨_,rfl,?_⟩;have n0_:=zk (zb BK14001.out hb);have n1_:=zk (below_step za4 hb);clear BK14001;clear HB;have BK14001:=n0_;have HB:=n1_;clear n0_ n1_;(try clear hb);(try clear hb2);(try clear hk);(try clear hi)))
  (try simp only [Act.put,zt,zu,zv])
  go_cut [9] (fun v9 wc=>∃ (kq:Nat) (x9_4:Bool),v9 = .bool x9_4∧Aside0 (spec_BoundOf.j0 kq (t14003.size:Int) x9_4=some r)∧Aside0 (kq≤k)∧Aside0 (wc.heap[gb14001]? = some (.cells #[(.slice A0_0 l0_0.length c0_0)] 26 (0,0)))∧Aside0 (Below w.heap.size w wc))
  case first =>
   have H:=HC5.out
   clear HC5
   by_cases c11:(t14003.size:Int)=0
   · rw [if_pos c11] at H
     have c11b0:((t14003.size:Int) == 0)=true:=beq_iff_eq.mpr c11
     have c11b1:((t14003.size:Int) != 0)=false:=bne_eq_false_iff_eq.mpr c11
     clear c11
     (first|rw [c11b0]|(simp only [i64_w,i32_w];rw [c11b0])|skip)
     have H':=zk H
     clear H
     go_wp2
     go_meet
     case rel=>exact ⟨_,(((t14003.size:Int) == 0)),za8,H',⟨za26⟩,⟨za0 BK14001.out⟩,⟨za4⟩⟩
   · rw [if_neg c11] at H
     have c11b0:((t14003.size:Int) == 0)=false:=beq_eq_false_iff_ne.mpr c11
     have c11b1:((t14003.size:Int) != 0)=true:=bne_iff_ne.mpr c11
     (first|rw [c11b0]|(simp only [i64_w,i32_w];rw [c11b0])|skip)
     have H':=zk H
     clear H
     go_wp2
     go_meet
     case rel=>exact ⟨_,(((t14003.size:Int) == 1)),za8,H',⟨za26⟩,⟨za0 BK14001.out⟩,⟨za4⟩⟩
  case rest =>
   clear HC5
   try clear c3
   try clear hcz7_0
   try clear hcz9_0
   try clear hfz7_0
   try clear hfz9_0
   obtain ⟨kq,x9_4,rfl,HA,HJ4,BK14001,HB⟩:=hcut
   cases kq with
   | zero=>exact absurd HA.out (by simp [spec_BoundOf.j0])
   | succ kj4 =>
    have H:=HA.out
    clear HA
    simp only [spec_BoundOf.j0] at H
    by_cases c12:x9_4=true
    subst c12
    have H1:(some 5)=some r:=by rw [if_pos rfl] at H;exact H
    clear H
    have H:=H1
    clear H1
    rotate_left
    replace c12:=Bool.eq_false_iff.mpr c12
    subst c12
    have H1:(if (t14003.size:Int)=2 then (some 3) else (some 2))=some r:=by rw [if_neg (show ¬ (false=true) by decide)] at H;exact H
    clear H
    have H:=H1
    clear H1
    by_cases c13:(t14003.size:Int)=2
    rw [if_pos c13] at H
    have c13b0:((t14003.size:Int) == 2)=true:=beq_iff_eq.mpr c13
    have c13b1:((t14003.size:Int) != 2)=false:=bne_eq_false_iff_eq.mpr c13
    clear c13
    rotate_left
    rw [if_neg c13] at H
    have c13b0:((t14003.size:Int) == 2)=false:=beq_eq_false_iff_ne.mpr c13
    have c13b1:((t14003.size:Int) != 2)=true:=bne_iff_ne.mpr c13
    rotate_left
    all_goals
     obtain rfl:=zi H
     go_wp2
     go_ret
     exact ⟨za7,za4⟩
 ·replace c3:=Bool.eq_false_iff.mpr c3
  subst c3
  have H1:(some (-1))=some r:=by rw [if_neg (show ¬ (false=true) by decide)] at H;exact H
  clear H
  have H:=H1
  clear H1
  obtain rfl:=zi H
  go_enter Tryz.func14,Tryz.ntmps14
  go_wp2_with (first|((with_reducible refine gate_dst (N:=1) rfl ?_);refine zE (N:=1) (cs:=#[.slice A0_0 l0_0.length c0_0]) (t:=26) ?_;intro gb14001 hg w14 hbox hb;have n0_:=zk (below_step za4 hb);have n1_:=zk (hbox);have n2_:=zk (zs (w:=w) hg za4);have n3_:=zk (zs (w:=w) hg za4);clear HB;have HB:=n0_;have BK14001:=n1_;have GW14001:=n2_;have GE14001:=n3_;clear n0_ n1_ n2_ n3_;clear hb hbox hg;obtain ⟨hcz15_0,hfz15_0⟩:=blk1 BK14001.out)|((with_reducible refine gate_callee (f:=35) rfl ?_);refine goesL_ (some 4) rfl rfl Tryz.func35 (by kernel_rfl) rfl #[.agg #[.slice A0_0 l0_0.length c0_0]] rfl za5 ?_;(with_reducible refine (spec_IsValidProblem.calls k _ _ l0_0 _ _ ?side1 ?side2 A2.out).mono ?_);(case side1=>repeat (first|exact (Kd.C_below HR0_0.out HB.out)|(with_reducible refine Kd.C_alloc ?_ _)|(with_reducible refine Kd.C_drewN ?_ _)|(with_reducible refine Kd.C_drew ?_)));(case side2=>exact HC0_0.out);rintro e w16 ⟨rfl,hb⟩;refine ⟨_,rfl,?_⟩;have n0_:=zk (zb BK14001.out hb);have n1_:=zk (below_step za4 hb);clear BK14001;clear HB;have BK14001:=n0_;have HB:=n1_;clear n0_ n1_;(try clear hb);(try clear hb2);(try clear hk);(try clear hi)))
  go_ret
  exact ⟨za7,za4⟩
def spec_l11Keeps.l0:Nat→Int→List (S67)→ByteArray→ByteArray→ByteArray→Option (Bool)
 | 0,_,_,_,_,_=>none
 | k+1,x5,x71002000,x71003000,x71003001,x71003002=>if x5 < (x71002000.length:Int) then (if 0≤x5 then ((spec_l9Holds.f k ((rd_T67 x71002000 x5).f0) ((rd_T67 x71002000 x5).f1) ((rd_T67 x71002000 x5).f2) ((rd_T67 x71002000 x5).f3.f0) ((rd_T67 x71002000 x5).f3.f1) ((rd_T67 x71002000 x5).f3.f2) ((rd_T67 x71002000 x5).f4) ((rd_T67 x71002000 x5).f5) x71003000 x71003001 x71003002).bind fun t71004=>(if t71004=true then (spec_l11Keeps.l0 k (wrap64 (x5+1)) x71002000 x71003000 x71003001 x71003002) else (some false))) else (none)) else (some true)
def spec_l11Keeps.f (k:Nat) (l0_0:List (S67)) (a1_0:ByteArray) (a1_1:ByteArray) (a1_2:ByteArray):Option (Bool):=spec_l11Keeps.l0 k 0 l0_0 a1_0 a1_1 a1_2
theorem spec_l11Keeps.mono_l:∀ k,(∀ y0 y1 y2 y3 y4,LeO (spec_l11Keeps.l0 k y0 y1 y2 y3 y4) (spec_l11Keeps.l0 (k+1) y0 y1 y2 y3 y4))
 | 0=>fun _ _ _ _ _ r h=>by simp [spec_l11Keeps.l0] at h
 | k+1=>by
  have ih0:=spec_l11Keeps.mono_l k
  ·intro y0 y1 y2 y3 y4
   unfold spec_l11Keeps.l0
   repeat' first
   | with_reducible first|exact ih0 _ _ _ _ _|exact spec_l9Holds.mono _ _ _ _ _ _ _ _ _ _ _ _|exact LeO.refl _|exact LeO.none _|refine LeO.ite ?_ ?_|refine LeO.bind ?_ (fun _=>?_)
theorem spec_l11Keeps.mono:∀ a0 a1 a2 a3 k,LeO (spec_l11Keeps.f k a0 a1 a2 a3) (spec_l11Keeps.f (k+1) a0 a1 a2 a3):=by
 intro a0 a1 a2 a3 k
 have ih0:=spec_l11Keeps.mono_l k
 unfold spec_l11Keeps.f
 repeat' first
  | with_reducible first|exact ih0 _ _ _ _ _|exact spec_l9Holds.mono _ _ _ _ _ _ _ _ _ _ _ _|exact LeO.refl _|exact LeO.none _|refine LeO.ite ?_ ?_|refine LeO.bind ?_ (fun _=>?_)
def spec_l11Keeps.T4:Bool × List (List Nat × List Nat):=(true,[([],[]),([0],[0]),([],[]),([1,2],[1,2]),([3],[3]),([],[]),([4,5],[4,5]),([6],[6])])
def spec_l11Keeps.B4:List Nat:=[0,1,0,7,15,0,63,127]
theorem spec_l11Keeps.tab4:rtab .any (opsOf Tryz.f71 4)=spec_l11Keeps.T4:=by kernel_rfl
theorem spec_l11Keeps.bits4:waitsOk spec_l11Keeps.T4.2 spec_l11Keeps.B4=true:=by kernel_rfl
theorem spec_l11Keeps.calls (k:Nat) (A0_0:Option Addr) (c0_0:Nat) (l0_0:List (S67)) (a1_0:ByteArray) (a1_1:ByteArray) (a1_2:ByteArray) (r:Bool) (w:World) (hr0_0:Kd.C k67 w A0_0 l0_0.length l0_0) (hc0_0:l0_0.length≤c0_0) (h:spec_l11Keeps.f k l0_0 a1_0 a1_1 a1_2=some r) :
   Calls Tryz.prog 71 #[.agg #[.slice A0_0 l0_0.length c0_0],.agg #[.string a1_0,.string a1_1,.string a1_2]] w fun e w'=>e = .returned (.bool r)∧Below w.heap.size w w':=by
 have hu26:=Tryz.underlying26
 have hu32:=Tryz.underlying32
 have hu67:=Tryz.underlying67
 have HR0_0:=zk hr0_0
 have HC0_0:=zk hc0_0
 clear hr0_0 hc0_0
 have HB:=zk (Below.refl w.heap.size w)
 have H:(spec_l11Keeps.l0 k 0 l0_0 a1_0 a1_1 a1_2)=some r:=h
 clear h
 have H':=zk H
 clear H
 go_enter Tryz.func71,Tryz.ntmps71
 go_wp2_with (first|((with_reducible refine gate_dst (N:=2) rfl ?_);refine zE (N:=2) (cs:=#[.slice A0_0 l0_0.length c0_0]) (t:=26) ?_;intro gb71001 hg w3 hbox hb;have n0_:=zk (below_step za4 hb);have n1_:=zk (hbox);have n2_:=zk (zs (w:=w) hg za4);have n3_:=zk (zs (w:=w) hg za4);clear HB;have HB:=n0_;have BK71001:=n1_;have GW71001:=n2_;have GE71001:=n3_;clear n0_ n1_ n2_ n3_;clear hb hbox hg)|((with_reducible refine gate_dst (N:=3) rfl ?_);refine zE (N:=3) (cs:=#[.string a1_0,.string a1_1,.string a1_2]) (t:=32) ?_;intro gb71002 hg w4 hbox hb;have n0_:=zk (zb BK71001.out hb);have n1_:=zk (below_step za4 hb);have n2_:=zk (hbox);have n3_:=zk (zs (w:=w) hg za4);have n4_:=zk (zs (w:=w) hg za4);have n5_:=zk ((by rw [hg];exact Nat.ne_of_lt (zl BK71001.out):gb71001 ≠ gb71002));have n6_:=zk ((by rw [hg];exact Nat.ne_of_gt (zl BK71001.out):gb71002 ≠ gb71001));clear BK71001;clear HB;have BK71001:=n0_;have HB:=n1_;have BK71002:=n2_;have GW71002:=n3_;have GE71002:=n4_;have NB71001_71002:=n5_;have NB71002_71001:=n6_;clear n0_ n1_ n2_ n3_ n4_ n5_ n6_;clear hb hbox hg))
 first|go_loopg [5] k (fun kq v5 w'=>∃ (x5_1:Int),v5 = .int .i64 x5_1∧Aside0 (spec_l11Keeps.l0 kq x5_1 l0_0 a1_0 a1_1 a1_2=some r)∧Aside0 (kq≤k)∧Aside0 (w'.heap[gb71001]? = some (.cells #[(.slice A0_0 l0_0.length c0_0)] 26 (0,0)))∧Aside0 (w'.heap[gb71002]? = some (.cells #[.string a1_0,.string a1_1,.string a1_2] 32 (0,0)))∧Aside0 (Below w.heap.size w w'))|(simp only [Act.put,zt,zv,zu];go_loopg [5] k (fun kq v5 w'=>∃ (x5_1:Int),v5 = .int .i64 x5_1∧Aside0 (spec_l11Keeps.l0 kq x5_1 l0_0 a1_0 a1_1 a1_2=some r)∧Aside0 (kq≤k)∧Aside0 (w'.heap[gb71001]? = some (.cells #[(.slice A0_0 l0_0.length c0_0)] 26 (0,0)))∧Aside0 (w'.heap[gb71002]? = some (.cells #[.string a1_0,.string a1_1,.string a1_2] 32 (0,0)))∧Aside0 (Below w.heap.size w w')))
 case atStart=>exact ⟨(0),za8,H',⟨Nat.le_refl _⟩,⟨za0 BK71001.out⟩,⟨za0 BK71002.out⟩,⟨za4⟩⟩
 case round =>
  clear H'
  obtain ⟨x5_1,rfl,HA,HK1,BK71001,BK71002,HB⟩:=hrel
  cases gk with
  | zero=>exact absurd HA.out (by simp [spec_l11Keeps.l0])
  | succ k1 =>
   have H:=HA.out
   clear HA
   simp only [spec_l11Keeps.l0] at H
   by_cases c5:x5_1 < (l0_0.length:Int)
   rw [if_pos c5] at H
   have c5b0:decide (x5_1 < (l0_0.length:Int))=true:=decide_eq_true c5
   clear c5
   by_cases c6:0≤x5_1
   rw [if_pos c6] at H
   have c6b0:decide (0≤x5_1)=true:=decide_eq_true c6
   clear c6
   replace H:=zo H
   obtain ⟨t71004,A70,H⟩:=H
   replace H:(if t71004=true then (spec_l11Keeps.l0 k1 (wrap64 (x5_1+1)) l0_0 a1_0 a1_1 a1_2) else (some false))=some r:=H
   have A7:=zk A70
   clear A70
   by_cases c8:t71004=true
   subst c8
   have H1:(spec_l11Keeps.l0 k1 (wrap64 (x5_1+1)) l0_0 a1_0 a1_1 a1_2)=some r:=by rw [if_pos rfl] at H;exact H
   clear H
   have H:=H1
   clear H1
   have H':=zk H
   clear H
   have fin1_:=zk trivial
   rotate_left
   replace c8:=Bool.eq_false_iff.mpr c8
   subst c8
   have H1:(some false)=some r:=by rw [if_neg (show ¬ (false=true) by decide)] at H;exact H
   clear H
   have H:=H1
   clear H1
   obtain rfl:=zi H
   have fin0_:=zk trivial
   rotate_left
   · rw [if_neg c6] at H
     exact absurd H (by simp)
   · rw [if_neg c5] at H
     have c5b0:decide (x5_1 < (l0_0.length:Int))=false:=decide_eq_false c5
     clear c5
     obtain rfl:=zi H
     have hnb17:=NB71001_71002.out
     have hnc17:=NB71002_71001.out
     obtain ⟨hcz18_0,hfz18_0⟩:=blk1 BK71001.out
     go_wp2
     go_ret
     exact ⟨za7,za4⟩
   all_goals
    have hnb13:=NB71001_71002.out
    have hnc13:=NB71002_71001.out
    obtain ⟨hcz14_0,hfz14_0⟩:=blk1 BK71001.out
    try go_wp2
    have n0_:=zk (blk_drew BK71001.out)
    have n1_:=zk (blk_drew BK71002.out)
    have n2_:=zk (below_drew1 HB.out)
    clear BK71001
    clear BK71002
    clear HB
    have BK71001:=n0_
    have BK71002:=n1_
    have HB:=n2_
    clear n0_ n1_ n2_
    have p71003:0≤(x5_1:Int):=of_decide_eq_true za9
    have q71003:x5_1 < (l0_0.length:Int):=of_decide_eq_true za9
    obtain ⟨ad71003,A71003_5,c71003_5,A71003_6,c71003_6,e71003,hx71003_0,hx71003_1,hx71003_2,hx71003_3,hx71003_4,hx71003_5,hx71003_6,hx71003_7,hl71003_5,hi71003_5,hl71003_6,hi71003_6⟩:=at_T67 HR0_0.out x5_1 p71003 q71003
    have hw71003_7:=hx71003_7
    have hw71003_6:=hx71003_6
    have hw71003_5:=hx71003_5
    have hw71003_4:=hx71003_4
    have hw71003_3:=hx71003_3
    have hw71003_2:=hx71003_2
    have hw71003_1:=hx71003_1
    have hw71003_0:=hx71003_0
    cases e71003
    replace hx71003_0:=zx HB.out hx71003_0
    replace hx71003_1:=zx HB.out hx71003_1
    replace hx71003_2:=zx HB.out hx71003_2
    replace hx71003_3:=zx HB.out hx71003_3
    replace hx71003_4:=zx HB.out hx71003_4
    replace hx71003_5:=zx HB.out hx71003_5
    replace hx71003_6:=zx HB.out hx71003_6
    replace hx71003_7:=zx HB.out hx71003_7
    have HR71003_5:=zk hi71003_5
    have HC71003_5:=zk hl71003_5
    clear hi71003_5 hl71003_5
    have HR71003_6:=zk hi71003_6
    have HC71003_6:=zk hl71003_6
    clear hi71003_6 hl71003_6
    replace p71003:=eq_true p71003
    replace q71003:=eq_true q71003
    refine start_ (n:=8) (S:=fun w'=>w'.cell? ⟨gb71001,0,none⟩=some (.slice (some ad71003) l0_0.length c0_0)∧w'.cell? ⟨gb71002,0,none⟩=some (.string a1_0)∧w'.cell? ⟨gb71002,1,none⟩=some (.string a1_1)∧w'.cell? ⟨gb71002,2,none⟩=some (.string a1_2)∧w'.cell? (ad71003.add ((x5_1).toNat * 8))=some (.int .i64 ((rd_T67 l0_0 x5_1).f0))∧w'.cell? ⟨(ad71003.add ((x5_1).toNat * 8)).block,(ad71003.add ((x5_1).toNat * 8)).off+1,none⟩=some (.string ((rd_T67 l0_0 x5_1).f1))∧w'.cell? ⟨(ad71003.add ((x5_1).toNat * 8)).block,(ad71003.add ((x5_1).toNat * 8)).off+2,none⟩=some (.string ((rd_T67 l0_0 x5_1).f2))∧w'.cell? ⟨(ad71003.add ((x5_1).toNat * 8)).block,(ad71003.add ((x5_1).toNat * 8)).off+3,none⟩=some (.int .i64 ((rd_T67 l0_0 x5_1).f3.f0))∧w'.cell? ⟨(ad71003.add ((x5_1).toNat * 8)).block,(ad71003.add ((x5_1).toNat * 8)).off+4,none⟩=some (.string ((rd_T67 l0_0 x5_1).f3.f1))∧w'.cell? ⟨(ad71003.add ((x5_1).toNat * 8)).block,(ad71003.add ((x5_1).toNat * 8)).off+5,none⟩=some (.slice A71003_5 ((rd_T67 l0_0 x5_1).f3.f2).length c71003_5)∧w'.cell? ⟨(ad71003.add ((x5_1).toNat * 8)).block,(ad71003.add ((x5_1).toNat * 8)).off+6,none⟩=some (.slice A71003_6 ((rd_T67 l0_0 x5_1).f4).length c71003_6)∧w'.cell? ⟨(ad71003.add ((x5_1).toNat * 8)).block,(ad71003.add ((x5_1).toNat * 8)).off+7,none⟩=some (.int .i64 ((rd_T67 l0_0 x5_1).f5))) (ds:=[]) #[false,false,false,false,false,false,false,false] (by kernel_rfl) rfl rfl ⟨(blk_cell BK71001.out 0).trans rfl,(blk_cell BK71002.out 0).trans rfl,(blk_cell BK71002.out 1).trans rfl,(blk_cell BK71002.out 2).trans rfl,((HB.out.cell (World.block_lt_of_cell? w _ hw71003_0)).trans hw71003_0),((HB.out.cell (World.block_lt_of_cell? w _ hw71003_1)).trans hw71003_1),((HB.out.cell (World.block_lt_of_cell? w _ hw71003_2)).trans hw71003_2),((HB.out.cell (World.block_lt_of_cell? w _ hw71003_3)).trans hw71003_3),((HB.out.cell (World.block_lt_of_cell? w _ hw71003_4)).trans hw71003_4),((HB.out.cell (World.block_lt_of_cell? w _ hw71003_5)).trans hw71003_5),((HB.out.cell (World.block_lt_of_cell? w _ hw71003_6)).trans hw71003_6),((HB.out.cell (World.block_lt_of_cell? w _ hw71003_7)).trans hw71003_7)⟩ (fun hHeld=>?_);refine with_tabW spec_l11Keeps.tab4 spec_l11Keeps.bits4 (fun HT_ HW_=>?_)
    generalize wr.drew=w15 at BK71001 BK71002 HB HR71003_5 HR71003_6 hx71003_0 hx71003_1 hx71003_2 hx71003_3 hx71003_4 hx71003_5 hx71003_6 hx71003_7 hHeld ⊢
    refine pure_ (i:=0) (N:=some 13) (v:=?_) (a':=?_) #[true,false,false,false,false,false,false,false] rfl rfl (any_of HT_.out (by kernel_rfl)) (fun _ _ _ h=>h) (Or.inl ⟨by rfl,?_⟩) ?_ ?_
    rotate_left
    · intro w'
      go_simp
      first|with_reducible rfl|(rw [if_neg (by omega)];done)
    rotate_left
    · simp only [Act.put,zt,zu,zv,i64_w,i32_w]
      rfl
    refine pure_ (i:=2) (N:=some 15) (v:=?_) (a':=?_) #[true,false,true,false,false,false,false,false] rfl rfl (any_of HT_.out (by kernel_rfl)) (fun _ _ _ h=>h) (Or.inl ⟨by rfl,?_⟩) ?_ ?_
    rotate_left
    · intro w'
      go_simp
      first|with_reducible rfl|(rw [if_neg (by omega)];done)
    rotate_left
    · simp only [Act.put,zt,zu,zv,i64_w,i32_w]
      rfl
    refine take_ (i:=1) (N:=some 14) (v:=?_) (a':=?_) #[true,true,true,false,false,false,false,false] rfl rfl (take_ofW HT_.out HW_.out (by kernel_rfl)) (fun _ _ _ h=>h) (Or.inl ⟨by rfl,?_⟩) hHeld ?_ ?_
    rotate_left
    · rintro w' ⟨s0,s1,s2,s3,s4,s5,s6,s7,s8,s9,s10,s11⟩
      go_simp
      first|with_reducible rfl|(rw [if_neg (by omega)];done)
    rotate_left
    · simp only [Act.put,zt,zu,zv,i64_w,i32_w]
      rfl
    refine pure_ (i:=3) (N:=some 16) (v:=?_) (a':=?_) #[true,true,true,true,false,false,false,false] rfl rfl (any_of HT_.out (by kernel_rfl)) (fun _ _ _ h=>h) (Or.inl ⟨by rfl,?_⟩) ?_ ?_
    rotate_left
    · intro w'
      go_simp
      first|with_reducible rfl|(rw [if_neg (by omega)];done)
    rotate_left
    · simp only [Act.put,zt,zu,zv,i64_w,i32_w]
      rfl
    refine take_ (i:=4) (N:=some 17) (v:=?_) (a':=?_) #[true,true,true,true,true,false,false,false] rfl rfl (take_ofW HT_.out HW_.out (by kernel_rfl)) (fun _ _ _ h=>h) (Or.inl ⟨by rfl,?_⟩) hHeld ?_ ?_
    rotate_left
    · rintro w' ⟨s0,s1,s2,s3,s4,s5,s6,s7,s8,s9,s10,s11⟩
      go_simp
      first|with_reducible rfl|(rw [if_neg (by omega)];done)
    rotate_left
    · simp only [Act.put,zt,zu,zv,i64_w,i32_w]
      rfl
    refine take_ (i:=5) (N:=some 18) (v:=?_) (a':=?_) #[true,true,true,true,true,true,false,false] rfl rfl (take_ofW HT_.out HW_.out (by kernel_rfl)) (fun _ _ _ h=>h) (Or.inl ⟨by rfl,?_⟩) hHeld ?_ ?_
    rotate_left
    · rintro w' ⟨s0,s1,s2,s3,s4,s5,s6,s7,s8,s9,s10,s11⟩
      go_simp
      first|with_reducible rfl|(rw [if_neg (by omega)];done)
    rotate_left
    · simp only [Act.put,zt,zu,zv,i64_w,i32_w]
      rfl
    refine one_ (i:=6) (N:=some 19) #[true,true,true,true,true,true,true,false] rfl rfl (one_of HT_.out (by kernel_rfl)) (by decide) (fun K hK=>?_)
    refine goes_ Tryz.func83 (by kernel_rfl) rfl #[.agg #[.int .i64 ((rd_T67 l0_0 x5_1).f0),.string ((rd_T67 l0_0 x5_1).f1),.string ((rd_T67 l0_0 x5_1).f2),.int .i64 ((rd_T67 l0_0 x5_1).f3.f0),.string ((rd_T67 l0_0 x5_1).f3.f1),.slice A71003_5 ((rd_T67 l0_0 x5_1).f3.f2).length c71003_5,.slice A71003_6 ((rd_T67 l0_0 x5_1).f4).length c71003_6,.int .i64 ((rd_T67 l0_0 x5_1).f5)],.agg #[.string a1_0,.string a1_1,.string a1_2]] (by rfl) rfl rfl za5 ?_
    with_reducible refine (spec_l9Holds.calls k1 ((rd_T67 l0_0 x5_1).f0) ((rd_T67 l0_0 x5_1).f1) ((rd_T67 l0_0 x5_1).f2) ((rd_T67 l0_0 x5_1).f3.f0) ((rd_T67 l0_0 x5_1).f3.f1) _ _ ((rd_T67 l0_0 x5_1).f3.f2) _ _ ((rd_T67 l0_0 x5_1).f4) ((rd_T67 l0_0 x5_1).f5) a1_0 a1_1 a1_2 _ _ ?side1 ?side2 ?side3 ?side4 A7.out).mono ?_
    (case side1=>repeat (first|exact (Kd.C_below HR71003_5.out HB.out)|(with_reducible refine Kd.C_alloc ?_ _)|(with_reducible refine Kd.C_drewN ?_ _)|(with_reducible refine Kd.C_drew ?_)))
    (case side2=>exact HC71003_5.out)
    (case side3=>repeat (first|exact (Kd.C_below HR71003_6.out HB.out)|(with_reducible refine Kd.C_alloc ?_ _)|(with_reducible refine Kd.C_drewN ?_ _)|(with_reducible refine Kd.C_drew ?_)))
    (case side4=>exact HC71003_6.out)
    rintro e w16 ⟨rfl,hb⟩
    refine ⟨_,rfl,?_⟩
    have n0_:=zk (zb BK71001.out hb)
    have n1_:=zk (zb BK71002.out hb)
    have n2_:=zk (below_step za4 hb)
    clear BK71001
    clear BK71002
    clear HB
    have BK71001:=n0_
    have BK71002:=n1_
    have HB:=n2_
    clear n0_ n1_ n2_
    (try clear hb)
    (try clear hb2)
    (try clear hk)
    (try clear hi)
    refine hK.out _ _ ⟨(blk_cell BK71001.out 0).trans rfl,(blk_cell BK71002.out 0).trans rfl,(blk_cell BK71002.out 1).trans rfl,(blk_cell BK71002.out 2).trans rfl,((HB.out.cell (World.block_lt_of_cell? w _ hw71003_0)).trans hw71003_0),((HB.out.cell (World.block_lt_of_cell? w _ hw71003_1)).trans hw71003_1),((HB.out.cell (World.block_lt_of_cell? w _ hw71003_2)).trans hw71003_2),((HB.out.cell (World.block_lt_of_cell? w _ hw71003_3)).trans hw71003_3),((HB.out.cell (World.block_lt_of_cell? w _ hw71003_4)).trans hw71003_4),((HB.out.cell (World.block_lt_of_cell? w _ hw71003_5)).trans hw71003_5),((HB.out.cell (World.block_lt_of_cell? w _ hw71003_6)).trans hw71003_6),((HB.out.cell (World.block_lt_of_cell? w _ hw71003_7)).trans hw71003_7)⟩ (fun hHeld=>?_)
    clear hK K
    refine norm_ (a':=?_) ?_ ?_
    rotate_left
    · show Act.put _ (some 19) _=_
      simp only [Act.put,zt,zu,zv,i64_w,i32_w]
      rfl
    refine pure_ (i:=7) (N:=some 20) (v:=?_) (a':=?_) #[true,true,true,true,true,true,true,true] rfl rfl (any_of HT_.out (by kernel_rfl)) (fun _ _ _ h=>h) (Or.inl ⟨by rfl,?_⟩) ?_ ?_
    rotate_left
    · intro w'
      go_simp
      first|with_reducible rfl|(rw [if_neg (by omega)];done)
    rotate_left
    · simp only [Act.put,zt,zu,zv,i64_w,i32_w]
      rfl
    refine done_ (done_of HT_.out (by kernel_rfl)) ?_
    try go_wp2
    first
    | (
       clear fin0_
       go_ret
       exact ⟨za7,za4⟩)
    | (
       clear fin1_
       go_roundg k1
       case measure=>have:=HK1.out;omega
       case rel=>exact ⟨(wrap64 (x5_1+1)),za8,H',⟨za17⟩,⟨za0 BK71001.out⟩,⟨za0 BK71002.out⟩,⟨za4⟩⟩)
mutual
def spec_l11All.l0:Nat→ByteArray→List ByteArray→List (S32)→Int→List (S67)→ByteArray→ByteArray→ByteArray→Option ((List (S32)))
 | 0,_,_,_,_,_,_,_,_=>none
 | k+1,x1,x2,x4,x11,x38002000,x38003000,x38003001,x38003002=>if x11 < (x2.length:Int) then (if 1≤(x1.size:Int) then (if 0 < (x1.size:Int) then (if 0≤x11 then ((spec_WithValue.f x38003000 x38003001 x38003002 (bt x1 0) (rdOf ByteArray.empty x2 x11)).bind fun bt38008=>((spec_l11All.f k x38002000 (x1.extract 1 x1.size) x2 bt38008.1 bt38008.2.1 bt38008.2.2 x4).bind fun t38011=>(spec_l11All.l0 k x1 x2 t38011 (wrap64 (x11+1)) x38002000 x38003000 x38003001 x38003002))) else (none)) else (none)) else (none)) else (some x4)
def spec_l11All.f:Nat→List (S67)→ByteArray→List ByteArray→ByteArray→ByteArray→ByteArray→List (S32)→Option ((List (S32)))
 | 0,_,_,_,_,_,_,_=>none
 | k+1,l0_0,a1,l2,a3_0,a3_1,a3_2,l4=>if a1.toList=([]:List UInt8) then ((spec_l11Keeps.f k l0_0 a3_0 a3_1 a3_2).bind fun t38003=>(if t38003=true then (if l4.length < 2932031007402 then (some (l4 ++ [(⟨a3_0,a3_1,a3_2⟩:S32)])) else (none)) else (some l4))) else (spec_l11All.l0 k a1 l2 l4 0 l0_0 a3_0 a3_1 a3_2)
end
theorem spec_l11All.mono_l:∀ k,(∀ y0 y1 y2 y3 y4 y5 y6,LeO (spec_l11All.f k y0 y1 y2 y3 y4 y5 y6) (spec_l11All.f (k+1) y0 y1 y2 y3 y4 y5 y6))∧(∀ y0 y1 y2 y3 y4 y5 y6 y7,LeO (spec_l11All.l0 k y0 y1 y2 y3 y4 y5 y6 y7) (spec_l11All.l0 (k+1) y0 y1 y2 y3 y4 y5 y6 y7))
 | 0=>⟨fun _ _ _ _ _ _ _ r h=>by simp [spec_l11All.f] at h,fun _ _ _ _ _ _ _ _ r h=>by simp [spec_l11All.l0] at h⟩
 | k+1=>by
  obtain ⟨ih0,ih1⟩:=spec_l11All.mono_l k
  refine ⟨?_,?_⟩
  ·intro y0 y1 y2 y3 y4 y5 y6
   unfold spec_l11All.f
   repeat' first
   | with_reducible first|exact ih0 _ _ _ _ _ _ _|exact ih1 _ _ _ _ _ _ _ _|exact spec_l11Keeps.mono _ _ _ _ _|exact LeO.refl _|exact LeO.none _|refine LeO.ite ?_ ?_|refine LeO.bind ?_ (fun _=>?_)
  ·intro y0 y1 y2 y3 y4 y5 y6 y7
   unfold spec_l11All.l0
   repeat' first
   | with_reducible first|exact ih0 _ _ _ _ _ _ _|exact ih1 _ _ _ _ _ _ _ _|exact spec_l11Keeps.mono _ _ _ _ _|exact LeO.refl _|exact LeO.none _|refine LeO.ite ?_ ?_|refine LeO.bind ?_ (fun _=>?_)
theorem spec_l11All.mono:∀ a0 a1 a2 a3 a4 a5 a6 k,LeO (spec_l11All.f k a0 a1 a2 a3 a4 a5 a6) (spec_l11All.f (k+1) a0 a1 a2 a3 a4 a5 a6):=by
 intro a0 a1 a2 a3 a4 a5 a6 k
 obtain ⟨ih0,ih1⟩:=spec_l11All.mono_l k
 exact ih0 a0 a1 a2 a3 a4 a5 a6
def spec_l11All.T8:Bool × List (List Nat × List Nat):=(true,[([],[]),([],[]),([1],[1]),([],[]),([],[]),([],[]),([5],[5]),([],[]),([],[]),([7,8],[7,8]),([9],[9]),([4,6,10],[4,6,10]),([],[]),([0,2,3,11,12,11],[0,2,3,11,12]),([13,13,0,1,2,3,4,5,6,7,8,9,10,11,12,13],[12,13])])
def spec_l11All.B8:List Nat:=[0,0,2,0,0,0,32,0,0,384,896,2032,0,8191,16383]
theorem spec_l11All.tab8:rtab .any (opsOf Tryz.f38 8)=spec_l11All.T8:=by kernel_rfl
theorem spec_l11All.bits8:waitsOk spec_l11All.T8.2 spec_l11All.B8=true:=by kernel_rfl
theorem spec_l11All.calls (k:Nat):∀ (A0_0:Option Addr) (c0_0:Nat) (l0_0:List (S67)) (a1:ByteArray) (A2:Option Addr) (c2:Nat) (l2:List ByteArray) (a3_0:ByteArray) (a3_1:ByteArray) (a3_2:ByteArray) (P4_:Nat→Prop) (u9000_:Value) (l4:List (S32)) (r:List (S32)) (w0 w:World) (hB:Below w0.heap.size w0 w) (hr0_0:∀ W_,Kept w W_ (fun k_=>P4_ k_)→Kd.C k67 W_ A0_0 l0_0.length l0_0) (hc0_0:l0_0.length≤c0_0) (hr2:∀ W_,Kept w W_ (fun k_=>P4_ k_)→Kd.C Kd.string W_ A2 l2.length l2) (hc2:l2.length≤c2) (ho4:Kd.R k32 32 w w0.heap.size P4_ u9000_ l4) (h:spec_l11All.f k l0_0 a1 l2 a3_0 a3_1 a3_2 l4=some r),
   Calls Tryz.prog 38 #[.agg #[.slice A0_0 l0_0.length c0_0],.string a1,.slice A2 l2.length c2,.agg #[.string a3_0,.string a3_1,.string a3_2],u9000_] w fun e w'=>∃ v0_:Value,e = .returned (v0_)∧Kd.R k32 32 w' w0.heap.size (fun k_=>(P4_ k_∨w.heap.size≤k_)) v0_ r∧Below w0.heap.size w0 w'∧Kept w w' (fun k_=>P4_ k_):=by
 induction k using Nat.strongRecOn with
 | _ k ih =>
 intro A0_0 c0_0 l0_0 a1 A2 c2 l2 a3_0 a3_1 a3_2 P4_ u9000_ l4 r w0 w hB hr0_0 hc0_0 hr2 hc2 ho4 h
 cases k with
 | zero=>exact absurd h (by simp [spec_l11All.f])
 | succ k =>
 simp only [spec_l11All.f] at h
 have hu26:=Tryz.underlying26
 have hu32:=Tryz.underlying32
 have HR0_0:=zk hr0_0
 have HC0_0:=zk hc0_0
 clear hr0_0 hc0_0
 have HR2:=zk hr2
 have HC2:=zk hc2
 clear hr2 hc2
 have HO4:=zk (show Kd.R k32 32 w w0.heap.size (fun k_=>(P4_ k_∨w.heap.size≤k_)) u9000_ l4 from Kd.R_mono ho4 (fun k_ hk=>(.inl hk)))
 have HK:=zk (Kept.refl w (fun k_=>P4_ k_))
 have HW0:=zk hB.size
 have HB:=zk hB
 clear hB
 have H:(if a1.toList=([]:List UInt8) then ((spec_l11Keeps.f k l0_0 a3_0 a3_1 a3_2).bind fun t38003=>(if t38003=true then (if l4.length < 2932031007402 then (some (l4 ++ [(⟨a3_0,a3_1,a3_2⟩:S32)])) else (none)) else (some l4))) else (spec_l11All.l0 k a1 l2 l4 0 l0_0 a3_0 a3_1 a3_2))=some r:=h
 clear h
 by_cases c6:a1.toList=([]:List UInt8)
 rw [if_pos c6] at H
 have c6b0:(a1.toList == ([]:List UInt8))=true:=beq_iff_eq.mpr c6
 have c6b1:(a1.toList != ([]:List UInt8))=false:=bne_eq_false_iff_eq.mpr c6
 clear c6
 replace H:=zo H
 obtain ⟨t38003,A70,H⟩:=H
 replace H:(if t38003=true then (if l4.length < 2932031007402 then (some (l4 ++ [(⟨a3_0,a3_1,a3_2⟩:S32)])) else (none)) else (some l4))=some r:=H
 have A7:=zk A70
 clear A70
 by_cases c8:t38003=true
 subst c8
 have H1:(if l4.length < 2932031007402 then (some (l4 ++ [(⟨a3_0,a3_1,a3_2⟩:S32)])) else (none))=some r:=by rw [if_pos rfl] at H;exact H
 clear H
 have H:=H1
 clear H1
 by_cases c9:l4.length < 2932031007402
 rw [if_pos c9] at H
 have LMc9:=zk c9
 clear c9
 obtain ⟨y38004,hy38004⟩:∃ y_:List (S32),y_=(l4 ++ [(⟨a3_0,a3_1,a3_2⟩:S32)]):=⟨_,rfl⟩
 replace H:(some y38004)=some r:=by first|(rw [hy38004];with_reducible exact H)|(have H2_:=(Option.bind_some _ _).symm.trans H;rw [hy38004];with_reducible exact H2_)|(have H2_:=(Option.bind_some _ _).symm.trans H;with_reducible exact H2_)|with_reducible exact H|(rw [hy38004];exact H)|exact H
 have Ny38004:=zk hy38004
 clear hy38004
 have fin0_:=zk trivial
 rotate_left
 · rw [if_neg c9] at H
   exact absurd H (by simp)
 replace c8:=Bool.eq_false_iff.mpr c8
 subst c8
 have H1:(some l4)=some r:=by rw [if_neg (show ¬ (false=true) by decide)] at H;exact H
 clear H
 have H:=H1
 clear H1
 have fin1_:=zk trivial
 rotate_left
 · rw [if_neg c6] at H
   have c6b0:(a1.toList == ([]:List UInt8))=false:=beq_eq_false_iff_ne.mpr c6
   have c6b1:(a1.toList != ([]:List UInt8))=true:=bne_iff_ne.mpr c6
   have H':=zk H
   clear H
   go_enter Tryz.func38,Tryz.ntmps38
   go_wp2_with (first|((with_reducible refine gate_dst (N:=5) rfl ?_);refine zE (N:=5) (cs:=#[.slice A0_0 l0_0.length c0_0]) (t:=26) ?_;intro gb38001 hg w24 hbox hb;have n0_:=zk (Kd.R_below (za1 HO4.out) hb);have n1_:=zk (Kept.below (S:=(fun k_=>P4_ k_)) za36 hb);have n2_:=zk (below_step za4 hb);have n3_:=zk (hbox);have n4_:=zk ((by rw [hg];exact (by first|exact HK.out.1|exact (show Kept w _ (fun k_=>P4_ k_) from za36).1):w.heap.size≤gb38001));have n5_:=zk (zs (w:=w0) hg za4);clear HO4;clear HK;clear HB;have HO4:=n0_;have HK:=n1_;have HB:=n2_;have BK38001:=n3_;have GW38001:=n4_;have GE38001:=n5_;clear n0_ n1_ n2_ n3_ n4_ n5_;clear hb hbox hg)|((with_reducible refine gate_dst (N:=8) rfl ?_);refine zE (N:=8) (cs:=#[.string a3_0,.string a3_1,.string a3_2]) (t:=32) ?_;intro gb38002 hg w25 hbox hb;have n0_:=zk (Kd.R_below (Kd.R_elderB (za1 HO4.out) gb38002 (Nat.le_of_eq hg.symm)) hb);have n1_:=zk (zb BK38001.out hb);have n2_:=zk (Kept.below (S:=(fun k_=>P4_ k_)) za31 hb);have n3_:=zk (below_step za4 hb);have n4_:=zk (hbox);have n5_:=zk ((by rw [hg];exact (by first|exact HK.out.1|exact (show Kept w _ (fun k_=>P4_ k_) from za31).1):w.heap.size≤gb38002));have n6_:=zk (zs (w:=w0) hg za4);have n7_:=zk ((by rw [hg];exact Nat.ne_of_lt (zl BK38001.out):gb38001 ≠ gb38002));have n8_:=zk ((by rw [hg];exact Nat.ne_of_gt (zl BK38001.out):gb38002 ≠ gb38001));clear HO4;clear BK38001;clear HK;clear HB;have HO4:=n0_;have BK38001:=n1_;have HK:=n2_;have HB:=n3_;have BK38002:=n4_;have GW38002:=n5_;have GE38002:=n6_;have NB38001_38002:=n7_;have NB38002_38001:=n8_;clear n0_ n1_ n2_ n3_ n4_ n5_ n6_ n7_ n8_;clear hb hbox hg))
   first|go_loopg [4,11] k (fun kq v4 v11 w'=>∃ (x4_1:List (S32)) (x11_1:Int),v11 = .int .i64 x11_1∧Aside0 (spec_l11All.l0 kq a1 l2 x4_1 x11_1 l0_0 a3_0 a3_1 a3_2=some r)∧Aside0 (kq≤k)∧Aside0 (Kd.R k32 32 w' w0.heap.size (fun k_=>(P4_ k_∨w.heap.size≤k_)∧k_ ≠ gb38002) v4 x4_1)∧Aside0 (w'.heap[gb38001]? = some (.cells #[(.slice A0_0 l0_0.length c0_0)] 26 (0,0)))∧Aside0 (w'.heap[gb38002]? = some (.cells #[.string a3_0,.string a3_1,.string a3_2] 32 (0,0)))∧Aside0 (Kept w w' (fun k_=>P4_ k_))∧Aside0 (Below w0.heap.size w0 w'))|(simp only [Act.put,zt,zv,zu];go_loopg [4,11] k (fun kq v4 v11 w'=>∃ (x4_1:List (S32)) (x11_1:Int),v11 = .int .i64 x11_1∧Aside0 (spec_l11All.l0 kq a1 l2 x4_1 x11_1 l0_0 a3_0 a3_1 a3_2=some r)∧Aside0 (kq≤k)∧Aside0 (Kd.R k32 32 w' w0.heap.size (fun k_=>(P4_ k_∨w.heap.size≤k_)∧k_ ≠ gb38002) v4 x4_1)∧Aside0 (w'.heap[gb38001]? = some (.cells #[(.slice A0_0 l0_0.length c0_0)] 26 (0,0)))∧Aside0 (w'.heap[gb38002]? = some (.cells #[.string a3_0,.string a3_1,.string a3_2] 32 (0,0)))∧Aside0 (Kept w w' (fun k_=>P4_ k_))∧Aside0 (Below w0.heap.size w0 w')))
   case atStart=>exact ⟨(l4),(0),za8,H',⟨Nat.le_refl _⟩,⟨za1 HO4.out⟩,⟨za0 BK38001.out⟩,⟨za0 BK38002.out⟩,⟨za12⟩,⟨za4⟩⟩
   case round =>
    clear H'
    try clear c6
    try clear c6b0
    try clear c6b1
    obtain ⟨x4_1,x11_1,rfl,HA,HK1,HO_4,BK38001,BK38002,HK,HB⟩:=hrel
    cases gk with
    | zero=>exact absurd HA.out (by simp [spec_l11All.l0])
    | succ k1 =>
     have H:=HA.out
     clear HA
     simp only [spec_l11All.l0] at H
     by_cases c26:x11_1 < (l2.length:Int)
     rw [if_pos c26] at H
     have c26b0:decide (x11_1 < (l2.length:Int))=true:=decide_eq_true c26
     clear c26
     by_cases c27:1≤(a1.size:Int)
     rw [if_pos c27] at H
     have c27b0:=eq_true c27
     have c27b1:decide (1≤(a1.size:Int))=true:=decide_eq_true c27
     clear c27
     by_cases c28:0 < (a1.size:Int)
     rw [if_pos c28] at H
     have c28b0:decide (0 < (a1.size:Int))=true:=decide_eq_true c28
     have c28b1:decide (0 < a1.size)=true:=decide_eq_true (by omega)
     clear c28
     by_cases c30:0≤x11_1
     ·rw [if_pos c30] at H
      have c30b0:decide (0≤x11_1)=true:=decide_eq_true c30
      clear c30
      replace H:=zo H
      obtain ⟨⟨t38008,t38009,t38010⟩,A310,H⟩:=H
      replace H:((spec_l11All.f k1 l0_0 (a1.extract 1 a1.size) l2 t38008 t38009 t38010 x4_1).bind fun t38011=>(spec_l11All.l0 k1 a1 l2 t38011 (wrap64 (x11_1+1)) l0_0 a3_0 a3_1 a3_2))=some r:=H
      have A31:=zk A310
      clear A310
      replace H:=zo H
      obtain ⟨t38011,A320,H⟩:=H
      replace H:(spec_l11All.l0 k1 a1 l2 t38011 (wrap64 (x11_1+1)) l0_0 a3_0 a3_1 a3_2)=some r:=H
      have A32:=zk A320
      clear A320
      have H':=zk H
      clear H
      try go_wp2
      have n0_:=zk (Kd.R_drew HO_4.out)
      have n1_:=zk (blk_drew BK38001.out)
      have n2_:=zk (blk_drew BK38002.out)
      have n3_:=zk (Kept.drew HK.out)
      have n4_:=zk (below_drew1 HB.out)
      clear HO_4
      clear BK38001
      clear BK38002
      clear HK
      clear HB
      have HO_4:=n0_
      have BK38001:=n1_
      have BK38002:=n2_
      have HK:=n3_
      have HB:=n4_
      clear n0_ n1_ n2_ n3_ n4_
      have p29:0≤(0:Int):=(by omega)
      have q29:0 < a1.size:=(by have:(0:Int) < (a1.size:Int):=of_decide_eq_true za9;omega)
      have hx29:∀ h:0 < a1.size,((a1[0]'h).toNat:Int)=bt a1 0:=bt_at a1 0
      clear p29
      have qi29:(0 < (a1.size:Int))=True:=eq_true (of_decide_eq_true za9)
      replace q29:=eq_true q29
      have p38007:0≤(x11_1:Int):=of_decide_eq_true za9
      have q38007:x11_1 < (l2.length:Int):=of_decide_eq_true za9
      obtain ⟨ad38007,e38007,hx38007_0⟩:=Kd.at_string (Kd.C_kept_now HR2.out HK.out) x11_1 p38007 q38007
      have hw38007_0:=hx38007_0
      cases e38007
      replace p38007:=eq_true p38007
      replace q38007:=eq_true q38007
      refine start_ (n:=15) (S:=fun w'=>w'.cell? ⟨gb38001,0,none⟩=some (.slice A0_0 l0_0.length c0_0)∧w'.cell? ⟨gb38002,0,none⟩=some (.string a3_0)∧w'.cell? ⟨gb38002,1,none⟩=some (.string a3_1)∧w'.cell? ⟨gb38002,2,none⟩=some (.string a3_2)∧w'.cell? (ad38007.add (x11_1).toNat)=some (.string (rdOf ByteArray.empty l2 x11_1))) (ds:=[]) #[false,false,false,false,false,false,false,false,false,false,false,false,false,false,false] (by kernel_rfl) rfl rfl ⟨(blk_cell BK38001.out 0).trans rfl,(blk_cell BK38002.out 0).trans rfl,(blk_cell BK38002.out 1).trans rfl,(blk_cell BK38002.out 2).trans rfl,(Kd.foot_string (HR2.out _ za45) x11_1 (of_eq_true p38007) (of_eq_true q38007))⟩ (fun hHeld=>?_);refine with_tabW spec_l11All.tab8 spec_l11All.bits8 (fun HT_ HW_=>?_)
      generalize wr.drew=w33 at HO_4 BK38001 BK38002 HK HB hx38007_0 hHeld ⊢
      refine pure_ (i:=1) (N:=some 29) (v:=?_) (a':=?_) #[false,true,false,false,false,false,false,false,false,false,false,false,false,false,false] rfl rfl (any_of HT_.out (by kernel_rfl)) (fun _ _ _ h=>h) (Or.inl ⟨by rfl,?_⟩) ?_ ?_
      rotate_left
      ·intro w'
       go_simp
       first|with_reducible rfl|(rw [if_neg (by omega)];done)|(rw [if_neg za6];done)
      rotate_left
      ·simp only [Act.put,zt,zu,zv,i64_w,i32_w]
       rfl
      refine pure_ (i:=2) (N:=some 30) (v:=?_) (a':=?_) #[false,true,true,false,false,false,false,false,false,false,false,false,false,false,false] rfl rfl (any_of HT_.out (by kernel_rfl)) (fun _ _ _ h=>h) (Or.inl ⟨by rfl,?_⟩) ?_ ?_
      rotate_left
      ·intro w'
       go_simp
       first|with_reducible rfl|(rw [if_neg (by omega)];done)|(rw [if_neg za6];done)
      rotate_left
      ·simp only [Act.put,zt,zu,zv,i64_w,i32_w]
       rfl
      refine pure_ (i:=3) (N:=some 31) (v:=?_) (a':=?_) #[false,true,true,true,false,false,false,false,false,false,false,false,false,false,false] rfl rfl (any_of HT_.out (by kernel_rfl)) (fun _ _ _ h=>h) (Or.inl ⟨by rfl,?_⟩) ?_ ?_
      rotate_left
      ·intro w'
       go_simp
       first|with_reducible rfl|(rw [if_neg (by omega)];done)|(rw [if_neg za6];done)
      rotate_left
      ·simp only [Act.put,zt,zu,zv,i64_w,i32_w]
       rfl
      refine pure_ (i:=5) (N:=some 33) (v:=?_) (a':=?_) #[false,true,true,true,false,true,false,false,false,false,false,false,false,false,false] rfl rfl (any_of HT_.out (by kernel_rfl)) (fun _ _ _ h=>h) (Or.inl ⟨by rfl,?_⟩) ?_ ?_
      rotate_left
      ·intro w'
       go_simp
       first|with_reducible rfl|(rw [if_neg (by omega)];done)|(rw [if_neg za6];done)
      rotate_left
      ·simp only [Act.put,zt,zu,zv,i64_w,i32_w]
       rfl
      refine pure_ (i:=7) (N:=some 35) (v:=?_) (a':=?_) #[false,true,true,true,false,true,false,true,false,false,false,false,false,false,false] rfl rfl (any_of HT_.out (by kernel_rfl)) (fun _ _ _ h=>h) (Or.inl ⟨by rfl,?_⟩) ?_ ?_
      rotate_left
      ·intro w'
       go_simp
       first|with_reducible rfl|(rw [if_neg (by omega)];done)|(rw [if_neg za6];done)
      rotate_left
      ·simp only [Act.put,zt,zu,zv,i64_w,i32_w]
       rfl
      refine pure_ (i:=8) (N:=some 36) (v:=?_) (a':=?_) #[false,true,true,true,false,true,false,true,true,false,false,false,false,false,false] rfl rfl (any_of HT_.out (by kernel_rfl)) (fun _ _ _ h=>h) (Or.inl ⟨by rfl,?_⟩) ?_ ?_
      rotate_left
      ·intro w'
       go_simp
       first|with_reducible rfl|(rw [if_neg (by omega)];done)|(rw [if_neg za6];done)
      rotate_left
      ·simp only [Act.put,zt,zu,zv,i64_w,i32_w]
       rfl
      refine pure_ (i:=9) (N:=some 37) (v:=?_) (a':=?_) #[false,true,true,true,false,true,false,true,true,true,false,false,false,false,false] rfl rfl (any_of HT_.out (by kernel_rfl)) (fun _ _ _ h=>h) (Or.inl ⟨by rfl,?_⟩) ?_ ?_
      rotate_left
      ·intro w'
       go_simp
       first|with_reducible rfl|(rw [if_neg (by omega)];done)|(rw [if_neg za6];done)
      rotate_left
      ·simp only [Act.put,zt,zu,zv,i64_w,i32_w]
       rfl
      refine pure_ (i:=12) (N:=some 40) (v:=?_) (a':=?_) #[false,true,true,true,false,true,false,true,true,true,false,false,true,false,false] rfl rfl (any_of HT_.out (by kernel_rfl)) (fun _ _ _ h=>h) (Or.inl ⟨by rfl,?_⟩) ?_ ?_
      rotate_left
      ·intro w'
       go_simp
       first|with_reducible rfl|(rw [if_neg (by omega)];done)|(rw [if_neg za6];done)
      rotate_left
      ·simp only [Act.put,zt,zu,zv,i64_w,i32_w]
       rfl
      refine take_ (i:=0) (N:=some 28) (v:=?_) (a':=?_) #[true,true,true,true,false,true,false,true,true,true,false,false,true,false,false] rfl rfl (take_ofW HT_.out HW_.out (by kernel_rfl)) (fun _ _ _ h=>h) (Or.inl ⟨by rfl,?_⟩) hHeld ?_ ?_
      rotate_left
      ·rintro w' ⟨s0,s1,s2,s3,s4⟩
       go_simp
       first|with_reducible rfl|(rw [if_neg (by omega)];done)|(rw [if_neg za6];done)
      rotate_left
      ·simp only [Act.put,zt,zu,zv,i64_w,i32_w]
       rfl
      refine take_ (i:=4) (N:=some 32) (v:=?_) (a':=?_) #[true,true,true,true,true,true,false,true,true,true,false,false,true,false,false] rfl rfl (take_ofW HT_.out HW_.out (by kernel_rfl)) (fun _ _ _ h=>h) (Or.inl ⟨by rfl,?_⟩) hHeld ?_ ?_
      rotate_left
      ·rintro w' ⟨s0,s1,s2,s3,s4⟩
       go_simp
       first|with_reducible rfl|(rw [if_neg (by omega)];done)|(rw [if_neg za6];done)
      rotate_left
      ·simp only [Act.put,zt,zu,zv,i64_w,i32_w]
       rfl
      refine take_ (i:=6) (N:=some 34) (v:=?_) (a':=?_) #[true,true,true,true,true,true,true,true,true,true,false,false,true,false,false] rfl rfl (take_ofW HT_.out HW_.out (by kernel_rfl)) (fun _ _ _ h=>h) (Or.inl ⟨by rfl,?_⟩) hHeld ?_ ?_
      rotate_left
      ·rintro w' ⟨s0,s1,s2,s3,s4⟩
       go_simp
       first|with_reducible rfl|(rw [if_neg (by omega)];done)|(rw [if_neg za6];done)
      rotate_left
      ·simp only [Act.put,zt,zu,zv,i64_w,i32_w]
       rfl
      refine take_ (i:=10) (N:=some 38) (v:=?_) (a':=?_) #[true,true,true,true,true,true,true,true,true,true,true,false,true,false,false] rfl rfl (take_ofW HT_.out HW_.out (by kernel_rfl)) (fun _ _ _ h=>h) (Or.inl ⟨by rfl,?_⟩) hHeld ?_ ?_
      rotate_left
      ·rintro w' ⟨s0,s1,s2,s3,s4⟩
       go_simp
       first|with_reducible rfl|(rw [if_neg (by omega)];done)|(rw [if_neg za6];done)
      rotate_left
      ·simp only [Act.put,zt,zu,zv,i64_w,i32_w]
       rfl
      refine one_ (i:=11) (N:=some 39) #[true,true,true,true,true,true,true,true,true,true,true,true,true,false,false] rfl rfl (one_of HT_.out (by kernel_rfl)) (by decide) (fun K hK=>?_)
      refine goes_ Tryz.func49 (by kernel_rfl) rfl #[.agg #[.string a3_0,.string a3_1,.string a3_2],.int .u8 (bt a1 0),.string (rdOf ByteArray.empty l2 x11_1)] (by rfl) rfl rfl za5 ?_
      with_reducible refine (spec_WithValue.calls a3_0 a3_1 a3_2 (bt a1 0) (rdOf ByteArray.empty l2 x11_1) t38008 t38009 t38010 _ A31.out).mono ?_
      rintro e w34 ⟨rfl,hb⟩
      refine ⟨_,rfl,?_⟩
      have n0_:=zk (Kd.R_below (za1 HO_4.out) hb)
      have n1_:=zk (zb BK38001.out hb)
      have n2_:=zk (zb BK38002.out hb)
      have n3_:=zk (Kept.below (S:=(fun k_=>P4_ k_)) za12 hb)
      have n4_:=zk (below_step za4 hb)
      clear HO_4
      clear BK38001
      clear BK38002
      clear HK
      clear HB
      have HO_4:=n0_
      have BK38001:=n1_
      have BK38002:=n2_
      have HK:=n3_
      have HB:=n4_
      clear n0_ n1_ n2_ n3_ n4_
      (try clear hb)
      (try clear hb2)
      (try clear hk)
      (try clear hi)
      obtain ⟨Ao35,co35,eo35⟩:=Kd.R_slice HO_4.out
      (first|subst eo35|(injection eo35 with f1_ f2_ f3_;have f4_:=f1_.symm;have f5_:=f3_.symm;clear f1_ f2_ f3_;subst f4_;subst f5_))
      refine hK.out _ _ ⟨(blk_cell BK38001.out 0).trans rfl,(blk_cell BK38002.out 0).trans rfl,(blk_cell BK38002.out 1).trans rfl,(blk_cell BK38002.out 2).trans rfl,(Kd.foot_string (HR2.out _ za45) x11_1 (of_eq_true p38007) (of_eq_true q38007))⟩ (fun hHeld=>?_)
      clear hK K
      refine norm_ (a':=?_) ?_ ?_
      rotate_left
      ·show Act.put _ (some 39) _=_
       simp only [Act.put,zt,zu,zv,i64_w,i32_w]
       rfl
      refine one_ (i:=13) (N:=some 41) #[true,true,true,true,true,true,true,true,true,true,true,true,true,true,false] rfl rfl (one_of HT_.out (by kernel_rfl)) (by decide) (fun K hK=>?_)
      refine goes_ Tryz.func38 (by kernel_rfl) rfl #[.agg #[.slice A0_0 l0_0.length c0_0],.string (a1.extract 1 a1.size),.slice (some ad38007) l2.length c2,.agg #[.string t38008,.string t38009,.string t38010],.slice Ao35 x4_1.length co35] (by rfl) rfl rfl za5 ?_
      with_reducible refine (ih k1 za17 _ _ l0_0 (a1.extract 1 a1.size) _ _ l2 t38008 t38009 t38010 (fun k_=>some k_=(.slice Ao35 x4_1.length co35:Value).ownBlock) (.slice Ao35 x4_1.length co35) x4_1 t38011 w0 _ ?side1 ?side2 ?side3 ?side4 ?side5 ?side6 A32.out).mono ?_
      (case side1=>repeat (first|(with_reducible first|exact HB.out|apply below_alloc|apply pw_below_drewN|apply below_drew1|refine below_set ?_ GE38001.out|refine below_set ?_ GE38002.out)|exact HB.out))
      (case side2=>exact Kd.C_kept_call HR0_0.out za12 (fun k_ hs_=>(fun e_=>(HO_4.out.1 k_ e_.symm).1) hs_))
      (case side3=>exact HC0_0.out)
      (case side4=>exact Kd.C_kept_call HR2.out za12 (fun k_ hs_=>(fun e_=>(HO_4.out.1 k_ e_.symm).1) hs_))
      (case side5=>exact HC2.out)
      (case side6=>exact Kd.R_tight rfl HO_4.out)
      rintro e w36 ⟨v38012,rfl,ho0,hb,hkp⟩
      refine ⟨_,rfl,?_⟩
      have n0_:=zk (blk_kept (za0 BK38001.out) hkp (fun hs_=>(fun e_=>(Kd.R_ne HO_4.out BK38001.out (by decide)) e_) hs_))
      have n1_:=zk (blk_kept (za0 BK38002.out) hkp (fun hs_=>(fun e_=>(Kd.R_away HO_4.out (fun _ hk=>hk.2)) e_) hs_))
      have n2_:=zk (Kd.R_mono (ok':=fun k_=>(P4_ k_∨w.heap.size≤k_)∧k_ ≠ gb38002) ho0 (fun k_ hk_=>⟨Or.elim hk_ (fun hs_=>(HO_4.out.1 k_ (hs_).symm).1) (fun hn_=>(.inr (Nat.le_trans (by first|exact HK.out.1|exact (show Kept w _ (fun k_=>P4_ k_) from za12).1) hn_))),Or.elim hk_ (fun hs_=>fun e_=>(Kd.R_away HO_4.out (fun _ hk=>hk.2)) (by rw [← e_];exact hs_)) (fun hn_=>(Kd.freshB (g:=gb38002) (o:=.cells #[.string a3_0,.string a3_1,.string a3_2] 32 (0,0)) (za0 BK38002.out) k_ hn_))⟩))
      have n3_:=zk (Kept.then_ (S:=(fun k_=>P4_ k_)) za12 hkp (fun k_ hs_=>(fun e_=>(HO_4.out.1 k_ e_.symm).1) hs_))
      have n4_:=zk (hb)
      clear BK38001
      clear BK38002
      clear HK
      clear HB
      clear HO_4
      have BK38001:=n0_
      have BK38002:=n1_
      have HO38013:=n2_
      have HK:=n3_
      have HB:=n4_
      clear n0_ n1_ n2_ n3_ n4_
      (try clear hb)
      (try clear hkp)
      (try clear ho0)
      refine hK.out _ _ ⟨(blk_cell BK38001.out 0).trans rfl,(blk_cell BK38002.out 0).trans rfl,(blk_cell BK38002.out 1).trans rfl,(blk_cell BK38002.out 2).trans rfl,(Kd.foot_string (HR2.out _ za45) x11_1 (of_eq_true p38007) (of_eq_true q38007))⟩ (fun hHeld=>?_)
      clear hK K
      refine norm_ (a':=?_) ?_ ?_
      rotate_left
      ·show Act.put _ (some 41) _=_
       simp only [Act.put,zt,zu,zv,i64_w,i32_w]
       rfl
      refine pure_ (i:=14) (N:=some 4) (v:=?_) (a':=?_) #[true,true,true,true,true,true,true,true,true,true,true,true,true,true,true] rfl rfl (any_of HT_.out (by kernel_rfl)) (fun _ _ _ h=>h) (Or.inl ⟨by rfl,?_⟩) ?_ ?_
      rotate_left
      ·intro w'
       go_simp
       first|with_reducible rfl|(rw [if_neg (by omega)];done)|(rw [if_neg za6];done)
      rotate_left
      ·simp only [Act.put,zt,zu,zv,i64_w,i32_w]
       rfl
      refine done_ (done_of HT_.out (by kernel_rfl)) ?_
      try go_wp2
      go_roundg k1
      case measure=>have:=HK1.out;omega
      case rel=>exact ⟨(t38011),(wrap64 (x11_1+1)),za8,H',⟨za17⟩,⟨za1 HO38013.out⟩,⟨za0 BK38001.out⟩,⟨za0 BK38002.out⟩,⟨za12⟩,⟨za4⟩⟩
     ·rw [if_neg c30] at H
      exact absurd H (by simp)
     ·rw [if_neg c28] at H
      exact absurd H (by simp)
     ·rw [if_neg c27] at H
      exact absurd H (by simp)
     ·rw [if_neg c26] at H
      have c26b0:decide (x11_1 < (l2.length:Int))=false:=decide_eq_false c26
      clear c26
      obtain rfl:=zi H
      go_wp2
      go_ret
      exact ⟨_,za7,by (with_reducible repeat (first|apply Kd.R_alloc|apply Kd.R_drewN|apply Kd.R_drew));exact Kd.R_mono HO_4.out (fun _ hk=>hk.1),za4,za12⟩
 all_goals
  obtain rfl:=zi H
  go_enter Tryz.func38,Tryz.ntmps38
  go_wp2_with (first|((with_reducible refine gate_dst (N:=5) rfl ?_);refine zE (N:=5) (cs:=#[.slice A0_0 l0_0.length c0_0]) (t:=26) ?_;intro gb38001 hg w10 hbox hb;have n0_:=zk (Kd.R_below (za1 HO4.out) hb);have n1_:=zk (Kept.below (S:=(fun k_=>P4_ k_)) za36 hb);have n2_:=zk (below_step za4 hb);have n3_:=zk (hbox);have n4_:=zk ((by rw [hg];exact (by first|exact HK.out.1|exact (show Kept w _ (fun k_=>P4_ k_) from za36).1):w.heap.size≤gb38001));have n5_:=zk (zs (w:=w0) hg za4);clear HO4;clear HK;clear HB;have HO4:=n0_;have HK:=n1_;have HB:=n2_;have BK38001:=n3_;have GW38001:=n4_;have GE38001:=n5_;clear n0_ n1_ n2_ n3_ n4_ n5_;clear hb hbox hg)|((with_reducible refine gate_dst (N:=8) rfl ?_);refine zE (N:=8) (cs:=#[.string a3_0,.string a3_1,.string a3_2]) (t:=32) ?_;intro gb38002 hg w11 hbox hb;have n0_:=zk (Kd.R_below (Kd.R_elderB (za1 HO4.out) gb38002 (Nat.le_of_eq hg.symm)) hb);have n1_:=zk (zb BK38001.out hb);have n2_:=zk (Kept.below (S:=(fun k_=>P4_ k_)) za31 hb);have n3_:=zk (below_step za4 hb);have n4_:=zk (hbox);have n5_:=zk ((by rw [hg];exact (by first|exact HK.out.1|exact (show Kept w _ (fun k_=>P4_ k_) from za31).1):w.heap.size≤gb38002));have n6_:=zk (zs (w:=w0) hg za4);have n7_:=zk ((by rw [hg];exact Nat.ne_of_lt (zl BK38001.out):gb38001 ≠ gb38002));have n8_:=zk ((by rw [hg];exact Nat.ne_of_gt (zl BK38001.out):gb38002 ≠ gb38001));clear HO4;clear BK38001;clear HK;clear HB;have HO4:=n0_;have BK38001:=n1_;have HK:=n2_;have HB:=n3_;have BK38002:=n4_;have GW38002:=n5_;have GE38002:=n6_;have NB38001_38002:=n7_;have NB38002_38001:=n8_;clear n0_ n1_ n2_ n3_ n4_ n5_ n6_ n7_ n8_;clear hb hbox hg;have hnb12:=NB38001_38002.out;have hnc12:=NB38002_38001.out;obtain ⟨hcz13_0,hfz13_0⟩:=blk1 BK38001.out;obtain ⟨hcz14_0,hcz14_1,hcz14_2,hfz14_0,hfz14_1,hfz14_2⟩:=blk3 BK38002.out)|((with_reducible refine gate_callee (f:=71) rfl ?_);refine goesL_ (some 16) rfl rfl Tryz.func71 (by kernel_rfl) rfl #[.agg #[.slice A0_0 l0_0.length c0_0],.agg #[.string a3_0,.string a3_1,.string a3_2]] rfl za5 ?_;(with_reducible refine (spec_l11Keeps.calls k _ _ l0_0 a3_0 a3_1 a3_2 _ _ ?side1 ?side2 A7.out).mono ?_);(case side1=>exact Kd.C_kept_now HR0_0.out za12);(case side2=>exact HC0_0.out);rintro e w15 ⟨rfl,hb⟩;refine ⟨_,rfl,?_⟩;have n0_:=zk (Kd.R_below (za1 HO4.out) hb);have n1_:=zk (zb BK38001.out hb);have n2_:=zk (zb BK38002.out hb);have n3_:=zk (Kept.below (S:=(fun k_=>P4_ k_)) za12 hb);have n4_:=zk (below_step za4 hb);clear HO4;clear BK38001;clear BK38002;clear HK;clear HB;have HO4:=n0_;have BK38001:=n1_;have BK38002:=n2_;have HK:=n3_;have HB:=n4_;clear n0_ n1_ n2_ n3_ n4_;(try clear hb);(try clear hb2);(try clear hk);(try clear hi);obtain ⟨hcz16_0,hcz16_1,hcz16_2,hfz16_0,hfz16_1,hfz16_2⟩:=blk3 BK38002.out)|((with_reducible refine gate_builtin (b:=.append) (xs:=#[.tmp 17,.tmp 19]) rfl ?_);at_builtin;refine Kd.R_append k32 (w0:=w0) w0.heap.size rfl (.tmp 17) (.tmp 19) 29 32 (.agg #[(.string ⟨#[]⟩),(.string ⟨#[]⟩),(.string ⟨#[]⟩)]) 48 rfl Tryz.underlying29 info32 rfl (by decide) (by omega) u9000_ l4 (⟨a3_0,a3_1,a3_2⟩:S32) [.string a3_0,.string a3_1,.string a3_2] (fun k_=>(P4_ k_∨w.heap.size≤k_)∧k_ ≠ gb38002) (fun _=>False) rfl rfl ?aP (fun _ hk=>hk.elim) ?aF ?aO ?aB ?aS ?aL ?_;(case aP=>exact k32_mkM _ _ _ (⟨a3_0,a3_1,a3_2⟩:S32));(case aB=>exact za4);(case aF=>exact (fun k_ hk=>⟨(.inr (Nat.le_trans (by first|exact HK.out.1|exact (show Kept w _ (fun k_=>P4_ k_) from za12).1) hk)),Kd.freshB (g:=gb38002) (o:=.cells #[.string a3_0,.string a3_1,.string a3_2] 32 (0,0)) (za0 BK38002.out) k_ hk⟩));(case aO=>exact (za1 HO4.out));(case aS=>exact (below_size za4));(case aL=>have:=LMc9.out;omega);intro v38005 w17 ho hb hg hat;rw [← Ny38004.out] at ho;have n0_:=zk (blk_grown (g:=gb38001) (o:=.cells #[.slice A0_0 l0_0.length c0_0] 26 (0,0)) (za0 BK38001.out) hg (Kd.R_ne HO4.out BK38001.out (by decide)));have n1_:=zk (blk_grown (g:=gb38002) (o:=.cells #[.string a3_0,.string a3_1,.string a3_2] 32 (0,0)) (za0 BK38002.out) hg (Kd.R_away HO4.out (fun _ hk=>hk.2)));have n2_:=zk (hb);have n3_:=zk (Kept.of_grown (S:=(fun k_=>P4_ k_)) hg za12 (fun k_ e_=>(HO4.out.1 k_ e_).1));have n4_:=zk (ho);clear BK38001;clear BK38002;clear HB;clear HK;clear HO4;have BK38001:=n0_;have BK38002:=n1_;have HB:=n2_;have HK:=n3_;have HO38006:=n4_;clear n0_ n1_ n2_ n3_ n4_;clear ho hb hg hat))
  first
  | (
     clear fin0_
     go_ret
     exact ⟨_,za7,by (with_reducible repeat (first|apply Kd.R_alloc|apply Kd.R_drewN|apply Kd.R_drew));exact Kd.R_mono HO38006.out (fun _ hk=>hk.1),za4,za12⟩)
  | (
     clear fin1_
     go_ret
     exact ⟨_,za7,by (with_reducible repeat (first|apply Kd.R_alloc|apply Kd.R_drewN|apply Kd.R_drew));exact Kd.R_mono HO4.out (fun _ hk=>hk.1),za4,za12⟩)
def spec_ModelsUpTo.f (k:Nat) (l0_0:List (S67)) (a1:Int):Option ((List (S32))):=(spec_IsValidProblem.f k l0_0).bind fun t10002=>(if t10002=true then ((spec_BoundOf.f k l0_0).bind fun t10006=>((spec_l1Min.f a1 t10006).bind fun t10007=>((spec_WordsUpTo.f k t10007).bind fun t10008=>(if (t10008.length:Int)=0 then (some (([]:List (S32)))) else ((spec_VarsOfProblem.f k l0_0).bind fun t10014=>((spec_l11All.f k l0_0 t10014 t10008 (⟨#[]⟩:ByteArray) (⟨#[]⟩:ByteArray) (⟨#[]⟩:ByteArray) (([]:List (S32)))).bind fun t10018=>(some t10018))))))) else (some (([]:List (S32)))))
theorem spec_ModelsUpTo.mono:∀ a0 a1 k,LeO (spec_ModelsUpTo.f k a0 a1) (spec_ModelsUpTo.f (k+1) a0 a1):=by
 intro a0 a1 k
 unfold spec_ModelsUpTo.f
 repeat' first
  | (with_reducible exact spec_BoundOf.mono _ _)
  | (with_reducible exact spec_IsValidProblem.mono _ _)
  | (with_reducible exact spec_VarsOfProblem.mono _ _)
  | (with_reducible exact spec_WordsUpTo.mono _ _)
  | (with_reducible exact spec_l11All.mono _ _ _ _ _ _ _ _)
  | (with_reducible exact LeO.refl _)
  | (with_reducible exact LeO.none _)
  | (with_reducible refine LeO.ite ?_ ?_)
  | (with_reducible refine LeO.bind ?_ (fun _=>?_))
def spec_ModelsUpTo.T6:Bool × List (List Nat × List Nat):=(true,[([],[]),([],[]),([1],[1]),([],[]),([],[]),([],[]),([0,2,3,4,5,2],[0,2,3,4,5]),([6,6,0,1,2,3,4,5,6],[6])])
def spec_ModelsUpTo.B6:List Nat:=[0,0,2,0,0,0,63,127]
theorem spec_ModelsUpTo.tab6:rtab .any (opsOf Tryz.f10 6)=spec_ModelsUpTo.T6:=by kernel_rfl
theorem spec_ModelsUpTo.bits6:waitsOk spec_ModelsUpTo.T6.2 spec_ModelsUpTo.B6=true:=by kernel_rfl
theorem spec_ModelsUpTo.calls (k:Nat) (A0_0:Option Addr) (c0_0:Nat) (l0_0:List (S67)) (a1:Int) (r:List (S32)) (w:World) (hr0_0:Kd.C k67 w A0_0 l0_0.length l0_0) (hc0_0:l0_0.length≤c0_0) (h:spec_ModelsUpTo.f k l0_0 a1=some r) :
  Calls Tryz.prog 10 #[.agg #[.slice A0_0 l0_0.length c0_0],.int .i64 a1] w fun e w'=>∃ v0_:Value,e = .returned (v0_)∧Kd.R k32 32 w' w.heap.size (fun _=>True) v0_ r∧Below w.heap.size w w':=by
 have hu26:=Tryz.underlying26
 have hu32:=Tryz.underlying32
 have HR0_0:=zk hr0_0
 have HC0_0:=zk hc0_0
 clear hr0_0 hc0_0
 have HB:=zk (Below.refl w.heap.size w)
 have H:((spec_IsValidProblem.f k l0_0).bind fun t10002=>(if t10002=true then ((spec_BoundOf.f k l0_0).bind fun t10006=>((spec_l1Min.f a1 t10006).bind fun t10007=>((spec_WordsUpTo.f k t10007).bind fun t10008=>(if (t10008.length:Int)=0 then (some (([]:List (S32)))) else ((spec_VarsOfProblem.f k l0_0).bind fun t10014=>((spec_l11All.f k l0_0 t10014 t10008 (⟨#[]⟩:ByteArray) (⟨#[]⟩:ByteArray) (⟨#[]⟩:ByteArray) (([]:List (S32)))).bind fun t10018=>(some t10018))))))) else (some (([]:List (S32))))))=some r:=h
 clear h
 go_enter Tryz.func10,Tryz.ntmps10
 go_upto_region 1 with (first|((with_reducible refine gate_dst (N:=2) rfl ?_);refine zE (N:=2) (cs:=#[.slice A0_0 l0_0.length c0_0]) (t:=26) ?_;intro gb10001 hg w9 hbox hb;have n0_:=zk (below_step za37 hb);have n1_:=zk (hbox);have n2_:=zk (zs (w:=w) hg za37);have n3_:=zk (zs (w:=w) hg za37);clear HB;have HB:=n0_;have BK10001:=n1_;have GW10001:=n2_;have GE10001:=n3_;clear n0_ n1_ n2_ n3_;clear hb hbox hg;have hcz10_0:w9.cell? ⟨gb10001,0,none⟩=some (.slice A0_0 l0_0.length c0_0):=(blk_cell BK10001.out 0).trans rfl;have hfz10_0:=blk_frozen BK10001.out 0))
 replace H:=zo H
 obtain ⟨t10002,A30,H⟩:=H
 replace H:(if t10002=true then ((spec_BoundOf.f k l0_0).bind fun t10006=>((spec_l1Min.f a1 t10006).bind fun t10007=>((spec_WordsUpTo.f k t10007).bind fun t10008=>(if (t10008.length:Int)=0 then (some (([]:List (S32)))) else ((spec_VarsOfProblem.f k l0_0).bind fun t10014=>((spec_l11All.f k l0_0 t10014 t10008 (⟨#[]⟩:ByteArray) (⟨#[]⟩:ByteArray) (⟨#[]⟩:ByteArray) (([]:List (S32)))).bind fun t10018=>(some t10018))))))) else (some (([]:List (S32)))))=some r:=H
 have A3:=zk A30
 clear A30
 by_cases c4:t10002=true
 ·subst c4
  have H1:((spec_BoundOf.f k l0_0).bind fun t10006=>((spec_l1Min.f a1 t10006).bind fun t10007=>((spec_WordsUpTo.f k t10007).bind fun t10008=>(if (t10008.length:Int)=0 then (some (([]:List (S32)))) else ((spec_VarsOfProblem.f k l0_0).bind fun t10014=>((spec_l11All.f k l0_0 t10014 t10008 (⟨#[]⟩:ByteArray) (⟨#[]⟩:ByteArray) (⟨#[]⟩:ByteArray) (([]:List (S32)))).bind fun t10018=>(some t10018)))))))=some r:=by rw [if_pos rfl] at H;exact H
  clear H
  have H:=H1
  clear H1
  replace H:=zo H
  obtain ⟨t10006,A50,H⟩:=H
  replace H:((spec_l1Min.f a1 t10006).bind fun t10007=>((spec_WordsUpTo.f k t10007).bind fun t10008=>(if (t10008.length:Int)=0 then (some (([]:List (S32)))) else ((spec_VarsOfProblem.f k l0_0).bind fun t10014=>((spec_l11All.f k l0_0 t10014 t10008 (⟨#[]⟩:ByteArray) (⟨#[]⟩:ByteArray) (⟨#[]⟩:ByteArray) (([]:List (S32)))).bind fun t10018=>(some t10018))))))=some r:=H
  have A5:=zk A50
  clear A50
  replace H:=zo H
  obtain ⟨t10007,A60,H⟩:=H
  replace H:((spec_WordsUpTo.f k t10007).bind fun t10008=>(if (t10008.length:Int)=0 then (some (([]:List (S32)))) else ((spec_VarsOfProblem.f k l0_0).bind fun t10014=>((spec_l11All.f k l0_0 t10014 t10008 (⟨#[]⟩:ByteArray) (⟨#[]⟩:ByteArray) (⟨#[]⟩:ByteArray) (([]:List (S32)))).bind fun t10018=>(some t10018)))))=some r:=H
  have A6:=zk A60
  clear A60
  replace H:=zo H
  obtain ⟨t10008,A70,H⟩:=H
  replace H:(if (t10008.length:Int)=0 then (some (([]:List (S32)))) else ((spec_VarsOfProblem.f k l0_0).bind fun t10014=>((spec_l11All.f k l0_0 t10014 t10008 (⟨#[]⟩:ByteArray) (⟨#[]⟩:ByteArray) (⟨#[]⟩:ByteArray) (([]:List (S32)))).bind fun t10018=>(some t10018))))=some r:=H
  have A7:=zk A70
  clear A70
  by_cases c8:(t10008.length:Int)=0
  ·rw [if_pos c8] at H
   have c8b0:((t10008.length:Int) == 0)=true:=beq_iff_eq.mpr c8
   have c8b1:((t10008.length:Int) != 0)=false:=bne_eq_false_iff_eq.mpr c8
   clear c8
   obtain ⟨y10011,hy10011⟩:∃ y_:List (S32),y_=(([]:List (S32))):=⟨_,rfl⟩
   replace H:(some y10011)=some r:=by first|(rw [hy10011];with_reducible exact H)|(have H2_:=(Option.bind_some _ _).symm.trans H;rw [hy10011];with_reducible exact H2_)|(have H2_:=(Option.bind_some _ _).symm.trans H;with_reducible exact H2_)|with_reducible exact H|(rw [hy10011];exact H)|exact H
   have Ny10011:=zk hy10011
   clear hy10011
   obtain rfl:=zi H
   go_wp2_with (first|((with_reducible refine gate_callee (f:=35) rfl ?_);refine goesL_ (some 7) rfl rfl Tryz.func35 (by kernel_rfl) rfl #[.agg #[.slice A0_0 l0_0.length c0_0]] rfl za5 ?_;(with_reducible refine (spec_IsValidProblem.calls k _ _ l0_0 true _ ?side1 ?side2 A3.out).mono ?_);(case side1=>repeat (first|exact (Kd.C_below HR0_0.out HB.out)|(with_reducible refine Kd.C_alloc ?_ _)|(with_reducible refine Kd.C_drewN ?_ _)|(with_reducible refine Kd.C_drew ?_)));(case side2=>exact HC0_0.out);rintro e w11 ⟨rfl,hb⟩;refine ⟨_,rfl,?_⟩;have n0_:=zk (zb BK10001.out hb);have n1_:=zk (below_step za10 hb);clear BK10001;clear HB;have BK10001:=n0_;have HB:=n1_;clear n0_ n1_;(try clear hb);(try clear hb2);(try clear hk);(try clear hi);have hcz12_0:w11.cell? ⟨gb10001,0,none⟩=some (.slice A0_0 l0_0.length c0_0):=(blk_cell BK10001.out 0).trans rfl;have hfz12_0:=blk_frozen BK10001.out 0)|((with_reducible refine gate_callee (f:=14) rfl ?_);refine goesL_ (some 12) rfl rfl Tryz.func14 (by kernel_rfl) rfl #[.agg #[.slice A0_0 l0_0.length c0_0]] rfl za5 ?_;(with_reducible refine (spec_BoundOf.calls k _ _ l0_0 t10006 _ ?side1 ?side2 A5.out).mono ?_);(case side1=>repeat (first|exact (Kd.C_below HR0_0.out HB.out)|(with_reducible refine Kd.C_alloc ?_ _)|(with_reducible refine Kd.C_drewN ?_ _)|(with_reducible refine Kd.C_drew ?_)));(case side2=>exact HC0_0.out);rintro e w13 ⟨rfl,hb⟩;refine ⟨_,rfl,?_⟩;have n0_:=zk (zb BK10001.out hb);have n1_:=zk (below_step za10 hb);clear BK10001;clear HB;have BK10001:=n0_;have HB:=n1_;clear n0_ n1_;(try clear hb);(try clear hb2);(try clear hk);(try clear hi))|((with_reducible refine gate_callee (f:=37) rfl ?_);refine goesL_ (some 13) rfl rfl Tryz.func37 (by kernel_rfl) rfl #[.int .i64 a1,.int .i64 t10006] rfl za5 ?_;(with_reducible refine (spec_l1Min.calls a1 t10006 t10007 _ A6.out).mono ?_);rintro e w' ⟨rfl,⟨nd,rfl⟩⟩;refine ⟨_,rfl,?_⟩)|((with_reducible refine gate_callee (f:=36) rfl ?_);refine goesL_ (some 14) rfl rfl Tryz.func36 (by kernel_rfl) rfl #[.int .i64 t10007] rfl za5 ?_;(with_reducible refine (spec_WordsUpTo.calls k t10007 t10008 _ A7.out).mono ?_);rintro e w14 ⟨v10009,rfl,ho0,hb⟩;refine ⟨_,rfl,?_⟩;have n0_:=zk (Kd.R_lower ho0 (below_size za10));have n1_:=zk (zb BK10001.out hb);have n2_:=zk (below_step za10 hb);clear BK10001;clear HB;have HO10010:=n0_;have BK10001:=n1_;have HB:=n2_;clear n0_ n1_ n2_;(try clear hb);(try clear hb2);(try clear hk);(try clear hi);(try clear ho0);obtain ⟨Ao15,co15,eo15⟩:=Kd.R_slice HO10010.out;subst eo15)|((with_reducible refine gate_dst (N:=18) rfl ?_);refine Kd.R_lit k32 _ 32 ?hg (N:=18) ?hd (xs:=([]:List (S32))) (inner:=[]) (ok:=fun _=>True) (okp:=fun _=>True) ?hr ?hp (fun _ hk=>hk) trivial (Below.refl _ _) (Nat.le_refl _) (by simp) ?_;(case hd=>rfl);(case hg=>rfl);(case hr=>first|(go_simp;done)|(go_simp;rfl));(case hp=>exact (Reps.none _ _));intro v10012 w16 ho17 hb hg_ hnew_;clear hg_ hnew_;(first|rw [← Ny10011.out] at ho17|(simp only [Int.reduceToNat] at ho17;rw [← Ny10011.out] at ho17));have n0_:=zk (Kd.R_below (za1 HO10010.out) hb);have n1_:=zk (Kd.R_lower ho17 (below_size za10));have n2_:=zk (zb BK10001.out hb);have n3_:=zk (below_step za10 hb);clear HO10010;clear BK10001;clear HB;have HO10010:=n0_;have HO10013:=n1_;have BK10001:=n2_;have HB:=n3_;clear n0_ n1_ n2_ n3_;clear hb ho17))
   go_ret
   exact ⟨_,za7,za1 HO10013.out,za10⟩
  ·rw [if_neg c8] at H
   have c8b0:((t10008.length:Int) == 0)=false:=beq_eq_false_iff_ne.mpr c8
   have c8b1:((t10008.length:Int) != 0)=true:=bne_iff_ne.mpr c8
   have c8b2:¬ (t10008 = []):=fun h_=>c8 (by rw [h_];rfl)
   replace H:=zo H
   obtain ⟨t10014,A180,H⟩:=H
   replace H:((spec_l11All.f k l0_0 t10014 t10008 (⟨#[]⟩:ByteArray) (⟨#[]⟩:ByteArray) (⟨#[]⟩:ByteArray) (([]:List (S32)))).bind fun t10018=>(some t10018))=some r:=H
   have A18:=zk A180
   clear A180
   obtain ⟨y10015,hy10015⟩:∃ y_:List (S32),y_=(([]:List (S32))):=⟨_,rfl⟩
   replace H:((spec_l11All.f k l0_0 t10014 t10008 (⟨#[]⟩:ByteArray) (⟨#[]⟩:ByteArray) (⟨#[]⟩:ByteArray) y10015).bind fun t10018=>(some t10018))=some r:=by first|(rw [hy10015];with_reducible exact H)|(have H2_:=(Option.bind_some _ _).symm.trans H;rw [hy10015];with_reducible exact H2_)|(have H2_:=(Option.bind_some _ _).symm.trans H;with_reducible exact H2_)|with_reducible exact H|(rw [hy10015];exact H)|exact H
   have Ny10015:=zk hy10015
   clear hy10015
   replace H:=zo H
   obtain ⟨t10018,A190,H⟩:=H
   replace H:(some t10018)=some r:=H
   have A19:=zk A190
   clear A190
   obtain rfl:=zi H
   go_wp2_with (first|((with_reducible refine gate_callee (f:=35) rfl ?_);refine goesL_ (some 7) rfl rfl Tryz.func35 (by kernel_rfl) rfl #[.agg #[.slice A0_0 l0_0.length c0_0]] rfl za5 ?_;(with_reducible refine (spec_IsValidProblem.calls k _ _ l0_0 true _ ?side1 ?side2 A3.out).mono ?_);(case side1=>repeat (first|exact (Kd.C_below HR0_0.out HB.out)|(with_reducible refine Kd.C_alloc ?_ _)|(with_reducible refine Kd.C_drewN ?_ _)|(with_reducible refine Kd.C_drew ?_)));(case side2=>exact HC0_0.out);rintro e w22 ⟨rfl,hb⟩;refine ⟨_,rfl,?_⟩;have n0_:=zk (zb BK10001.out hb);have n1_:=zk (below_step za10 hb);clear BK10001;clear HB;have BK10001:=n0_;have HB:=n1_;clear n0_ n1_;(try clear hb);(try clear hb2);(try clear hk);(try clear hi);have hcz23_0:w22.cell? ⟨gb10001,0,none⟩=some (.slice A0_0 l0_0.length c0_0):=(blk_cell BK10001.out 0).trans rfl;have hfz23_0:=blk_frozen BK10001.out 0)|((with_reducible refine gate_callee (f:=14) rfl ?_);refine goesL_ (some 12) rfl rfl Tryz.func14 (by kernel_rfl) rfl #[.agg #[.slice A0_0 l0_0.length c0_0]] rfl za5 ?_;(with_reducible refine (spec_BoundOf.calls k _ _ l0_0 t10006 _ ?side1 ?side2 A5.out).mono ?_);(case side1=>repeat (first|exact (Kd.C_below HR0_0.out HB.out)|(with_reducible refine Kd.C_alloc ?_ _)|(with_reducible refine Kd.C_drewN ?_ _)|(with_reducible refine Kd.C_drew ?_)));(case side2=>exact HC0_0.out);rintro e w24 ⟨rfl,hb⟩;refine ⟨_,rfl,?_⟩;have n0_:=zk (zb BK10001.out hb);have n1_:=zk (below_step za10 hb);clear BK10001;clear HB;have BK10001:=n0_;have HB:=n1_;clear n0_ n1_;(try clear hb);(try clear hb2);(try clear hk);(try clear hi))|((with_reducible refine gate_callee (f:=37) rfl ?_);refine goesL_ (some 13) rfl rfl Tryz.func37 (by kernel_rfl) rfl #[.int .i64 a1,.int .i64 t10006] rfl za5 ?_;(with_reducible refine (spec_l1Min.calls a1 t10006 t10007 _ A6.out).mono ?_);rintro e w' ⟨rfl,⟨nd,rfl⟩⟩;refine ⟨_,rfl,?_⟩)|((with_reducible refine gate_callee (f:=36) rfl ?_);refine goesL_ (some 14) rfl rfl Tryz.func36 (by kernel_rfl) rfl #[.int .i64 t10007] rfl za5 ?_;(with_reducible refine (spec_WordsUpTo.calls k t10007 t10008 _ A7.out).mono ?_);rintro e w25 ⟨v10009,rfl,ho0,hb⟩;refine ⟨_,rfl,?_⟩;have n0_:=zk (Kd.R_lower ho0 (below_size za10));have n1_:=zk (zb BK10001.out hb);have n2_:=zk (below_step za10 hb);clear BK10001;clear HB;have HO10010:=n0_;have BK10001:=n1_;have HB:=n2_;clear n0_ n1_ n2_;(try clear hb);(try clear hb2);(try clear hk);(try clear hi);(try clear ho0);obtain ⟨Ao26,co26,eo26⟩:=Kd.R_slice HO10010.out;subst eo26))
   have n0_:=zk (Kd.R_drew HO10010.out)
   have n1_:=zk (blk_drew BK10001.out)
   have n2_:=zk (below_drew1 HB.out)
   clear HO10010
   clear BK10001
   clear HB
   have HO10010:=n0_
   have BK10001:=n1_
   have HB:=n2_
   clear n0_ n1_ n2_
   refine start_ (n:=8) (S:=fun w'=>w'.cell? ⟨gb10001,0,none⟩=some (.slice A0_0 l0_0.length c0_0)) (ds:=[]) #[false,false,false,false,false,false,false,false] (by kernel_rfl) rfl rfl ((blk_cell BK10001.out 0).trans rfl) (fun hHeld=>?_);refine with_tabW spec_ModelsUpTo.tab6 spec_ModelsUpTo.bits6 (fun HT_ HW_=>?_)
   generalize w25.drew=w27 at HO10010 BK10001 HB hHeld ⊢
   refine pure_ (i:=3) (N:=some 22) (v:=?_) (a':=?_) #[false,false,false,true,false,false,false,false] rfl rfl (any_of HT_.out (by kernel_rfl)) (fun _ _ _ h=>h) (Or.inl ⟨by rfl,?_⟩) ?_ ?_
   rotate_left
   ·intro w'
    go_simp
    first|with_reducible rfl|(rw [if_neg (by omega)];done)
   rotate_left
   ·simp only [Act.put,zt,zu,zv,i64_w,i32_w]
    rfl
   refine pure_ (i:=4) (N:=some 23) (v:=?_) (a':=?_) #[false,false,false,true,true,false,false,false] rfl rfl (any_of HT_.out (by kernel_rfl)) (fun _ _ _ h=>h) (Or.inl ⟨by rfl,?_⟩) ?_ ?_
   rotate_left
   ·intro w'
    go_simp
    first|with_reducible rfl|(rw [if_neg (by omega)];done)
   rotate_left
   ·simp only [Act.put,zt,zu,zv,i64_w,i32_w]
    rfl
   refine take_ (i:=0) (N:=some 19) (v:=?_) (a':=?_) #[true,false,false,true,true,false,false,false] rfl rfl (take_ofW HT_.out HW_.out (by kernel_rfl)) (fun _ _ _ h=>h) (Or.inl ⟨by rfl,?_⟩) hHeld ?_ ?_
   rotate_left
   ·intro w' s0
    go_simp
    first|with_reducible rfl|(rw [if_neg (by omega)];done)
   rotate_left
   ·simp only [Act.put,zt,zu,zv,i64_w,i32_w]
    rfl
   refine take_ (i:=1) (N:=some 20) (v:=?_) (a':=?_) #[true,true,false,true,true,false,false,false] rfl rfl (take_ofW HT_.out HW_.out (by kernel_rfl)) (fun _ _ _ h=>h) (Or.inl ⟨by rfl,?_⟩) hHeld ?_ ?_
   rotate_left
   ·intro w' s0
    go_simp
    first|with_reducible rfl|(rw [if_neg (by omega)];done)
   rotate_left
   ·simp only [Act.put,zt,zu,zv,i64_w,i32_w]
    rfl
   refine join_ (σ:=Value) 2 #[true,true,true,true,true,true,false,false] (fun s_ => [(21,.string t10014),(24,s_)]) (fun s_ w'=>(w'.cell? ⟨gb10001,0,none⟩=some (.slice A0_0 l0_0.length c0_0))∧(Kd.R Kd.string 9 w' w.heap.size (fun _=>True) (.slice Ao26 t10008.length co26) t10008)∧(Kd.R k32 32 w' w.heap.size (fun _=>True) s_ y10015)∧(w'.heap[gb10001]? = some (.cells #[.slice A0_0 l0_0.length c0_0] 26 (0,0)))∧(Below w.heap.size w w')) ?_ ?_
   rotate_left
   ·intro hCont
    refine two_ (i:=2) (j:=5) (Ni:=some 21) (Nj:=some 24) #[true,true,true,true,true,false,false,false] #[true,true,false,true,true,true,false,false] rfl rfl rfl rfl (two_of HT_.out (by kernel_rfl)) (by decide) (by decide) (fun K hK=>?_) (fun K hK=>?_)
    ·skip
     refine goes_ Tryz.func39 (by kernel_rfl) rfl #[.agg #[.slice A0_0 l0_0.length c0_0]] (by rfl) rfl rfl za5 ?_
     with_reducible refine (spec_VarsOfProblem.calls k _ _ l0_0 t10014 _ ?side1 ?side2 A18.out).mono ?_
     (case side1=>repeat (first|exact (Kd.C_below HR0_0.out HB.out)|(with_reducible refine Kd.C_alloc ?_ _)|(with_reducible refine Kd.C_drewN ?_ _)|(with_reducible refine Kd.C_drew ?_)))
     (case side2=>exact HC0_0.out)
     rintro e w28 ⟨rfl,hb⟩
     refine ⟨_,rfl,?_⟩
     have n0_:=zk (Kd.R_below (za1 HO10010.out) hb)
     have n1_:=zk (zb BK10001.out hb)
     have n2_:=zk (below_step za10 hb)
     clear HO10010
     clear BK10001
     clear HB
     have HO10010:=n0_
     have BK10001:=n1_
     have HB:=n2_
     clear n0_ n1_ n2_
     (try clear hb)
     (try clear hb2)
     (try clear hk)
     (try clear hi)
     refine hK.out _ _ ((blk_cell BK10001.out 0).trans rfl) (fun hHeld=>?_)
     clear hK K
     refine norm_ (a':=?_) ?_ ?_
     rotate_left
     ·show Act.put _ (some 21) _=_
      simp only [Act.put,zt,zu,zv,i64_w,i32_w]
      rfl
     refine one_ (i:=5) (N:=some 24) #[true,true,true,true,true,true,false,false] rfl rfl (one_of HT_.out (by kernel_rfl)) (by decide) (fun K hK=>?_)
     refine Kd.R_lit_step k32 _ 32 ?hg (N:=24) ?hd (xs:=([]:List (S32))) (inner:=[]) (ok:=fun _=>True) (okp:=fun _=>True) ?hr ?hp (fun _ hk=>hk) trivial (Below.refl _ _) (Nat.le_refl _) (by simp) ?_;(case hd=>rfl);(case hg=>rfl);(case hr=>first|(go_simp;done)|(go_simp;rfl));(case hp=>exact (Reps.none _ _))
     intro v10016 w29 ho30 hb hg_ hnew_
     clear hg_ hnew_
     (first|rw [← Ny10015.out] at ho30|(simp only [Int.reduceToNat] at ho30;rw [← Ny10015.out] at ho30))
     have n0_:=zk (Kd.R_below (za1 HO10010.out) hb)
     have n1_:=zk (Kd.R_lower ho30 (below_size za10))
     have n2_:=zk (zb BK10001.out hb)
     have n3_:=zk (below_step za10 hb)
     clear HO10010
     clear BK10001
     clear HB
     have HO10010:=n0_
     have HO10017:=n1_
     have BK10001:=n2_
     have HB:=n3_
     clear n0_ n1_ n2_ n3_
     clear hb ho30
     refine hK.out _ _ ((blk_cell BK10001.out 0).trans rfl) (fun hHeld=>?_)
     clear hK K
     refine norm_ (a':=?_) ?_ ?_
     rotate_left
     ·show Act.put _ (some 24) _=_
      simp only [Act.put,zt,zu,zv,i64_w,i32_w]
      rfl
     exact norm_ (by simp only [putAll,Act.put,zt,zu,zv]) (hCont (v10016) _ ⟨hHeld,(za1 HO10010.out),(za1 HO10017.out),(za0 BK10001.out),za10⟩)
    ·skip
     refine Kd.R_lit_step k32 _ 32 ?hg (N:=24) ?hd (xs:=([]:List (S32))) (inner:=[]) (ok:=fun _=>True) (okp:=fun _=>True) ?hr ?hp (fun _ hk=>hk) trivial (Below.refl _ _) (Nat.le_refl _) (by simp) ?_;(case hd=>rfl);(case hg=>rfl);(case hr=>first|(go_simp;done)|(go_simp;rfl));(case hp=>exact (Reps.none _ _))
     intro v10016 w28 ho29 hb hg_ hnew_
     clear hg_ hnew_
     (first|rw [← Ny10015.out] at ho29|(simp only [Int.reduceToNat] at ho29;rw [← Ny10015.out] at ho29))
     have n0_:=zk (Kd.R_below (za1 HO10010.out) hb)
     have n1_:=zk (Kd.R_lower ho29 (below_size za10))
     have n2_:=zk (zb BK10001.out hb)
     have n3_:=zk (below_step za10 hb)
     clear HO10010
     clear BK10001
     clear HB
     have HO10010:=n0_
     have HO10017:=n1_
     have BK10001:=n2_
     have HB:=n3_
     clear n0_ n1_ n2_ n3_
     clear hb ho29
     refine hK.out _ _ ((blk_cell BK10001.out 0).trans rfl) (fun hHeld=>?_)
     clear hK K
     refine norm_ (a':=?_) ?_ ?_
     rotate_left
     ·show Act.put _ (some 24) _=_
      simp only [Act.put,zt,zu,zv,i64_w,i32_w]
      rfl
     refine one_ (i:=2) (N:=some 21) #[true,true,true,true,true,true,false,false] rfl rfl (one_of HT_.out (by kernel_rfl)) (by decide) (fun K hK=>?_)
     refine goes_ Tryz.func39 (by kernel_rfl) rfl #[.agg #[.slice A0_0 l0_0.length c0_0]] (by rfl) rfl rfl za5 ?_
     with_reducible refine (spec_VarsOfProblem.calls k _ _ l0_0 t10014 _ ?side1 ?side2 A18.out).mono ?_
     (case side1=>repeat (first|exact (Kd.C_below HR0_0.out HB.out)|(with_reducible refine Kd.C_alloc ?_ _)|(with_reducible refine Kd.C_drewN ?_ _)|(with_reducible refine Kd.C_drew ?_)))
     (case side2=>exact HC0_0.out)
     rintro e w30 ⟨rfl,hb⟩
     refine ⟨_,rfl,?_⟩
     have n0_:=zk (Kd.R_below (za1 HO10010.out) hb)
     have n1_:=zk (Kd.R_below (za1 HO10017.out) hb)
     have n2_:=zk (zb BK10001.out hb)
     have n3_:=zk (below_step za10 hb)
     clear HO10010
     clear HO10017
     clear BK10001
     clear HB
     have HO10010:=n0_
     have HO10017:=n1_
     have BK10001:=n2_
     have HB:=n3_
     clear n0_ n1_ n2_ n3_
     (try clear hb)
     (try clear hb2)
     (try clear hk)
     (try clear hi)
     refine hK.out _ _ ((blk_cell BK10001.out 0).trans rfl) (fun hHeld=>?_)
     clear hK K
     refine norm_ (a':=?_) ?_ ?_
     rotate_left
     ·show Act.put _ (some 21) _=_
      simp only [Act.put,zt,zu,zv,i64_w,i32_w]
      rfl
     exact norm_ (by simp only [putAll,Act.put,zt,zu,zv]) (hCont (v10016) _ ⟨hHeld,(za1 HO10010.out),(za1 HO10017.out),(za0 BK10001.out),za10⟩)
   rintro v10016 w31 ⟨hS_,h0_,h1_,h2_,h3_⟩
   have n0_:Aside0 (Kd.R Kd.string 9 w31 w.heap.size (fun _=>True) (.slice Ao26 t10008.length co26) t10008):=⟨h0_⟩
   have n1_:Aside0 (Kd.R k32 32 w31 w.heap.size (fun _=>True) v10016 y10015):=⟨h1_⟩
   have n2_:Aside0 (w31.heap[gb10001]? = some (.cells #[.slice A0_0 l0_0.length c0_0] 26 (0,0))):=⟨h2_⟩
   have n3_:Aside0 (Below w.heap.size w w31):=⟨h3_⟩
   clear HO10010
   clear BK10001
   clear HB
   clear h0_ h1_ h2_ h3_
   have HO10010:=n0_
   have HO10017:=n1_
   have BK10001:=n2_
   have HB:=n3_
   clear n0_ n1_ n2_ n3_
   have hHeld:w31.cell? ⟨gb10001,0,none⟩=some (.slice A0_0 l0_0.length c0_0):=hS_
   obtain ⟨Ao32,co32,eo32⟩:=Kd.R_slice HO10017.out
   (first|subst eo32|(injection eo32 with f1_ f2_ f3_;have f4_:=f1_.symm;have f5_:=f3_.symm;clear f1_ f2_ f3_;subst f4_;subst f5_))
   refine norm_ (a':=?_) ?_ ?_
   rotate_left
   ·simp only [putAll,Act.put,zt,zu,zv]
    rfl
   refine one_ (i:=6) (N:=some 25) #[true,true,true,true,true,true,true,false] rfl rfl (one_of HT_.out (by kernel_rfl)) (by decide) (fun K hK=>?_)
   refine goes_ Tryz.func38 (by kernel_rfl) rfl #[.agg #[.slice A0_0 l0_0.length c0_0],.string t10014,.slice Ao26 t10008.length co26,.agg #[.string (⟨#[]⟩:ByteArray),.string (⟨#[]⟩:ByteArray),.string (⟨#[]⟩:ByteArray)],.slice Ao32 y10015.length co32] (by rfl) rfl rfl za5 ?_
   with_reducible refine (spec_l11All.calls k _ _ l0_0 t10014 _ _ t10008 (⟨#[]⟩:ByteArray) (⟨#[]⟩:ByteArray) (⟨#[]⟩:ByteArray) (fun k_=>some k_=(.slice Ao32 y10015.length co32:Value).ownBlock) (.slice Ao32 y10015.length co32) y10015 t10018 w _ ?side1 ?side2 ?side3 ?side4 ?side5 ?side6 A19.out).mono ?_
   (case side1=>repeat (first|(with_reducible first|exact HB.out|apply below_alloc|apply pw_below_drewN|apply below_drew1|refine below_set ?_ GE10001.out)|exact HB.out))
   (case side2=>exact Kd.C_kept_came k67_heap HR0_0.out za10 (fun k_ hs_=>(fun e_=>Kd.R_base HO10017.out k_ e_.symm) hs_))
   (case side3=>exact HC0_0.out)
   (case side4=>exact Kd.C_kept_own ((Kd.R_apart' HO10010.out (Kd.R_typed HO10017.out) (by decide))) (fun k_ hk_ hs_=>(hk_.2) hs_))
   (case side5=>exact (Kd.R_reads' HO10010.out).2.1)
   (case side6=>exact Kd.R_tight rfl HO10017.out)
   rintro e w33 ⟨v10019,rfl,ho0,hb,hkp⟩
   refine ⟨_,rfl,?_⟩
   have n0_:=zk (blk_kept (za0 BK10001.out) hkp (fun hs_=>(fun e_=>(Kd.R_ne HO10017.out BK10001.out (by decide)) e_) hs_))
   have n1_:=zk (Kd.R_mono (ok':=fun k_=>True) (Kd.R_keptB ((Kd.R_apart' HO10010.out (Kd.R_typed HO10017.out) (by decide))) hkp (fun k_ hk_ hs_=>(hk_.2) hs_)) (fun k_ hk_=>trivial))
   have n2_:=zk (Kd.R_mono (ok':=fun k_=>True) ho0 (fun k_ hk_=>trivial))
   have n3_:=zk (hb)
   clear BK10001
   clear HO10010
   clear HB
   clear HO10017
   have BK10001:=n0_
   have HO10010:=n1_
   have HO10020:=n2_
   have HB:=n3_
   clear n0_ n1_ n2_ n3_
   (try clear hb)
   (try clear hkp)
   (try clear ho0)
   refine hK.out _ _ ((blk_cell BK10001.out 0).trans rfl) (fun hHeld=>?_)
   clear hK K
   refine norm_ (a':=?_) ?_ ?_
   rotate_left
   ·show Act.put _ (some 25) _=_
    simp only [Act.put,zt,zu,zv,i64_w,i32_w]
    rfl
   refine pure_ (i:=7) (N:=some 4) (v:=?_) (a':=?_) #[true,true,true,true,true,true,true,true] rfl rfl (any_of HT_.out (by kernel_rfl)) (fun _ _ _ h=>h) (Or.inl ⟨by rfl,?_⟩) ?_ ?_
   rotate_left
   ·intro w'
    go_simp
    first|with_reducible rfl|(rw [if_neg (by omega)];done)
   rotate_left
   ·simp only [Act.put,zt,zu,zv,i64_w,i32_w]
    rfl
   refine done_ (done_of HT_.out (by kernel_rfl)) ?_
   try go_wp2
   go_ret
   exact ⟨_,za7,za1 HO10020.out,za10⟩
 ·replace c4:=Bool.eq_false_iff.mpr c4
  subst c4
  have H1:(some (([]:List (S32))))=some r:=by rw [if_neg (show ¬ (false=true) by decide)] at H;exact H
  clear H
  have H:=H1
  clear H1
  obtain ⟨y10003,hy10003⟩:∃ y_:List (S32),y_=(([]:List (S32))):=⟨_,rfl⟩
  replace H:(some y10003)=some r:=by first|(rw [hy10003];with_reducible exact H)|(have H2_:=(Option.bind_some _ _).symm.trans H;rw [hy10003];with_reducible exact H2_)|(have H2_:=(Option.bind_some _ _).symm.trans H;with_reducible exact H2_)|with_reducible exact H|(rw [hy10003];exact H)|exact H
  have Ny10003:=zk hy10003
  clear hy10003
  obtain rfl:=zi H
  go_wp2_with (first|((with_reducible refine gate_callee (f:=35) rfl ?_);refine goesL_ (some 7) rfl rfl Tryz.func35 (by kernel_rfl) rfl #[.agg #[.slice A0_0 l0_0.length c0_0]] rfl za5 ?_;(with_reducible refine (spec_IsValidProblem.calls k _ _ l0_0 false _ ?side1 ?side2 A3.out).mono ?_);(case side1=>repeat (first|exact (Kd.C_below HR0_0.out HB.out)|(with_reducible refine Kd.C_alloc ?_ _)|(with_reducible refine Kd.C_drewN ?_ _)|(with_reducible refine Kd.C_drew ?_)));(case side2=>exact HC0_0.out);rintro e w36 ⟨rfl,hb⟩;refine ⟨_,rfl,?_⟩;have n0_:=zk (zb BK10001.out hb);have n1_:=zk (below_step za10 hb);clear BK10001;clear HB;have BK10001:=n0_;have HB:=n1_;clear n0_ n1_;(try clear hb);(try clear hb2);(try clear hk);(try clear hi))|((with_reducible refine gate_dst (N:=9) rfl ?_);refine Kd.R_lit k32 _ 32 ?hg (N:=9) ?hd (xs:=([]:List (S32))) (inner:=[]) (ok:=fun _=>True) (okp:=fun _=>True) ?hr ?hp (fun _ hk=>hk) trivial (Below.refl _ _) (Nat.le_refl _) (by simp) ?_;(case hd=>rfl);(case hg=>rfl);(case hr=>first|(go_simp;done)|(go_simp;rfl));(case hp=>exact (Reps.none _ _));intro v10004 w37 ho38 hb hg_ hnew_;clear hg_ hnew_;(first|rw [← Ny10003.out] at ho38|(simp only [Int.reduceToNat] at ho38;rw [← Ny10003.out] at ho38));have n0_:=zk (Kd.R_lower ho38 (below_size za10));have n1_:=zk (zb BK10001.out hb);have n2_:=zk (below_step za10 hb);clear BK10001;clear HB;have HO10005:=n0_;have BK10001:=n1_;have HB:=n2_;clear n0_ n1_ n2_;clear hb ho38))
  go_ret
  exact ⟨_,za7,za1 HO10005.out,za10⟩
def spec_TotalLength.f (a0_0:ByteArray) (a0_1:ByteArray) (a0_2:ByteArray):Option (Int):=some (wrap64 ((wrap64 ((a0_0.size:Int)+(a0_1.size:Int)))+(a0_2.size:Int)))
theorem spec_TotalLength.calls (a0_0:ByteArray) (a0_1:ByteArray) (a0_2:ByteArray) (r:Int) (w:World) (h:spec_TotalLength.f a0_0 a0_1 a0_2=some r) :
  Calls Tryz.prog 58 #[.agg #[.string a0_0,.string a0_1,.string a0_2]] w fun e w'=>e = .returned (.int .i64 r)∧Below w.heap.size w w':=by
 have hu32:=Tryz.underlying32
 have HB:=zk (Below.refl w.heap.size w)
 have H:(some (wrap64 ((wrap64 ((a0_0.size:Int)+(a0_1.size:Int)))+(a0_2.size:Int))))=some r:=h
 clear h
 obtain rfl:=zi H
 go_enter Tryz.func58,Tryz.ntmps58
 go_wp2_with (first|((with_reducible refine gate_dst (N:=1) rfl ?_);refine zE (N:=1) (cs:=#[.string a0_0,.string a0_1,.string a0_2]) (t:=32) ?_;intro gb58001 hg w2 hbox hb;have n0_:=zk (below_step za4 hb);have n1_:=zk (hbox);have n2_:=zk (zs (w:=w) hg za4);have n3_:=zk (zs (w:=w) hg za4);clear HB;have HB:=n0_;have BK58001:=n1_;have GW58001:=n2_;have GE58001:=n3_;clear n0_ n1_ n2_ n3_;clear hb hbox hg;obtain ⟨hcz3_0,hcz3_1,hcz3_2,hfz3_0,hfz3_1,hfz3_2⟩:=blk3 BK58001.out))
 go_ret
 exact ⟨za7,za4⟩
def spec_LeastModel.l0:Nat→List (S32)→Int→Int→Option (ByteArray × ByteArray × ByteArray × Bool)
 | 0,_,_,_=>none
 | k+1,x6,x7,x8=>if x8 < (x6.length:Int) then (if x7 < 0 then (spec_LeastModel.l0 k x6 x8 (wrap64 (x8+1))) else (if 0≤x8 then ((spec_TotalLength.f ((rd_T32 x6 x8).f0) ((rd_T32 x6 x8).f1) ((rd_T32 x6 x8).f2)).bind fun t24008=>(if 0≤x7 then (if x7 < (x6.length:Int) then ((spec_TotalLength.f ((rd_T32 x6 x7).f0) ((rd_T32 x6 x7).f1) ((rd_T32 x6 x7).f2)).bind fun t24010=>(if t24008 < t24010 then (spec_LeastModel.l0 k x6 x8 (wrap64 (x8+1))) else (spec_LeastModel.l0 k x6 x7 (wrap64 (x8+1))))) else (none)) else (none))) else (none))) else (if x7 < 0 then (some ((⟨#[]⟩:ByteArray),(⟨#[]⟩:ByteArray),(⟨#[]⟩:ByteArray),false)) else (if 0≤x7 then (if x7 < (x6.length:Int) then (some ((rd_T32 x6 x7).f0,(rd_T32 x6 x7).f1,(rd_T32 x6 x7).f2,true)) else (none)) else (none)))
def spec_LeastModel.f (k:Nat) (l0_0:List (S67)) (a1:Int):Option (ByteArray × ByteArray × ByteArray × Bool):=(spec_ModelsUpTo.f k l0_0 a1).bind fun t24003=>(spec_LeastModel.l0 k t24003 (-1) 0)
theorem spec_LeastModel.mono_l:∀ k,(∀ y0 y1 y2,LeO (spec_LeastModel.l0 k y0 y1 y2) (spec_LeastModel.l0 (k+1) y0 y1 y2))
 | 0=>fun _ _ _ r h=>by simp [spec_LeastModel.l0] at h
 | k+1=>by
  have ih0:=spec_LeastModel.mono_l k
  ·intro y0 y1 y2
   unfold spec_LeastModel.l0
   repeat' first
   | with_reducible first|exact ih0 _ _ _|exact spec_ModelsUpTo.mono _ _ _|exact LeO.refl _|exact LeO.none _|refine LeO.ite ?_ ?_|refine LeO.bind ?_ (fun _=>?_)
theorem spec_LeastModel.mono:∀ a0 a1 k,LeO (spec_LeastModel.f k a0 a1) (spec_LeastModel.f (k+1) a0 a1):=by
 intro a0 a1 k
 have ih0:=spec_LeastModel.mono_l k
 unfold spec_LeastModel.f
 repeat' first
  | with_reducible first|exact ih0 _ _ _|exact spec_ModelsUpTo.mono _ _ _|exact LeO.refl _|exact LeO.none _|refine LeO.ite ?_ ?_|refine LeO.bind ?_ (fun _=>?_)
def spec_LeastModel.T6:Bool × List (List Nat × List Nat):=(true,[([],[]),([0],[0]),([1],[1]),([2],[2]),([2],[2]),([3,4,2],[2,3,4]),([5,2],[2,5]),([6,2,2],[2,6]),([2],[2]),([2],[2]),([8,9,2],[2,8,9]),([10,2],[2,10]),([11,7,2],[2,11]),([7,12,2],[2,7,12]),([2,13],[2,13])])
def spec_LeastModel.B6:List Nat:=[0,1,3,7,7,31,63,127,7,7,775,1799,4095,8191,16383]
theorem spec_LeastModel.tab6:rtab .any (opsOf Tryz.f24 6)=spec_LeastModel.T6:=by kernel_rfl
theorem spec_LeastModel.bits6:waitsOk spec_LeastModel.T6.2 spec_LeastModel.B6=true:=by kernel_rfl
theorem spec_LeastModel.calls (k:Nat) (A0_0:Option Addr) (c0_0:Nat) (l0_0:List (S67)) (a1:Int) (r1:ByteArray) (r2:ByteArray) (r3:ByteArray) (r4:Bool) (w:World) (hr0_0:Kd.C k67 w A0_0 l0_0.length l0_0) (hc0_0:l0_0.length≤c0_0) (h:spec_LeastModel.f k l0_0 a1=some (r1,r2,r3,r4)) :
   Calls Tryz.prog 24 #[.agg #[.slice A0_0 l0_0.length c0_0],.int .i64 a1] w fun e w'=>e = .returned (.tuple #[.agg #[.string r1,.string r2,.string r3],.bool r4])∧Below w.heap.size w w':=by
 have hu26:=Tryz.underlying26
 have hu32:=Tryz.underlying32
 have HR0_0:=zk hr0_0
 have HC0_0:=zk hc0_0
 clear hr0_0 hc0_0
 have HB:=zk (Below.refl w.heap.size w)
 have H:((spec_ModelsUpTo.f k l0_0 a1).bind fun t24003=>(spec_LeastModel.l0 k t24003 (-1) 0))=some (r1,r2,r3,r4):=h
 clear h
 replace H:=zo H
 obtain ⟨t24003,A30,H⟩:=H
 replace H:(spec_LeastModel.l0 k t24003 (-1) 0)=some (r1,r2,r3,r4):=H
 have A3:=zk A30
 clear A30
 have H':=zk H
 clear H
 go_enter Tryz.func24,Tryz.ntmps24
 go_wp2_with (first|((with_reducible refine gate_dst (N:=2) rfl ?_);refine zE (N:=2) (cs:=#[.slice A0_0 l0_0.length c0_0]) (t:=26) ?_;intro gb24001 hg w4 hbox hb;have n0_:=zk (below_step za4 hb);have n1_:=zk (hbox);have n2_:=zk (zs (w:=w) hg za4);have n3_:=zk (zs (w:=w) hg za4);clear HB;have HB:=n0_;have BK24001:=n1_;have GW24001:=n2_;have GE24001:=n3_;clear n0_ n1_ n2_ n3_;clear hb hbox hg)|((with_reducible refine gate_dst (N:=4) rfl ?_);refine zE (N:=4) (cs:=#[.string (⟨#[]⟩:ByteArray),.string (⟨#[]⟩:ByteArray),.string (⟨#[]⟩:ByteArray)]) (t:=32) ?_;intro gb24002 hg w5 hbox hb;have n0_:=zk (zb BK24001.out hb);have n1_:=zk (below_step za4 hb);have n2_:=zk (hbox);have n3_:=zk (zs (w:=w) hg za4);have n4_:=zk (zs (w:=w) hg za4);have n5_:=zk ((by rw [hg];exact Nat.ne_of_lt (zl BK24001.out):gb24001 ≠ gb24002));have n6_:=zk ((by rw [hg];exact Nat.ne_of_gt (zl BK24001.out):gb24002 ≠ gb24001));clear BK24001;clear HB;have BK24001:=n0_;have HB:=n1_;have BK24002:=n2_;have GW24002:=n3_;have GE24002:=n4_;have NB24001_24002:=n5_;have NB24002_24001:=n6_;clear n0_ n1_ n2_ n3_ n4_ n5_ n6_;clear hb hbox hg;have hnb6:=NB24001_24002.out;have hnc6:=NB24002_24001.out;obtain ⟨hcz7_0,hfz7_0⟩:=blk1 BK24001.out)|((with_reducible refine gate_callee (f:=10) rfl ?_);refine goesL_ (some 11) rfl rfl Tryz.func10 (by kernel_rfl) rfl #[.agg #[.slice A0_0 l0_0.length c0_0],.int .i64 a1] rfl za5 ?_;(with_reducible refine (spec_ModelsUpTo.calls k _ _ l0_0 a1 t24003 _ ?side1 ?side2 A3.out).mono ?_);(case side1=>repeat (first|exact (Kd.C_below HR0_0.out HB.out)|(with_reducible refine Kd.C_alloc ?_ _)|(with_reducible refine Kd.C_drewN ?_ _)|(with_reducible refine Kd.C_drew ?_)));(case side2=>exact HC0_0.out);rintro e w8 ⟨v24004,rfl,ho0,hb⟩;refine ⟨_,rfl,?_⟩;have n0_:=zk (Kd.R_lower (Kd.R_newB ho0 (g:=gb24002) (o:=.cells #[.string (⟨#[]⟩:ByteArray),.string (⟨#[]⟩:ByteArray),.string (⟨#[]⟩:ByteArray)] 32 (0,0)) (za0 BK24002.out)) (below_size za4));have n1_:=zk (zb BK24001.out hb);have n2_:=zk (zb BK24002.out hb);have n3_:=zk (below_step za4 hb);clear BK24001;clear BK24002;clear HB;have HO24005:=n0_;have BK24001:=n1_;have BK24002:=n2_;have HB:=n3_;clear n0_ n1_ n2_ n3_;(try clear hb);(try clear hb2);(try clear hk);(try clear hi);(try clear ho0)))
 first|go_loopg [7,8] k (fun kq v7 v8 w'=>∃ (x7_1:Int) (x8_1:Int),v7 = .int .i64 x7_1∧v8 = .int .i64 x8_1∧Aside0 (spec_LeastModel.l0 kq t24003 x7_1 x8_1=some (r1,r2,r3,r4))∧Aside0 (kq≤k)∧Aside0 (Kd.R k32 32 w' w.heap.size (fun k_=>k_ ≠ gb24002) v24004 t24003)∧Aside0 (w'.heap[gb24001]? = some (.cells #[(.slice A0_0 l0_0.length c0_0)] 26 (0,0)))∧Aside0 (w'.heap[gb24002]? = some (.cells #[.string (⟨#[]⟩:ByteArray),.string (⟨#[]⟩:ByteArray),.string (⟨#[]⟩:ByteArray)] 32 (0,0)))∧Aside0 (Below w.heap.size w w'))|(simp only [Act.put,zt,zv,zu];go_loopg [7,8] k (fun kq v7 v8 w'=>∃ (x7_1:Int) (x8_1:Int),v7 = .int .i64 x7_1∧v8 = .int .i64 x8_1∧Aside0 (spec_LeastModel.l0 kq t24003 x7_1 x8_1=some (r1,r2,r3,r4))∧Aside0 (kq≤k)∧Aside0 (Kd.R k32 32 w' w.heap.size (fun k_=>k_ ≠ gb24002) v24004 t24003)∧Aside0 (w'.heap[gb24001]? = some (.cells #[(.slice A0_0 l0_0.length c0_0)] 26 (0,0)))∧Aside0 (w'.heap[gb24002]? = some (.cells #[.string (⟨#[]⟩:ByteArray),.string (⟨#[]⟩:ByteArray),.string (⟨#[]⟩:ByteArray)] 32 (0,0)))∧Aside0 (Below w.heap.size w w')))
 case atStart=>exact ⟨((-1)),(0),za8,za8,H',⟨Nat.le_refl _⟩,⟨by (with_reducible repeat (first|apply Kd.R_alloc|apply Kd.R_drewN|apply Kd.R_drew));exact Kd.R_mono HO24005.out (fun _ hk=>hk.2)⟩,⟨za0 BK24001.out⟩,⟨za0 BK24002.out⟩,⟨za4⟩⟩
 case round =>
  clear H'
  try clear hcz7_0
  try clear hfz7_0
  obtain ⟨x7_1,x8_1,rfl,rfl,HA,HK1,HO_6,BK24001,BK24002,HB⟩:=hrel
  cases gk with
  | zero=>exact absurd HA.out (by simp [spec_LeastModel.l0])
  | succ k1 =>
   have H:=HA.out
   clear HA
   simp only [spec_LeastModel.l0] at H
   by_cases c9:x8_1 < (t24003.length:Int)
   rw [if_pos c9] at H
   have c9b0:decide (x8_1 < (t24003.length:Int))=true:=decide_eq_true c9
   clear c9
   by_cases c10:x7_1 < 0
   · rw [if_pos c10] at H
     have c10b0:decide (x7_1 < 0)=true:=decide_eq_true c10
     clear c10
     have H':=zk H
     clear H
     obtain ⟨Ao11,co11,eo11⟩:=Kd.R_slice HO_6.out
     subst eo11
     try go_wp2
     have n0_:=zk (Kd.R_drew HO_6.out)
     have n1_:=zk (blk_drew BK24001.out)
     have n2_:=zk (blk_drew BK24002.out)
     have n3_:=zk (below_drew1 HB.out)
     clear HO_6
     clear BK24001
     clear BK24002
     clear HB
     have HO_6:=n0_
     have BK24001:=n1_
     have BK24002:=n2_
     have HB:=n3_
     clear n0_ n1_ n2_ n3_
     refine start_ (n:=15) (S:=fun w'=>True) (ds:=[]) #[false,false,false,false,false,false,false,false,false,false,false,false,false,false,false] (by kernel_rfl) rfl rfl trivial (fun hHeld=>?_);refine with_tabW spec_LeastModel.tab6 spec_LeastModel.bits6 (fun HT_ HW_=>?_)
     generalize wr.drew=w12 at HO_6 BK24001 BK24002 HB hHeld ⊢
     refine pure_ (i:=0) (N:=some 18) (v:=?_) (a':=?_) #[true,false,false,false,false,false,false,false,false,false,false,false,false,false,false] rfl rfl (any_of HT_.out (by kernel_rfl)) (fun _ _ _ h=>h) (Or.inl ⟨by rfl,?_⟩) ?_ ?_
     rotate_left
     · intro w'
       go_simp
       first|with_reducible rfl|(rw [if_neg (by omega)];done)
     rotate_left
     · simp only [Act.put,zt,zu,zv,i64_w,i32_w]
       rfl
     refine pure_ (i:=1) (N:=some 19) (v:=?_) (a':=?_) #[true,true,false,false,false,false,false,false,false,false,false,false,false,false,false] rfl rfl (any_of HT_.out (by kernel_rfl)) (fun _ _ _ h=>h) (Or.inl ⟨by rfl,?_⟩) ?_ ?_
     rotate_left
     · intro w'
       go_simp
       first|with_reducible rfl|(rw [if_neg (by omega)];done)
     rotate_left
     · simp only [Act.put,zt,zu,zv,i64_w,i32_w]
       rfl
     refine pure_ (i:=2) (N:=some 20) (v:=?_) (a':=?_) #[true,true,true,false,false,false,false,false,false,false,false,false,false,false,false] rfl rfl (any_of HT_.out (by kernel_rfl)) (fun _ _ _ h=>h) (Or.inl ⟨by rfl,?_⟩) ?_ ?_
     rotate_left
     · intro w'
       go_simp
       first|with_reducible rfl|(rw [if_neg (by omega)];done)
     rotate_left
     · simp only [Act.put,zt,zu,zv,i64_w,i32_w]
       rfl
     refine pure_ (i:=3) (N:=some 21) (v:=undef) (a':=?_) #[true,true,true,true,false,false,false,false,false,false,false,false,false,false,false] rfl rfl (any_of HT_.out (by kernel_rfl)) (fun _ _ _ h=>h) (Or.inr ⟨by rfl,rfl⟩) ?_ ?_
     rotate_left
     · simp only [Act.put,zt,zu,zv,i64_w,i32_w]
       rfl
     refine pure_ (i:=4) (N:=some 22) (v:=undef) (a':=?_) #[true,true,true,true,true,false,false,false,false,false,false,false,false,false,false] rfl rfl (any_of HT_.out (by kernel_rfl)) (fun _ _ _ h=>h) (Or.inr ⟨by rfl,rfl⟩) ?_ ?_
     rotate_left
     · simp only [Act.put,zt,zu,zv,i64_w,i32_w]
       rfl
     refine pure_ (i:=5) (N:=some 23) (v:=undef) (a':=?_) #[true,true,true,true,true,true,false,false,false,false,false,false,false,false,false] rfl rfl (any_of HT_.out (by kernel_rfl)) (fun _ _ _ h=>h) (Or.inr ⟨by rfl,rfl⟩) ?_ ?_
     rotate_left
     · simp only [Act.put,zt,zu,zv,i64_w,i32_w]
       rfl
     refine pure_ (i:=6) (N:=some 24) (v:=undef) (a':=?_) #[true,true,true,true,true,true,true,false,false,false,false,false,false,false,false] rfl rfl (any_of HT_.out (by kernel_rfl)) (fun _ _ _ h=>h) (Or.inr ⟨by rfl,rfl⟩) ?_ ?_
     rotate_left
     · simp only [Act.put,zt,zu,zv,i64_w,i32_w]
       rfl
     refine pure_ (i:=7) (N:=some 25) (v:=undef) (a':=?_) #[true,true,true,true,true,true,true,true,false,false,false,false,false,false,false] rfl rfl (any_of HT_.out (by kernel_rfl)) (fun _ _ _ h=>h) (Or.inr ⟨by rfl,rfl⟩) ?_ ?_
     rotate_left
     · simp only [Act.put,zt,zu,zv,i64_w,i32_w]
       rfl
     refine pure_ (i:=8) (N:=some 26) (v:=undef) (a':=?_) #[true,true,true,true,true,true,true,true,true,false,false,false,false,false,false] rfl rfl (any_of HT_.out (by kernel_rfl)) (fun _ _ _ h=>h) (Or.inr ⟨by rfl,rfl⟩) ?_ ?_
     rotate_left
     · simp only [Act.put,zt,zu,zv,i64_w,i32_w]
       rfl
     refine pure_ (i:=9) (N:=some 27) (v:=undef) (a':=?_) #[true,true,true,true,true,true,true,true,true,true,false,false,false,false,false] rfl rfl (any_of HT_.out (by kernel_rfl)) (fun _ _ _ h=>h) (Or.inr ⟨by rfl,rfl⟩) ?_ ?_
     rotate_left
     · simp only [Act.put,zt,zu,zv,i64_w,i32_w]
       rfl
     refine pure_ (i:=10) (N:=some 28) (v:=undef) (a':=?_) #[true,true,true,true,true,true,true,true,true,true,true,false,false,false,false] rfl rfl (any_of HT_.out (by kernel_rfl)) (fun _ _ _ h=>h) (Or.inr ⟨by rfl,rfl⟩) ?_ ?_
     rotate_left
     · simp only [Act.put,zt,zu,zv,i64_w,i32_w]
       rfl
     refine pure_ (i:=11) (N:=some 29) (v:=undef) (a':=?_) #[true,true,true,true,true,true,true,true,true,true,true,true,false,false,false] rfl rfl (any_of HT_.out (by kernel_rfl)) (fun _ _ _ h=>h) (Or.inr ⟨by rfl,rfl⟩) ?_ ?_
     rotate_left
     · simp only [Act.put,zt,zu,zv,i64_w,i32_w]
       rfl
     refine pure_ (i:=12) (N:=some 30) (v:=undef) (a':=?_) #[true,true,true,true,true,true,true,true,true,true,true,true,true,false,false] rfl rfl (any_of HT_.out (by kernel_rfl)) (fun _ _ _ h=>h) (Or.inr ⟨by rfl,rfl⟩) ?_ ?_
     rotate_left
     · simp only [Act.put,zt,zu,zv,i64_w,i32_w]
       rfl
     refine pure_ (i:=13) (N:=some 31) (v:=undef) (a':=?_) #[true,true,true,true,true,true,true,true,true,true,true,true,true,true,false] rfl rfl (any_of HT_.out (by kernel_rfl)) (fun _ _ _ h=>h) (Or.inr ⟨by rfl,rfl⟩) ?_ ?_
     rotate_left
     · simp only [Act.put,zt,zu,zv,i64_w,i32_w]
       rfl
     refine pure_ (i:=14) (N:=some 32) (v:=?_) (a':=?_) #[true,true,true,true,true,true,true,true,true,true,true,true,true,true,true] rfl rfl (any_of HT_.out (by kernel_rfl)) (fun _ _ _ h=>h) (Or.inl ⟨by rfl,?_⟩) ?_ ?_
     rotate_left
     · intro w'
       go_simp
       first|with_reducible rfl|(rw [if_neg (by omega)];done)
     rotate_left
     · simp only [Act.put,zt,zu,zv,i64_w,i32_w]
       rfl
     refine done_ (done_of HT_.out (by kernel_rfl)) ?_
     try go_wp2
     go_roundg k1
     case measure=>have:=HK1.out;omega
     case rel=>exact ⟨(x8_1),(wrap64 (x8_1+1)),za8,za8,H',⟨za17⟩,⟨za1 HO_6.out⟩,⟨za0 BK24001.out⟩,⟨za0 BK24002.out⟩,⟨za4⟩⟩
   rw [if_neg c10] at H
   have c10b0:decide (x7_1 < 0)=false:=decide_eq_false c10
   clear c10
   by_cases c13:0≤x8_1
   rw [if_pos c13] at H
   have c13b0:decide (0≤x8_1)=true:=decide_eq_true c13
   clear c13
   replace H:=zo H
   obtain ⟨t24008,A140,H⟩:=H
   replace H:(if 0≤x7_1 then (if x7_1 < (t24003.length:Int) then ((spec_TotalLength.f ((rd_T32 t24003 x7_1).f0) ((rd_T32 t24003 x7_1).f1) ((rd_T32 t24003 x7_1).f2)).bind fun t24010=>(if t24008 < t24010 then (spec_LeastModel.l0 k1 t24003 x8_1 (wrap64 (x8_1+1))) else (spec_LeastModel.l0 k1 t24003 x7_1 (wrap64 (x8_1+1))))) else (none)) else (none))=some (r1,r2,r3,r4):=H
   have A14:=zk A140
   clear A140
   by_cases c15:0≤x7_1
   rw [if_pos c15] at H
   have c15b0:decide (0≤x7_1)=true:=decide_eq_true c15
   clear c15
   by_cases c16:x7_1 < (t24003.length:Int)
   rw [if_pos c16] at H
   have c16b0:decide (x7_1 < (t24003.length:Int))=true:=decide_eq_true c16
   clear c16
   replace H:=zo H
   obtain ⟨t24010,A170,H⟩:=H
   replace H:(if t24008 < t24010 then (spec_LeastModel.l0 k1 t24003 x8_1 (wrap64 (x8_1+1))) else (spec_LeastModel.l0 k1 t24003 x7_1 (wrap64 (x8_1+1))))=some (r1,r2,r3,r4):=H
   have A17:=zk A170
   clear A170
   by_cases c18:t24008 < t24010
   rw [if_pos c18] at H
   have c18b0:decide (t24008 < t24010)=true:=decide_eq_true c18
   have fin0_:=zk trivial
   rotate_left
   rw [if_neg c18] at H
   have c18b0:decide (t24008 < t24010)=false:=decide_eq_false c18
   have fin1_:=zk trivial
   rotate_left
   · rw [if_neg c16] at H
     exact absurd H (by simp)
   · rw [if_neg c15] at H
     exact absurd H (by simp)
   · rw [if_neg c13] at H
     exact absurd H (by simp)
   rw [if_neg c9] at H
   have c9b0:decide (x8_1 < (t24003.length:Int))=false:=decide_eq_false c9
   clear c9
   by_cases c27:x7_1 < 0
   · rw [if_pos c27] at H
     have c27b0:decide (x7_1 < 0)=true:=decide_eq_true c27
     clear c27
     simp only [Option.some.injEq,Prod.mk.injEq] at H
     obtain ⟨rfl,rfl,rfl,rfl⟩:=H
     obtain ⟨Ao28,co28,eo28⟩:=Kd.R_slice HO_6.out
     subst eo28
     have hnb29:=NB24002_24001.out
     have hnc29:=NB24001_24002.out
     obtain ⟨hcz30_0,hcz30_1,hcz30_2,hfz30_0,hfz30_1,hfz30_2⟩:=blk3 BK24002.out
     go_wp2
     refine bodyPost_ret (results_ct rfl _ _ gb24002 32 #[.string (⟨#[]⟩:ByteArray),.string (⟨#[]⟩:ByteArray),.string (⟨#[]⟩:ByteArray)] (0,0) _ rfl (za3 BK24002.out) Tryz.underlying32 rfl (by kernel_rfl)) rfl ?_
     exact ⟨za7,za4⟩
   rw [if_neg c27] at H
   have c27b0:decide (x7_1 < 0)=false:=decide_eq_false c27
   clear c27
   by_cases c31:0≤x7_1
   rw [if_pos c31] at H
   have c31b0:decide (0≤x7_1)=true:=decide_eq_true c31
   clear c31
   by_cases c32:x7_1 < (t24003.length:Int)
   · rw [if_pos c32] at H
     have c32b0:decide (x7_1 < (t24003.length:Int))=true:=decide_eq_true c32
     clear c32
     simp only [Option.some.injEq,Prod.mk.injEq] at H
     obtain ⟨rfl,rfl,rfl,rfl⟩:=H
     obtain ⟨Ao33,co33,eo33⟩:=Kd.R_slice HO_6.out
     subst eo33
     have p24006:0≤(x7_1:Int):=of_decide_eq_true za9
     have q24006:x7_1 < (t24003.length:Int):=of_decide_eq_true za9
     obtain ⟨ad24006,e24006,hx24006_0,hx24006_1,hx24006_2⟩:=at_T32 (Kd.R_reads' HO_6.out).2.2 x7_1 p24006 q24006
     cases e24006
     replace p24006:=eq_true p24006
     replace q24006:=eq_true q24006
     have hnb34:=NB24002_24001.out
     have hnc34:=NB24001_24002.out
     obtain ⟨hcz35_0,hcz35_1,hcz35_2,hfz35_0,hfz35_1,hfz35_2⟩:=blk3 BK24002.out
     go_wp2
     refine bodyPost_ret (results_ct rfl _ _ gb24002 32 #[.string ((rd_T32 t24003 x7_1).f0),.string ((rd_T32 t24003 x7_1).f1),.string ((rd_T32 t24003 x7_1).f2)] (0,0) _ rfl (by (with_reducible repeat (first|refine blk_drewN ?_ _|refine blk_drew ?_|refine blk_alloc ?_ _));refine blk_put (cs:=#[.string ((rd_T32 t24003 x7_1).f0),.string ((rd_T32 t24003 x7_1).f1),.string (⟨#[]⟩:ByteArray)]) ?_ 2 _ rfl;(with_reducible repeat (first|refine blk_drewN ?_ _|refine blk_drew ?_|refine blk_alloc ?_ _));refine blk_put (cs:=#[.string ((rd_T32 t24003 x7_1).f0),.string (⟨#[]⟩:ByteArray),.string (⟨#[]⟩:ByteArray)]) ?_ 1 _ rfl;(with_reducible repeat (first|refine blk_drewN ?_ _|refine blk_drew ?_|refine blk_alloc ?_ _));refine blk_put (cs:=#[.string (⟨#[]⟩:ByteArray),.string (⟨#[]⟩:ByteArray),.string (⟨#[]⟩:ByteArray)]) ?_ 0 _ rfl;(with_reducible repeat (first|refine blk_drewN ?_ _|refine blk_drew ?_|refine blk_alloc ?_ _));exact BK24002.out) Tryz.underlying32 rfl (by kernel_rfl)) rfl ?_
     exact ⟨za7,za4⟩
   · rw [if_neg c32] at H
     exact absurd H (by simp)
   · rw [if_neg c31] at H
     exact absurd H (by simp)
   all_goals
    clear c18
    have H':=zk H
    clear H
    obtain ⟨Ao19,co19,eo19⟩:=Kd.R_slice HO_6.out
    subst eo19
    try go_wp2
    have n0_:=zk (Kd.R_drew HO_6.out)
    have n1_:=zk (blk_drew BK24001.out)
    have n2_:=zk (blk_drew BK24002.out)
    have n3_:=zk (below_drew1 HB.out)
    clear HO_6
    clear BK24001
    clear BK24002
    clear HB
    have HO_6:=n0_
    have BK24001:=n1_
    have BK24002:=n2_
    have HB:=n3_
    clear n0_ n1_ n2_ n3_
    have p24007:0≤(x8_1:Int):=of_decide_eq_true za9
    have q24007:x8_1 < (t24003.length:Int):=of_decide_eq_true za9
    obtain ⟨ad24007,e24007,hx24007_0,hx24007_1,hx24007_2⟩:=at_T32 (Kd.R_reads' HO_6.out).2.2 x8_1 p24007 q24007
    cases e24007
    replace p24007:=eq_true p24007
    replace q24007:=eq_true q24007
    have p24009:0≤(x7_1:Int):=of_decide_eq_true za9
    have q24009:x7_1 < (t24003.length:Int):=of_decide_eq_true za9
    obtain ⟨ad24009,e24009,hx24009_0,hx24009_1,hx24009_2⟩:=at_T32 (Kd.R_reads' HO_6.out).2.2 x7_1 p24009 q24009
    obtain rfl:ad24007=ad24009:=(by injection e24009)
    replace p24009:=eq_true p24009
    replace q24009:=eq_true q24009
    refine start_ (n:=15) (S:=fun w'=>w'.cell? (ad24007.add ((x8_1).toNat * 3))=some (.string ((rd_T32 t24003 x8_1).f0))∧w'.cell? ⟨(ad24007.add ((x8_1).toNat * 3)).block,(ad24007.add ((x8_1).toNat * 3)).off+1,none⟩=some (.string ((rd_T32 t24003 x8_1).f1))∧w'.cell? ⟨(ad24007.add ((x8_1).toNat * 3)).block,(ad24007.add ((x8_1).toNat * 3)).off+2,none⟩=some (.string ((rd_T32 t24003 x8_1).f2))∧w'.cell? (ad24007.add ((x7_1).toNat * 3))=some (.string ((rd_T32 t24003 x7_1).f0))∧w'.cell? ⟨(ad24007.add ((x7_1).toNat * 3)).block,(ad24007.add ((x7_1).toNat * 3)).off+1,none⟩=some (.string ((rd_T32 t24003 x7_1).f1))∧w'.cell? ⟨(ad24007.add ((x7_1).toNat * 3)).block,(ad24007.add ((x7_1).toNat * 3)).off+2,none⟩=some (.string ((rd_T32 t24003 x7_1).f2))) (ds:=[]) #[false,false,false,false,false,false,false,false,false,false,false,false,false,false,false] (by kernel_rfl) rfl rfl ⟨hx24007_0,hx24007_1,hx24007_2,hx24009_0,hx24009_1,hx24009_2⟩ (fun hHeld=>?_);refine with_tabW spec_LeastModel.tab6 spec_LeastModel.bits6 (fun HT_ HW_=>?_)
    generalize wr.drew=w20 at HO_6 BK24001 BK24002 HB hx24007_0 hx24007_1 hx24007_2 hx24009_0 hx24009_1 hx24009_2 hHeld ⊢
    refine pure_ (i:=0) (N:=some 18) (v:=?_) (a':=?_) #[true,false,false,false,false,false,false,false,false,false,false,false,false,false,false] rfl rfl (any_of HT_.out (by kernel_rfl)) (fun _ _ _ h=>h) (Or.inl ⟨by rfl,?_⟩) ?_ ?_
    rotate_left
    · intro w'
      go_simp
      first|with_reducible rfl|(rw [if_neg (by omega)];done)
    rotate_left
    · simp only [Act.put,zt,zu,zv,i64_w,i32_w]
      rfl
    refine pure_ (i:=1) (N:=some 19) (v:=?_) (a':=?_) #[true,true,false,false,false,false,false,false,false,false,false,false,false,false,false] rfl rfl (any_of HT_.out (by kernel_rfl)) (fun _ _ _ h=>h) (Or.inl ⟨by rfl,?_⟩) ?_ ?_
    rotate_left
    · intro w'
      go_simp
      first|with_reducible rfl|(rw [if_neg (by omega)];done)
    rotate_left
    · simp only [Act.put,zt,zu,zv,i64_w,i32_w]
      rfl
    refine pure_ (i:=2) (N:=some 20) (v:=?_) (a':=?_) #[true,true,true,false,false,false,false,false,false,false,false,false,false,false,false] rfl rfl (any_of HT_.out (by kernel_rfl)) (fun _ _ _ h=>h) (Or.inl ⟨by rfl,?_⟩) ?_ ?_
    rotate_left
    · intro w'
      go_simp
      first|with_reducible rfl|(rw [if_neg (by omega)];done)
    rotate_left
    · simp only [Act.put,zt,zu,zv,i64_w,i32_w]
      rfl
    refine pure_ (i:=3) (N:=some 21) (v:=?_) (a':=?_) #[true,true,true,true,false,false,false,false,false,false,false,false,false,false,false] rfl rfl (any_of HT_.out (by kernel_rfl)) (fun _ _ _ h=>h) (Or.inl ⟨by rfl,?_⟩) ?_ ?_
    rotate_left
    · intro w'
      go_simp
      first|with_reducible rfl|(rw [if_neg (by omega)];done)
    rotate_left
    · simp only [Act.put,zt,zu,zv,i64_w,i32_w]
      rfl
    refine pure_ (i:=4) (N:=some 22) (v:=?_) (a':=?_) #[true,true,true,true,true,false,false,false,false,false,false,false,false,false,false] rfl rfl (any_of HT_.out (by kernel_rfl)) (fun _ _ _ h=>h) (Or.inl ⟨by rfl,?_⟩) ?_ ?_
    rotate_left
    · intro w'
      go_simp
      first|with_reducible rfl|(rw [if_neg (by omega)];done)
    rotate_left
    · simp only [Act.put,zt,zu,zv,i64_w,i32_w]
      rfl
    refine pure_ (i:=5) (N:=some 23) (v:=?_) (a':=?_) #[true,true,true,true,true,true,false,false,false,false,false,false,false,false,false] rfl rfl (any_of HT_.out (by kernel_rfl)) (fun _ _ _ h=>h) (Or.inl ⟨by rfl,?_⟩) ?_ ?_
    rotate_left
    · intro w'
      go_simp
      first|with_reducible rfl|(rw [if_neg (by omega)];done)
    rotate_left
    · simp only [Act.put,zt,zu,zv,i64_w,i32_w]
      rfl
    refine pure_ (i:=8) (N:=some 26) (v:=?_) (a':=?_) #[true,true,true,true,true,true,false,false,true,false,false,false,false,false,false] rfl rfl (any_of HT_.out (by kernel_rfl)) (fun _ _ _ h=>h) (Or.inl ⟨by rfl,?_⟩) ?_ ?_
    rotate_left
    · intro w'
      go_simp
      first|with_reducible rfl|(rw [if_neg (by omega)];done)
    rotate_left
    · simp only [Act.put,zt,zu,zv,i64_w,i32_w]
      rfl
    refine pure_ (i:=9) (N:=some 27) (v:=?_) (a':=?_) #[true,true,true,true,true,true,false,false,true,true,false,false,false,false,false] rfl rfl (any_of HT_.out (by kernel_rfl)) (fun _ _ _ h=>h) (Or.inl ⟨by rfl,?_⟩) ?_ ?_
    rotate_left
    · intro w'
      go_simp
      first|with_reducible rfl|(rw [if_neg (by omega)];done)
    rotate_left
    · simp only [Act.put,zt,zu,zv,i64_w,i32_w]
      rfl
    refine pure_ (i:=10) (N:=some 28) (v:=?_) (a':=?_) #[true,true,true,true,true,true,false,false,true,true,true,false,false,false,false] rfl rfl (any_of HT_.out (by kernel_rfl)) (fun _ _ _ h=>h) (Or.inl ⟨by rfl,?_⟩) ?_ ?_
    rotate_left
    · intro w'
      go_simp
      first|with_reducible rfl|(rw [if_neg (by omega)];done)
    rotate_left
    · simp only [Act.put,zt,zu,zv,i64_w,i32_w]
      rfl
    refine take_ (i:=6) (N:=some 24) (v:=?_) (a':=?_) #[true,true,true,true,true,true,true,false,true,true,true,false,false,false,false] rfl rfl (take_ofW HT_.out HW_.out (by kernel_rfl)) (fun _ _ _ h=>h) (Or.inl ⟨by rfl,?_⟩) hHeld ?_ ?_
    rotate_left
    · rintro w' ⟨s0,s1,s2,s3,s4,s5⟩
      go_simp
      first|with_reducible rfl|(rw [if_neg (by omega)];done)
    rotate_left
    · simp only [Act.put,zt,zu,zv,i64_w,i32_w]
      rfl
    refine take_ (i:=11) (N:=some 29) (v:=?_) (a':=?_) #[true,true,true,true,true,true,true,false,true,true,true,true,false,false,false] rfl rfl (take_ofW HT_.out HW_.out (by kernel_rfl)) (fun _ _ _ h=>h) (Or.inl ⟨by rfl,?_⟩) hHeld ?_ ?_
    rotate_left
    · rintro w' ⟨s0,s1,s2,s3,s4,s5⟩
      go_simp
      first|with_reducible rfl|(rw [if_neg (by omega)];done)
    rotate_left
    · simp only [Act.put,zt,zu,zv,i64_w,i32_w]
      rfl
    refine one_ (i:=7) (N:=some 25) #[true,true,true,true,true,true,true,true,true,true,true,true,false,false,false] rfl rfl (one_of HT_.out (by kernel_rfl)) (by decide) (fun K hK=>?_)
    refine goes_ Tryz.func58 (by kernel_rfl) rfl #[.agg #[.string ((rd_T32 t24003 x8_1).f0),.string ((rd_T32 t24003 x8_1).f1),.string ((rd_T32 t24003 x8_1).f2)]] (by rfl) rfl rfl za5 ?_
    with_reducible refine (spec_TotalLength.calls ((rd_T32 t24003 x8_1).f0) ((rd_T32 t24003 x8_1).f1) ((rd_T32 t24003 x8_1).f2) t24008 _ A14.out).mono ?_
    rintro e w21 ⟨rfl,hb⟩
    have HS0_:=(hb.cell (World.block_lt_of_cell? _ _ (hHeld.1))).trans (hHeld.1)
    have HS1_:=(hb.cell (World.block_lt_of_cell? _ _ (hHeld.2.1))).trans (hHeld.2.1)
    have HS2_:=(hb.cell (World.block_lt_of_cell? _ _ (hHeld.2.2.1))).trans (hHeld.2.2.1)
    have HS3_:=(hb.cell (World.block_lt_of_cell? _ _ (hHeld.2.2.2.1))).trans (hHeld.2.2.2.1)
    have HS4_:=(hb.cell (World.block_lt_of_cell? _ _ (hHeld.2.2.2.2.1))).trans (hHeld.2.2.2.2.1)
    have HS5_:=(hb.cell (World.block_lt_of_cell? _ _ (hHeld.2.2.2.2.2))).trans (hHeld.2.2.2.2.2)
    refine ⟨_,rfl,?_⟩
    have n0_:=zk (Kd.R_below (za1 HO_6.out) hb)
    have n1_:=zk (zb BK24001.out hb)
    have n2_:=zk (zb BK24002.out hb)
    have n3_:=zk (below_step za4 hb)
    clear HO_6
    clear BK24001
    clear BK24002
    clear HB
    have HO_6:=n0_
    have BK24001:=n1_
    have BK24002:=n2_
    have HB:=n3_
    clear n0_ n1_ n2_ n3_
    (try clear hb)
    (try clear hb2)
    (try clear hk)
    (try clear hi)
    refine hK.out _ _ ⟨HS0_,HS1_,HS2_,HS3_,HS4_,HS5_⟩ (fun hHeld=>?_)
    clear hK K
    refine norm_ (a':=?_) ?_ ?_
    rotate_left
    · show Act.put _ (some 25) _=_
      simp only [Act.put,zt,zu,zv,i64_w,i32_w]
      rfl
    refine one_ (i:=12) (N:=some 30) #[true,true,true,true,true,true,true,true,true,true,true,true,true,false,false] rfl rfl (one_of HT_.out (by kernel_rfl)) (by decide) (fun K hK=>?_)
    refine goes_ Tryz.func58 (by kernel_rfl) rfl #[.agg #[.string ((rd_T32 t24003 x7_1).f0),.string ((rd_T32 t24003 x7_1).f1),.string ((rd_T32 t24003 x7_1).f2)]] (by rfl) rfl rfl za5 ?_
    with_reducible refine (spec_TotalLength.calls ((rd_T32 t24003 x7_1).f0) ((rd_T32 t24003 x7_1).f1) ((rd_T32 t24003 x7_1).f2) t24010 _ A17.out).mono ?_
    rintro e w22 ⟨rfl,hb⟩
    have HS0_:=(hb.cell (World.block_lt_of_cell? _ _ (hHeld.1))).trans (hHeld.1)
    have HS1_:=(hb.cell (World.block_lt_of_cell? _ _ (hHeld.2.1))).trans (hHeld.2.1)
    have HS2_:=(hb.cell (World.block_lt_of_cell? _ _ (hHeld.2.2.1))).trans (hHeld.2.2.1)
    have HS3_:=(hb.cell (World.block_lt_of_cell? _ _ (hHeld.2.2.2.1))).trans (hHeld.2.2.2.1)
    have HS4_:=(hb.cell (World.block_lt_of_cell? _ _ (hHeld.2.2.2.2.1))).trans (hHeld.2.2.2.2.1)
    have HS5_:=(hb.cell (World.block_lt_of_cell? _ _ (hHeld.2.2.2.2.2))).trans (hHeld.2.2.2.2.2)
    refine ⟨_,rfl,?_⟩
    have n0_:=zk (Kd.R_below (za1 HO_6.out) hb)
    have n1_:=zk (zb BK24001.out hb)
    have n2_:=zk (zb BK24002.out hb)
    have n3_:=zk (below_step za4 hb)
    clear HO_6
    clear BK24001
    clear BK24002
    clear HB
    have HO_6:=n0_
    have BK24001:=n1_
    have BK24002:=n2_
    have HB:=n3_
    clear n0_ n1_ n2_ n3_
    (try clear hb)
    (try clear hb2)
    (try clear hk)
    (try clear hi)
    refine hK.out _ _ ⟨HS0_,HS1_,HS2_,HS3_,HS4_,HS5_⟩ (fun hHeld=>?_)
    clear hK K
    refine norm_ (a':=?_) ?_ ?_
    rotate_left
    · show Act.put _ (some 30) _=_
      simp only [Act.put,zt,zu,zv,i64_w,i32_w]
      rfl
    refine pure_ (i:=13) (N:=some 31) (v:=?_) (a':=?_) #[true,true,true,true,true,true,true,true,true,true,true,true,true,true,false] rfl rfl (any_of HT_.out (by kernel_rfl)) (fun _ _ _ h=>h) (Or.inl ⟨by rfl,?_⟩) ?_ ?_
    rotate_left
    · intro w'
      go_simp
      first|with_reducible rfl|(rw [if_neg (by omega)];done)
    rotate_left
    · simp only [Act.put,zt,zu,zv,i64_w,i32_w]
      rfl
    refine pure_ (i:=14) (N:=some 32) (v:=?_) (a':=?_) #[true,true,true,true,true,true,true,true,true,true,true,true,true,true,true] rfl rfl (any_of HT_.out (by kernel_rfl)) (fun _ _ _ h=>h) (Or.inl ⟨by rfl,?_⟩) ?_ ?_
    rotate_left
    · intro w'
      go_simp
      first|with_reducible rfl|(rw [if_neg (by omega)];done)
    rotate_left
    · simp only [Act.put,zt,zu,zv,i64_w,i32_w]
      rfl
    refine done_ (done_of HT_.out (by kernel_rfl)) ?_
    try go_wp2
    first
    | (
       clear fin0_
       go_roundg k1
       case measure=>have:=HK1.out;omega
       case rel=>exact ⟨(x8_1),(wrap64 (x8_1+1)),za8,za8,H',⟨za17⟩,⟨za1 HO_6.out⟩,⟨za0 BK24001.out⟩,⟨za0 BK24002.out⟩,⟨za4⟩⟩)
    | (
       clear fin1_
       go_roundg k1
       case measure=>have:=HK1.out;omega
       case rel=>exact ⟨(x7_1),(wrap64 (x8_1+1)),za8,za8,H',⟨za17⟩,⟨za1 HO_6.out⟩,⟨za0 BK24001.out⟩,⟨za0 BK24002.out⟩,⟨za4⟩⟩)
def laws_eqValues.f (a0_0:ByteArray) (a0_1:ByteArray) (a0_2:ByteArray) (a1_0:ByteArray) (a1_1:ByteArray) (a1_2:ByteArray):Option (Bool):=if a0_0.toList=a1_0.toList then (if a0_1.toList=a1_1.toList then (if a0_2.toList=a1_2.toList then (some true) else (some false)) else (some false)) else (some false)
theorem laws_eqValues.calls (a0_0:ByteArray) (a0_1:ByteArray) (a0_2:ByteArray) (a1_0:ByteArray) (a1_1:ByteArray) (a1_2:ByteArray) (r:Bool) (w:World) (h:laws_eqValues.f a0_0 a0_1 a0_2 a1_0 a1_1 a1_2=some r) :
   Calls Tryz.prog 22 #[.agg #[.string a0_0,.string a0_1,.string a0_2],.agg #[.string a1_0,.string a1_1,.string a1_2]] w fun e w'=>e = .returned (.bool r)∧Below w.heap.size w w':=by
 have hu32:=Tryz.underlying32
 have HB:=zk (Below.refl w.heap.size w)
 have H:(if a0_0.toList=a1_0.toList then (if a0_1.toList=a1_1.toList then (if a0_2.toList=a1_2.toList then (some true) else (some false)) else (some false)) else (some false))=some r:=h
 clear h
 by_cases c3:a0_0.toList=a1_0.toList
 rw [if_pos c3] at H
 have c3b0:(a0_0.toList == a1_0.toList)=true:=beq_iff_eq.mpr c3
 have c3b1:(a0_0.toList != a1_0.toList)=false:=bne_eq_false_iff_eq.mpr c3
 clear c3
 by_cases c4:a0_1.toList=a1_1.toList
 rw [if_pos c4] at H
 have c4b0:(a0_1.toList == a1_1.toList)=true:=beq_iff_eq.mpr c4
 have c4b1:(a0_1.toList != a1_1.toList)=false:=bne_eq_false_iff_eq.mpr c4
 clear c4
 by_cases c5:a0_2.toList=a1_2.toList
 rw [if_pos c5] at H
 have c5b0:(a0_2.toList == a1_2.toList)=true:=beq_iff_eq.mpr c5
 have c5b1:(a0_2.toList != a1_2.toList)=false:=bne_eq_false_iff_eq.mpr c5
 clear c5
 rotate_left
 rw [if_neg c5] at H
 have c5b0:(a0_2.toList == a1_2.toList)=false:=beq_eq_false_iff_ne.mpr c5
 have c5b1:(a0_2.toList != a1_2.toList)=true:=bne_iff_ne.mpr c5
 rotate_left
 rw [if_neg c4] at H
 have c4b0:(a0_1.toList == a1_1.toList)=false:=beq_eq_false_iff_ne.mpr c4
 have c4b1:(a0_1.toList != a1_1.toList)=true:=bne_iff_ne.mpr c4
 rotate_left
 rw [if_neg c3] at H
 have c3b0:(a0_0.toList == a1_0.toList)=false:=beq_eq_false_iff_ne.mpr c3
 have c3b1:(a0_0.toList != a1_0.toList)=true:=bne_iff_ne.mpr c3
 rotate_left
 all_goals
  obtain rfl:=zi H
  go_enter Tryz.func22,Tryz.ntmps22
  go_wp2_with (first|((with_reducible refine gate_dst (N:=2) rfl ?_);refine zE (N:=2) (cs:=#[.string a0_0,.string a0_1,.string a0_2]) (t:=32) ?_;intro gb22001 hg w11 hbox hb;have n0_:=zk (below_step za4 hb);have n1_:=zk (hbox);have n2_:=zk (zs (w:=w) hg za4);have n3_:=zk (zs (w:=w) hg za4);clear HB;have HB:=n0_;have BK22001:=n1_;have GW22001:=n2_;have GE22001:=n3_;clear n0_ n1_ n2_ n3_;clear hb hbox hg)|((with_reducible refine gate_dst (N:=3) rfl ?_);refine zE (N:=3) (cs:=#[.string a1_0,.string a1_1,.string a1_2]) (t:=32) ?_;intro gb22002 hg w12 hbox hb;have n0_:=zk (zb BK22001.out hb);have n1_:=zk (below_step za4 hb);have n2_:=zk (hbox);have n3_:=zk (zs (w:=w) hg za4);have n4_:=zk (zs (w:=w) hg za4);have n5_:=zk ((by rw [hg];exact Nat.ne_of_lt (zl BK22001.out):gb22001 ≠ gb22002));have n6_:=zk ((by rw [hg];exact Nat.ne_of_gt (zl BK22001.out):gb22002 ≠ gb22001));clear BK22001;clear HB;have BK22001:=n0_;have HB:=n1_;have BK22002:=n2_;have GW22002:=n3_;have GE22002:=n4_;have NB22001_22002:=n5_;have NB22002_22001:=n6_;clear n0_ n1_ n2_ n3_ n4_ n5_ n6_;clear hb hbox hg;have hnb13:=NB22001_22002.out;have hnc13:=NB22002_22001.out;obtain ⟨hcz14_0,hcz14_1,hcz14_2,hfz14_0,hfz14_1,hfz14_2⟩:=blk3 BK22001.out;obtain ⟨hcz15_0,hcz15_1,hcz15_2,hfz15_0,hfz15_1,hfz15_2⟩:=blk3 BK22002.out))
  go_ret
  exact ⟨za7,za4⟩
end Go.Proofs.YtffjfdoghofkdaaGreat.A
namespace Go.Proofs.YtffjfdoghofkdaaGreat.Ext
open Go.RowKit YtffjfdoghofkdaaGreatW.PrintWords YtffjfdoghofkdaaGreatW.PrintLast YtffjfdoghofkdaaGreat.A
def idxN (p:Nat→Bool) (n:Nat):Int:=match (List.range n).find? p with|some i=>(i:Int)|none => -1
def anyN (p:Nat→Bool) (n:Nat):Bool:=(List.range n).any p
theorem idxN_miss (p:Nat→Bool) (n:Nat) (h:∀ j,j < n→p j=false):idxN p n = -1:=by
 unfold idxN
 rw [List.find?_eq_none.2 (fun x hx=>by rw [h x (List.mem_range.1 hx)];simp)]
theorem idxN_hit (p:Nat→Bool) (n i:Nat) (hi:i < n) (h:∀ j,j < i→p j=false) (hp:p i=true):idxN p n=i:=by
 unfold idxN
 have e:(List.range n).find? p=some i:=by
  rw [List.find?_range_eq_some]
  exact ⟨hp,List.mem_range.2 hi,fun j hj=>by simp [h j hj]⟩
 rw [e]
theorem anyN_idx (p:Nat→Bool) (n:Nat):decide (0≤idxN p n)=anyN p n:=by
 unfold idxN anyN
 cases h:(List.range n).find? p with
 | none =>
  have:(List.range n).any p=false:=by
   rw [List.any_eq_false]
   exact List.find?_eq_none.1 h
  simp [this]
 | some i =>
  have:(List.range n).any p=true:=List.any_eq_true.2 ⟨i,List.mem_of_find?_eq_some h,List.find?_some h⟩
  simp [this]
end Go.Proofs.YtffjfdoghofkdaaGreat.Ext
namespace Go.Proofs.YtffjfdoghofkdaaGreat.A
open Go.RowKit YtffjfdoghofkdaaGreat.Ext YtffjfdoghofkdaaGreatW.PrintWords YtffjfdoghofkdaaGreatW.PrintLast YtffjfdoghofkdaaGreatW.PrintMore
attribute [local go_sem] max2_int min2_int max_two min_two max_three min_three max_four min_four
def impl_within.f (a0:Int) (a1:Int) (a2:Int):Option (Bool):=if a0 ≥ a1 then (some (decide (a0≤a2))) else (some false)
theorem impl_within.calls (a0:Int) (a1:Int) (a2:Int) (r:Bool) (w:World) (h:impl_within.f a0 a1 a2=some r) :
   Calls Tryz.prog 94 #[.int .i64 a0,.int .i64 a1,.int .i64 a2] w fun e w'=>e = .returned (.bool r)∧Drawn0 w w':=by
 have H:(if a0 ≥ a1 then (some (decide (a0≤a2))) else (some false))=some r:=h
 clear h
 by_cases c4:a0 ≥ a1
 rw [if_pos c4] at H
 have c4b0:decide (a1≤a0)=true:=decide_eq_true c4
 rotate_left
 rw [if_neg c4] at H
 have c4b0:decide (a1≤a0)=false:=decide_eq_false c4
 rotate_left
 all_goals
  clear c4
  obtain rfl:=zi H
  go_enter Tryz.func94,Tryz.ntmps94
  go_wp2
  go_ret
  exact ⟨za8,za11⟩
def impl_LetterIndex.f (a0:Int):Option (Int):=(strings_IndexByte.f (⟨#[97,98,99]⟩:ByteArray) a0).bind fun t124001=>(some t124001)
theorem impl_LetterIndex.calls (a0:Int) (r:Int) (w:World) (h:impl_LetterIndex.f a0=some r) :
  Calls Tryz.prog 124 #[.int .u8 a0] w fun e w'=>e = .returned (.int .i64 r)∧Drawn0 w w':=by
 have H:((strings_IndexByte.f (⟨#[97,98,99]⟩:ByteArray) a0).bind fun t124001=>(some t124001))=some r:=h
 clear h
 replace H:=zo H
 obtain ⟨t124001,A20,H⟩:=H
 replace H:(some t124001)=some r:=H
 have A2:=zk A20
 clear A20
 obtain rfl:=zi H
 go_enter Tryz.func124,Tryz.ntmps124
 go_wp2_with (first|((with_reducible refine gate_callee (f:=75) rfl ?_);refine goesL_ (some 4) rfl rfl Tryz.func75 (by kernel_rfl) rfl #[.string (⟨#[97,98,99]⟩:ByteArray),.int .u8 a0] rfl za5 ?_;(with_reducible refine (strings_IndexByte.calls (⟨#[97,98,99]⟩:ByteArray) a0 t124001 _ A2.out).mono ?_);rintro e w' ⟨rfl,⟨nd,rfl⟩⟩;refine ⟨_,rfl,?_⟩))
 go_ret
 exact ⟨za8,za11⟩
def impl_isLetters.l0:Nat→ByteArray→Int→Option (Bool)
 | 0,_,_=>none
 | k+1,x0,x3=>if x3 < (x0.size:Int) then (if 0≤x3 then ((impl_LetterIndex.f (bt x0 x3)).bind fun t102001=>(if t102001 < 0 then (some false) else (impl_isLetters.l0 k x0 (wrap64 (x3+1))))) else (none)) else (some true)
def impl_isLetters.f (k:Nat) (a0:ByteArray):Option (Bool):=impl_isLetters.l0 k a0 0
theorem impl_isLetters.mono_l:∀ k,(∀ y0 y1,LeO (impl_isLetters.l0 k y0 y1) (impl_isLetters.l0 (k+1) y0 y1))
 | 0=>fun _ _ r h=>by simp [impl_isLetters.l0] at h
 | k+1=>by
  have ih0:=impl_isLetters.mono_l k
  ·intro y0 y1
   unfold impl_isLetters.l0
   repeat' first
   | with_reducible first|exact ih0 _ _|exact LeO.refl _|exact LeO.none _|refine LeO.ite ?_ ?_|refine LeO.bind ?_ (fun _=>?_)
theorem impl_isLetters.mono:∀ a0 k,LeO (impl_isLetters.f k a0) (impl_isLetters.f (k+1) a0):=by
 intro a0 k
 have ih0:=impl_isLetters.mono_l k
 unfold impl_isLetters.f
 repeat' first
  | with_reducible first|exact ih0 _ _|exact LeO.refl _|exact LeO.none _|refine LeO.ite ?_ ?_|refine LeO.bind ?_ (fun _=>?_)
theorem impl_isLetters.calls (k:Nat) (a0:ByteArray) (r:Bool) (w:World) (h:impl_isLetters.f k a0=some r) :
   Calls Tryz.prog 102 #[.string a0] w fun e w'=>e = .returned (.bool r)∧Drawn0 w w':=by
 have H:(impl_isLetters.l0 k a0 0)=some r:=h
 clear h
 have H':=zk H
 clear H
 go_enter Tryz.func102,Tryz.ntmps102
 go_wp2
 first|go_loopg [3] k (fun kq v3 w'=>∃ (x3_1:Int),v3 = .int .i64 x3_1∧Aside0 (impl_isLetters.l0 kq a0 x3_1=some r)∧Aside0 (kq≤k)∧Drawn0 w w')|(simp only [Act.put,zt,zv,zu];go_loopg [3] k (fun kq v3 w'=>∃ (x3_1:Int),v3 = .int .i64 x3_1∧Aside0 (impl_isLetters.l0 kq a0 x3_1=some r)∧Aside0 (kq≤k)∧Drawn0 w w'))
 case atStart=>exact ⟨(0),za8,H',⟨Nat.le_refl _⟩,za11⟩
 case round =>
  clear H'
  obtain ⟨x3_1,rfl,HA,HK1,⟨m1,rfl⟩⟩:=hrel
  cases gk with
  | zero=>exact absurd HA.out (by simp [impl_isLetters.l0])
  | succ k1 =>
   have H:=HA.out
   clear HA
   simp only [impl_isLetters.l0] at H
   by_cases c2:x3_1 < (a0.size:Int)
   rw [if_pos c2] at H
   have c2b0:decide (x3_1 < (a0.size:Int))=true:=decide_eq_true c2
   clear c2
   by_cases c3:0≤x3_1
   rw [if_pos c3] at H
   have c3b0:decide (0≤x3_1)=true:=decide_eq_true c3
   clear c3
   replace H:=zo H
   obtain ⟨t102001,A50,H⟩:=H
   replace H:(if t102001 < 0 then (some false) else (impl_isLetters.l0 k1 a0 (wrap64 (x3_1+1))))=some r:=H
   have A5:=zk A50
   clear A50
   by_cases c6:t102001 < 0
   rw [if_pos c6] at H
   have c6b0:decide (t102001 < 0)=true:=decide_eq_true c6
   clear c6
   obtain rfl:=zi H
   have fin0_:=zk trivial
   rotate_left
   rw [if_neg c6] at H
   have c6b0:decide (t102001 < 0)=false:=decide_eq_false c6
   clear c6
   have H':=zk H
   clear H
   have fin1_:=zk trivial
   rotate_left
   · rw [if_neg c3] at H
     exact absurd H (by simp)
   · rw [if_neg c2] at H
     have c2b0:decide (x3_1 < (a0.size:Int))=false:=decide_eq_false c2
     clear c2
     obtain rfl:=zi H
     go_wp2
     go_ret
     exact ⟨za8,za11⟩
   all_goals
    have p4:0≤(x3_1:Int):=of_decide_eq_true za9
    have q4:x3_1 < (a0.size:Int):=of_decide_eq_true za9
    have hx4:=bt_at a0 x3_1
    replace p4:=eq_true p4
    replace q4:=eq_true q4
    go_wp2_with (((with_reducible refine gate_callee (f:=124) rfl ?_);refine goesL_ (some 13) rfl rfl Tryz.func124 (by kernel_rfl) rfl #[.int .u8 (bt a0 x3_1)] rfl za5 ?_;(with_reducible refine (impl_LetterIndex.calls (bt a0 x3_1) t102001 _ A5.out).mono ?_);rintro e w' ⟨rfl,⟨nd,rfl⟩⟩;refine ⟨_,rfl,?_⟩))
    first
    | (
      clear fin0_
      go_ret
      exact ⟨za8,za11⟩)
    | (
      clear fin1_
      go_roundg k1
      case measure=>have:=HK1.out;omega
      case rel=>exact ⟨(wrap64 (x3_1+1)),za8,H',⟨za17⟩,za11⟩)
def impl_IsWord.f (k:Nat) (a0:ByteArray):Option (Bool):=if (a0.size:Int)≤30 then ((impl_isLetters.f k a0).bind fun t74001=>(some t74001)) else (some false)
theorem impl_IsWord.mono:∀ a0 k,LeO (impl_IsWord.f k a0) (impl_IsWord.f (k+1) a0):=by
 intro a0 k
 unfold impl_IsWord.f
 repeat' first
  | with_reducible first|exact impl_isLetters.mono _ _|exact LeO.refl _|exact LeO.none _|refine LeO.ite ?_ ?_|refine LeO.bind ?_ (fun _=>?_)
theorem impl_IsWord.calls (k:Nat) (a0:ByteArray) (r:Bool) (w:World) (h:impl_IsWord.f k a0=some r) :
   Calls Tryz.prog 74 #[.string a0] w fun e w'=>e = .returned (.bool r)∧Drawn0 w w':=by
 have H:(if (a0.size:Int)≤30 then ((impl_isLetters.f k a0).bind fun t74001=>(some t74001)) else (some false))=some r:=h
 clear h
 by_cases c2:(a0.size:Int)≤30
 rw [if_pos c2] at H
 have c2b0:decide ((a0.size:Int)≤30)=true:=decide_eq_true c2
 have c2b1:decide (a0.size≤30)=true:=decide_eq_true (by omega)
 clear c2
 replace H:=zo H
 obtain ⟨t74001,A30,H⟩:=H
 replace H:(some t74001)=some r:=H
 have A3:=zk A30
 clear A30
 rotate_left
 rw [if_neg c2] at H
 have c2b0:decide ((a0.size:Int)≤30)=false:=decide_eq_false c2
 have c2b1:decide (a0.size≤30)=false:=decide_eq_false (by omega)
 clear c2
 rotate_left
 all_goals
  obtain rfl:=zi H
  go_enter Tryz.func74,Tryz.ntmps74
  go_wp2_with ((go_at_call 102;(with_reducible refine (impl_isLetters.calls k a0 t74001 _ A3.out).mono ?_);rintro e w' ⟨rfl,⟨nd,rfl⟩⟩))
  go_ret
  exact ⟨za8,za11⟩
mutual
def impl_WordsOfLength.l0:Nat→List ByteArray→Int→Int→Option (List ByteArray)
 | 0,_,_,_=>none
 | k+1,x3,x12,x13=>if x13 < x12 then (impl_WordsOfLength.l1 k (([]:List ByteArray)) x12 x13 x3 (x3.length:Int) 0) else (some x3)
def impl_WordsOfLength.l1:Nat→List ByteArray→Int→Int→List ByteArray→Int→Int→Option (List ByteArray)
 | 0,_,_,_,_,_,_=>none
 | k+1,x4,x12,x13,x16,x17,x18=>if x18 < x17 then (if 0≤x18 then (if x18 < (x16.length:Int) then (impl_WordsOfLength.l2 k x4 (rdOf ByteArray.empty x16 x18) x12 x13 x16 x17 x18 0) else (none)) else (none)) else (impl_WordsOfLength.l0 k x4 x12 (wrap64 (x13+1)))
def impl_WordsOfLength.l2:Nat→List ByteArray→ByteArray→Int→Int→List ByteArray→Int→Int→Int→Option (List ByteArray)
 | 0,_,_,_,_,_,_,_,_=>none
 | k+1,x4,x6,x12,x13,x16,x17,x18,x22=>if x22 < 3 then (if 0≤x22 then (if x22≤(wrap64 (x22+1)) then (if (wrap64 (x22+1))≤3 then (if x6.size+((⟨#[97,98,99]⟩:ByteArray).extract (x22:Int).toNat ((wrap64 (x22+1)):Int).toNat).size≤9223372036854775807 then (if x4.length < 8796093022208 then (impl_WordsOfLength.l2 k (x4 ++ [x6 ++ ((⟨#[97,98,99]⟩:ByteArray).extract (x22:Int).toNat ((wrap64 (x22+1)):Int).toNat)]) x6 x12 x13 x16 x17 x18 (wrap64 (x22+1))) else (none)) else (none)) else (none)) else (none)) else (none)) else (impl_WordsOfLength.l1 k x4 x12 x13 x16 x17 (wrap64 (x18+1)))
end
def impl_WordsOfLength.f (k:Nat) (a0:Int):Option (List ByteArray):=(impl_within.f a0 0 5).bind fun t68001=>(if t68001=true then (impl_WordsOfLength.l0 k (([(⟨#[]⟩:ByteArray)]:List ByteArray)) a0 0) else (some ([]:List ByteArray)))
theorem impl_WordsOfLength.mono_l:∀ k,(∀ y0 y1 y2,LeO (impl_WordsOfLength.l0 k y0 y1 y2) (impl_WordsOfLength.l0 (k+1) y0 y1 y2))∧(∀ y0 y1 y2 y3 y4 y5,LeO (impl_WordsOfLength.l1 k y0 y1 y2 y3 y4 y5) (impl_WordsOfLength.l1 (k+1) y0 y1 y2 y3 y4 y5))∧(∀ y0 y1 y2 y3 y4 y5 y6 y7,LeO (impl_WordsOfLength.l2 k y0 y1 y2 y3 y4 y5 y6 y7) (impl_WordsOfLength.l2 (k+1) y0 y1 y2 y3 y4 y5 y6 y7))
 | 0=>⟨fun _ _ _ r h=>by simp [impl_WordsOfLength.l0] at h,fun _ _ _ _ _ _ r h=>by simp [impl_WordsOfLength.l1] at h,fun _ _ _ _ _ _ _ _ r h=>by simp [impl_WordsOfLength.l2] at h⟩
 | k+1=>by
  obtain ⟨ih0,ih1,ih2⟩:=impl_WordsOfLength.mono_l k
  refine ⟨?_,?_,?_⟩
  ·intro y0 y1 y2
   unfold impl_WordsOfLength.l0
   repeat' first
   | with_reducible first|exact ih0 _ _ _|exact ih1 _ _ _ _ _ _|exact ih2 _ _ _ _ _ _ _ _|exact LeO.refl _|exact LeO.none _|refine LeO.ite ?_ ?_|refine LeO.bind ?_ (fun _=>?_)
  ·intro y0 y1 y2 y3 y4 y5
   unfold impl_WordsOfLength.l1
   repeat' first
   | with_reducible first|exact ih0 _ _ _|exact ih1 _ _ _ _ _ _|exact ih2 _ _ _ _ _ _ _ _|exact LeO.refl _|exact LeO.none _|refine LeO.ite ?_ ?_|refine LeO.bind ?_ (fun _=>?_)
  ·intro y0 y1 y2 y3 y4 y5 y6 y7
   unfold impl_WordsOfLength.l2
   repeat' first
   | with_reducible first|exact ih0 _ _ _|exact ih1 _ _ _ _ _ _|exact ih2 _ _ _ _ _ _ _ _|exact LeO.refl _|exact LeO.none _|refine LeO.ite ?_ ?_|refine LeO.bind ?_ (fun _=>?_)
theorem impl_WordsOfLength.mono:∀ a0 k,LeO (impl_WordsOfLength.f k a0) (impl_WordsOfLength.f (k+1) a0):=by
 intro a0 k
 obtain ⟨ih0,ih1,ih2⟩:=impl_WordsOfLength.mono_l k
 unfold impl_WordsOfLength.f
 repeat' first
  | with_reducible first|exact ih0 _ _ _|exact ih1 _ _ _ _ _ _|exact ih2 _ _ _ _ _ _ _ _|exact LeO.refl _|exact LeO.none _|refine LeO.ite ?_ ?_|refine LeO.bind ?_ (fun _=>?_)
theorem impl_WordsOfLength.calls (k:Nat) (a0:Int) (r:List ByteArray) (w:World) (h:impl_WordsOfLength.f k a0=some r) :
  Calls Tryz.prog 68 #[.int .i64 a0] w fun e w'=>∃ v0_:Value,e = .returned (v0_)∧Kd.R Kd.string 9 w' w.heap.size (fun _=>True) v0_ r∧Below w.heap.size w w':=by
 have HB:=zk (Below.refl w.heap.size w)
 have H:((impl_within.f a0 0 5).bind fun t68001=>(if t68001=true then (impl_WordsOfLength.l0 k (([(⟨#[]⟩:ByteArray)]:List ByteArray)) a0 0) else (some ([]:List ByteArray))))=some r:=h
 clear h
 replace H:=zo H
 obtain ⟨t68001,A20,H⟩:=H
 replace H:(if t68001=true then (impl_WordsOfLength.l0 k (([(⟨#[]⟩:ByteArray)]:List ByteArray)) a0 0) else (some ([]:List ByteArray)))=some r:=H
 have A2:=zk A20
 clear A20
 by_cases c3:t68001=true
 ·subst c3
  have H1:(impl_WordsOfLength.l0 k (([(⟨#[]⟩:ByteArray)]:List ByteArray)) a0 0)=some r:=by rw [if_pos rfl] at H;exact H
  clear H
  have H:=H1
  clear H1
  obtain ⟨y68002,hy68002⟩:∃ y_:List ByteArray,y_=(([(⟨#[]⟩:ByteArray)]:List ByteArray)):=⟨_,rfl⟩
  replace H:(impl_WordsOfLength.l0 k y68002 a0 0)=some r:=by first|(rw [hy68002];with_reducible exact H)|(have H2_:=(Option.bind_some _ _).symm.trans H;rw [hy68002];with_reducible exact H2_)|(have H2_:=(Option.bind_some _ _).symm.trans H;with_reducible exact H2_)|with_reducible exact H|(rw [hy68002];exact H)|exact H
  have Ny68002:=zk hy68002
  clear hy68002
  have H':=zk H
  clear H
  go_enter Tryz.func68,Tryz.ntmps68
  go_wp2_with (first|((with_reducible refine gate_callee (f:=94) rfl ?_);refine goesL_ (some 9) rfl rfl Tryz.func94 (by kernel_rfl) rfl #[.int .i64 a0,.int .i64 0,.int .i64 5] rfl za5 ?_;(with_reducible refine (impl_within.calls a0 0 5 _ _ A2.out).mono ?_);rintro e w' ⟨rfl,⟨nd,rfl⟩⟩;refine ⟨_,rfl,?_⟩)|((with_reducible refine gate_dst (N:=11) rfl ?_);refine Kd.R_lit Kd.string _ 9 ?hg (N:=11) ?hd (xs:=([(⟨#[]⟩:ByteArray)]:List ByteArray)) (inner:=[.string (⟨#[]⟩:ByteArray)]) (ok:=fun _=>True) (okp:=fun _=>True) ?hr ?hp (fun _ hk=>hk) trivial (Below.refl _ _) (Nat.le_refl _) (by simp) ?_;(case hd=>rfl);(case hg=>rfl);(case hr=>first|(go_simp;done)|(go_simp;rfl));(case hp=>exact (Reps.one (show Kd.M Kd.string _ _ _ (⟨#[]⟩:ByteArray) [.string (⟨#[]⟩:ByteArray)] from rfl) (Reps.none _ _)));intro v68003 w4 ho5 hb hg_ hnew_;clear hg_ hnew_;(first|rw [← Ny68002.out] at ho5|(simp only [Int.reduceToNat] at ho5;rw [← Ny68002.out] at ho5));have n0_:=zk (Kd.R_lower ho5 (below_size za4));have n1_:=zk (below_step za4 hb);clear HB;have HO68004:=n0_;have HB:=n1_;clear n0_ n1_;clear hb ho5))
  first|go_loopg [3,13] k (fun kq v3 v13 w'=>∃ (x3_1:List ByteArray) (x13_1:Int),v13 = .int .i64 x13_1∧Aside0 (impl_WordsOfLength.l0 kq x3_1 a0 x13_1=some r)∧Aside0 (kq≤k)∧Aside0 (Kd.R Kd.string 9 w' w.heap.size (fun _=>True) v3 x3_1)∧Aside0 (Below w.heap.size w w'))|(simp only [Act.put,zt,zv,zu];go_loopg [3,13] k (fun kq v3 v13 w'=>∃ (x3_1:List ByteArray) (x13_1:Int),v13 = .int .i64 x13_1∧Aside0 (impl_WordsOfLength.l0 kq x3_1 a0 x13_1=some r)∧Aside0 (kq≤k)∧Aside0 (Kd.R Kd.string 9 w' w.heap.size (fun _=>True) v3 x3_1)∧Aside0 (Below w.heap.size w w')))
  case atStart=>exact ⟨(y68002),(0),za8,H',⟨Nat.le_refl _⟩,⟨za1 HO68004.out⟩,⟨za4⟩⟩
  case round =>
   clear H'
   try clear c3
   obtain ⟨x3_1,x13_1,rfl,HA,HK1,HO_3,HB⟩:=hrel
   cases gk with
   | zero=>exact absurd HA.out (by simp [impl_WordsOfLength.l0])
   | succ k1 =>
    have H:=HA.out
    clear HA
    simp only [impl_WordsOfLength.l0] at H
    by_cases c6:x13_1 < a0
    ·rw [if_pos c6] at H
     have c6b0:decide (x13_1 < a0)=true:=decide_eq_true c6
     clear c6
     obtain ⟨y68005,hy68005⟩:∃ y_:List ByteArray,y_=(([]:List ByteArray)):=⟨_,rfl⟩
     replace H:(impl_WordsOfLength.l1 k1 y68005 a0 x13_1 x3_1 (x3_1.length:Int) 0)=some r:=by first|(rw [hy68005];with_reducible exact H)|(have H2_:=(Option.bind_some _ _).symm.trans H;rw [hy68005];with_reducible exact H2_)|(have H2_:=(Option.bind_some _ _).symm.trans H;with_reducible exact H2_)|with_reducible exact H|(rw [hy68005];exact H)|exact H
     have Ny68005:=zk hy68005
     clear hy68005
     have H':=zk H
     clear H
     go_wp2_with (first|((with_reducible refine gate_dst (N:=15) rfl ?_);refine Kd.R_lit Kd.string _ 9 ?hg (N:=15) ?hd (xs:=([]:List ByteArray)) (inner:=[]) (ok:=fun _=>True) (okp:=fun _=>True) ?hr ?hp (fun _ hk=>hk) trivial (Below.refl _ _) (Nat.le_refl _) (by simp) ?_;(case hd=>rfl);(case hg=>rfl);(case hr=>first|(go_simp;done)|(go_simp;rfl));(case hp=>exact (Reps.none _ _));intro v68006 w7 ho8 hb hg_ hnew_;clear hg_ hnew_;(first|rw [← Ny68005.out] at ho8|(simp only [Int.reduceToNat] at ho8;rw [← Ny68005.out] at ho8));have n0_:=zk (Kd.R_elder' (za1 HO_3.out) (Kd.R_base ho8) hb);have n1_:=zk (Kd.R_lower (Kd.R_new' ho8 (Kd.R_lt (za1 HO_3.out))) (below_size za4));have n2_:=zk (below_step za4 hb);clear HO_3;clear HB;have HO_3:=n0_;have HO68007:=n1_;have HB:=n2_;clear n0_ n1_ n2_;clear hb ho8;obtain ⟨Ao9,co9,eo9⟩:=Kd.R_slice HO_3.out;subst eo9))
     first|go_loopg [4,18] k1 (fun kq v4 v18 w'=>∃ (x4_2:List ByteArray) (x18_2:Int),v18 = .int .i64 x18_2∧Aside0 (impl_WordsOfLength.l1 kq x4_2 a0 x13_1 x3_1 (x3_1.length:Int) x18_2=some r)∧Aside0 (kq≤k1)∧Aside0 (Kd.R Kd.string 9 w' w.heap.size (fun k_=>some k_ ≠ ((.slice Ao9 x3_1.length co9):Value).ownBlock) v4 x4_2)∧Aside0 (Kd.R Kd.string 9 w' w.heap.size (fun k_=>some k_ ≠ (v4:Value).ownBlock) (.slice Ao9 x3_1.length co9) x3_1)∧Aside0 (Below w.heap.size w w'))|(simp only [Act.put,zt,zv,zu];go_loopg [4,18] k1 (fun kq v4 v18 w'=>∃ (x4_2:List ByteArray) (x18_2:Int),v18 = .int .i64 x18_2∧Aside0 (impl_WordsOfLength.l1 kq x4_2 a0 x13_1 x3_1 (x3_1.length:Int) x18_2=some r)∧Aside0 (kq≤k1)∧Aside0 (Kd.R Kd.string 9 w' w.heap.size (fun k_=>some k_ ≠ ((.slice Ao9 x3_1.length co9):Value).ownBlock) v4 x4_2)∧Aside0 (Kd.R Kd.string 9 w' w.heap.size (fun k_=>some k_ ≠ (v4:Value).ownBlock) (.slice Ao9 x3_1.length co9) x3_1)∧Aside0 (Below w.heap.size w w')))
     case atStart=>exact ⟨(y68005),(0),za8,H',⟨Nat.le_refl _⟩,⟨by (with_reducible repeat (first|apply Kd.R_alloc|apply Kd.R_drewN|apply Kd.R_drew));exact Kd.R_mono HO68007.out (fun _ hk=>hk.2)⟩,⟨za30⟩,⟨za4⟩⟩
     case round =>
      clear H'
      try clear c3
      try clear c6
      try clear c6b0
      obtain ⟨x4_2,x18_2,rfl,HA,HK2,HO_4,HO_16,HB⟩:=hrel
      cases gk with
      | zero=>exact absurd HA.out (by simp [impl_WordsOfLength.l1])
      | succ k2 =>
       have H:=HA.out
       clear HA
       simp only [impl_WordsOfLength.l1] at H
       by_cases c10:x18_2 < (x3_1.length:Int)
       rw [if_pos c10] at H
       have c10b0:decide (x18_2 < (x3_1.length:Int))=true:=decide_eq_true c10
       clear c10
       by_cases c11:0≤x18_2
       rw [if_pos c11] at H
       have c11b0:decide (0≤x18_2)=true:=decide_eq_true c11
       clear c11
       by_cases c12:x18_2 < (x3_1.length:Int)
       ·rw [if_pos c12] at H
        have c12b0:decide (x18_2 < (x3_1.length:Int))=true:=decide_eq_true c12
        clear c12
        have H':=zk H
        clear H
        have p68008:0≤(x18_2:Int):=of_decide_eq_true za9
        have q68008:x18_2 < (x3_1.length:Int):=of_decide_eq_true za9
        obtain ⟨ad68008,e68008,hx68008_0⟩:=Kd.at_string (Kd.R_reads' HO_16.out).2.2 x18_2 p68008 q68008
        cases e68008
        replace p68008:=eq_true p68008
        replace q68008:=eq_true q68008
        go_wp2
        first|go_loopg [4,22] k2 (fun kq v4 v22 w'=>∃ (x4_3:List ByteArray) (x22_3:Int),v22 = .int .i64 x22_3∧Aside0 (impl_WordsOfLength.l2 kq x4_3 (rdOf ByteArray.empty x3_1 x18_2) a0 x13_1 x3_1 (x3_1.length:Int) x18_2 x22_3=some r)∧Aside0 (kq≤k2)∧Aside0 (Kd.R Kd.string 9 w' w.heap.size (fun k_=>some k_ ≠ ((.slice (some ad68008) x3_1.length co9):Value).ownBlock) v4 x4_3)∧Aside0 (Kd.R Kd.string 9 w' w.heap.size (fun k_=>some k_ ≠ (v4:Value).ownBlock) (.slice (some ad68008) x3_1.length co9) x3_1)∧Aside0 (Below w.heap.size w w'))|(simp only [Act.put,zt,zv,zu];go_loopg [4,22] k2 (fun kq v4 v22 w'=>∃ (x4_3:List ByteArray) (x22_3:Int),v22 = .int .i64 x22_3∧Aside0 (impl_WordsOfLength.l2 kq x4_3 (rdOf ByteArray.empty x3_1 x18_2) a0 x13_1 x3_1 (x3_1.length:Int) x18_2 x22_3=some r)∧Aside0 (kq≤k2)∧Aside0 (Kd.R Kd.string 9 w' w.heap.size (fun k_=>some k_ ≠ ((.slice (some ad68008) x3_1.length co9):Value).ownBlock) v4 x4_3)∧Aside0 (Kd.R Kd.string 9 w' w.heap.size (fun k_=>some k_ ≠ (v4:Value).ownBlock) (.slice (some ad68008) x3_1.length co9) x3_1)∧Aside0 (Below w.heap.size w w')))
        case atStart=>exact ⟨(x4_2),(0),za8,H',⟨Nat.le_refl _⟩,⟨za1 HO_4.out⟩,⟨za1 HO_16.out⟩,⟨za4⟩⟩
        case round =>
         clear H'
         try clear c3
         try clear c6
         try clear c6b0
         try clear c12
         try clear c12b0
         try clear hx68008_0
         try clear p68008
         try clear q68008
         obtain ⟨x4_3,x22_3,rfl,HA,HK3,HO_4,HO_16,HB⟩:=hrel
         cases gk with
         | zero=>exact absurd HA.out (by simp [impl_WordsOfLength.l2])
         | succ k3 =>
          have H:=HA.out
          clear HA
          simp only [impl_WordsOfLength.l2] at H
          by_cases c13:x22_3 < 3
          rw [if_pos c13] at H
          have c13b0:decide (x22_3 < 3)=true:=decide_eq_true c13
          clear c13
          by_cases c14:0≤x22_3
          rw [if_pos c14] at H
          have c14b0:=eq_true c14
          have c14b1:decide (0≤x22_3)=true:=decide_eq_true c14
          clear c14
          by_cases c15:x22_3≤(wrap64 (x22_3+1))
          rw [if_pos c15] at H
          have c15b0:=eq_true c15
          have c15b1:decide (x22_3≤(wrap64 (x22_3+1)))=true:=decide_eq_true c15
          by_cases c16:(wrap64 (x22_3+1))≤3
          rw [if_pos c16] at H
          have c16b0:=eq_true c16
          have c16b1:decide ((wrap64 (x22_3+1))≤3)=true:=decide_eq_true c16
          by_cases c17:(rdOf ByteArray.empty x3_1 x18_2).size+((⟨#[97,98,99]⟩:ByteArray).extract (x22_3:Int).toNat ((wrap64 (x22_3+1)):Int).toNat).size≤9223372036854775807
          rw [if_pos c17] at H
          have c17z:=c17
          try simp at c17z
          try replace c17z:=eq_false (Nat.not_lt.2 c17z)
          have c17b0:=eq_true c17
          have c17b1:decide ((rdOf ByteArray.empty x3_1 x18_2).size+((⟨#[97,98,99]⟩:ByteArray).extract (x22_3:Int).toNat ((wrap64 (x22_3+1)):Int).toNat).size≤9223372036854775807)=true:=decide_eq_true c17
          try have c17b2:(9223372036854775807 < (rdOf ByteArray.empty x3_1 x18_2).size+((⟨#[97,98,99]⟩:ByteArray).extract (x22_3:Int).toNat ((wrap64 (x22_3+1)):Int).toNat).size)=False:=eq_false (Nat.not_lt.2 c17)
          by_cases c18:x4_3.length < 8796093022208
          ·rw [if_pos c18] at H
           have LMc18:=zk c18
           clear c18
           obtain ⟨y68009,hy68009⟩:∃ y_:List ByteArray,y_=(x4_3 ++ [(rdOf ByteArray.empty x3_1 x18_2) ++ ((⟨#[97,98,99]⟩:ByteArray).extract (x22_3:Int).toNat ((wrap64 (x22_3+1)):Int).toNat)]):=⟨_,rfl⟩
           replace H:(impl_WordsOfLength.l2 k3 y68009 (rdOf ByteArray.empty x3_1 x18_2) a0 x13_1 x3_1 (x3_1.length:Int) x18_2 (wrap64 (x22_3+1)))=some r:=by first|(rw [hy68009];with_reducible exact H)|(have H2_:=(Option.bind_some _ _).symm.trans H;rw [hy68009];with_reducible exact H2_)|(have H2_:=(Option.bind_some _ _).symm.trans H;with_reducible exact H2_)|with_reducible exact H|(rw [hy68009];exact H)|exact H
           have Ny68009:=zk hy68009
           clear hy68009
           have H':=zk H
           clear H
           go_wp2_with (first|((with_reducible refine gate_builtin (b:=.append) (xs:=#[.tmp 25,.tmp 32]) rfl ?_);at_builtin;refine Kd.R_append Kd.string (w0:=w) w.heap.size rfl (.tmp 25) (.tmp 32) 53 9 (.string ⟨#[]⟩) 16 rfl Tryz.underlying53 info9 rfl (by decide) (by omega) u4 x4_3 ((rdOf ByteArray.empty x3_1 x18_2) ++ ((⟨#[97,98,99]⟩:ByteArray).extract (x22_3:Int).toNat ((wrap64 (x22_3+1)):Int).toNat)) [.string ((rdOf ByteArray.empty x3_1 x18_2) ++ ((⟨#[97,98,99]⟩:ByteArray).extract (x22_3:Int).toNat ((wrap64 (x22_3+1)):Int).toNat))] (fun k_=>some k_ ≠ (.slice (some ad68008) x3_1.length co9:Value).ownBlock) (fun _=>False) rfl rfl ?aP (fun _ hk=>hk.elim) ?aF ?aO ?aB ?aS ?aL ?_;(case aP=>exact rfl);(case aB=>exact za4);(case aF=>exact (fun k_ hk=>Kd.fresh' (Kd.R_lt (za1 HO_16.out)) k_ hk));(case aO=>exact (za1 HO_4.out));(case aS=>exact (below_size za4));(case aL=>have:=LMc18.out;omega);intro v68010 w19 ho hb hg hat;rw [← Ny68009.out] at ho;have n0_:=zk (Kd.R_after (ok:=(fun _=>True)) (by (with_reducible repeat (first|apply Kd.R_alloc|apply Kd.R_drewN|apply Kd.R_drew));exact Kd.R_mono HO_16.out (fun _ hk=>⟨trivial,hk⟩)) hg hat);have n1_:=zk (hb);have n2_:=zk (ho);clear HO_16;clear HB;clear HO_4;have HO_16:=n0_;have HB:=n1_;have HO68011:=n2_;clear n0_ n1_ n2_;clear ho hb hg hat))
           go_roundg k3
           case measure=>have:=HK1.out;have:=HK2.out;have:=HK3.out;omega
           case rel=>exact ⟨(y68009),(wrap64 (x22_3+1)),za8,H',⟨za46⟩,⟨za1 HO68011.out⟩,⟨by (with_reducible repeat (first|apply Kd.R_alloc|apply Kd.R_drewN|apply Kd.R_drew));exact Kd.R_mono HO_16.out (fun _ hk=>hk.2)⟩,⟨za4⟩⟩
          ·rw [if_neg c18] at H
           exact absurd H (by simp)
          ·rw [if_neg c17] at H
           exact absurd H (by simp)
          ·rw [if_neg c16] at H
           exact absurd H (by simp)
          ·rw [if_neg c15] at H
           exact absurd H (by simp)
          ·rw [if_neg c14] at H
           exact absurd H (by simp)
          ·rw [if_neg c13] at H
           have c13b0:decide (x22_3 < 3)=false:=decide_eq_false c13
           clear c13
           have H':=zk H
           clear H
           go_wp2
           go_roundg k3
           case measure=>have:=HK1.out;have:=HK2.out;have:=HK3.out;omega
           case rel=>exact ⟨(x4_3),(wrap64 (x18_2+1)),za8,H',⟨za46⟩,⟨za1 HO_4.out⟩,⟨za1 HO_16.out⟩,⟨za4⟩⟩
       ·rw [if_neg c12] at H
        exact absurd H (by simp)
       ·rw [if_neg c11] at H
        exact absurd H (by simp)
       ·rw [if_neg c10] at H
        have c10b0:decide (x18_2 < (x3_1.length:Int))=false:=decide_eq_false c10
        clear c10
        have H':=zk H
        clear H
        go_wp2
        go_roundg k2
        case measure=>have:=HK1.out;have:=HK2.out;omega
        case rel=>exact ⟨(x4_2),(wrap64 (x13_1+1)),za8,H',⟨by have:=HK1.out;have:=HK2.out;omega⟩,⟨by (with_reducible repeat (first|apply Kd.R_alloc|apply Kd.R_drewN|apply Kd.R_drew));exact Kd.R_mono HO_4.out (fun _ hk=>trivial)⟩,⟨za4⟩⟩
    ·rw [if_neg c6] at H
     have c6b0:decide (x13_1 < a0)=false:=decide_eq_false c6
     clear c6
     obtain rfl:=zi H
     go_wp2
     go_ret
     exact ⟨_,za7,za1 HO_3.out,za4⟩
 ·replace c3:=Bool.eq_false_iff.mpr c3
  subst c3
  have H1:(some ([]:List ByteArray))=some r:=by rw [if_neg (show ¬ (false=true) by decide)] at H;exact H
  clear H
  have H:=H1
  clear H1
  obtain rfl:=zi H
  go_enter Tryz.func68,Tryz.ntmps68
  go_wp2_with (first|((with_reducible refine gate_callee (f:=94) rfl ?_);refine goesL_ (some 9) rfl rfl Tryz.func94 (by kernel_rfl) rfl #[.int .i64 a0,.int .i64 0,.int .i64 5] rfl za5 ?_;(with_reducible refine (impl_within.calls a0 0 5 _ _ A2.out).mono ?_);rintro e w' ⟨rfl,⟨nd,rfl⟩⟩;refine ⟨_,rfl,?_⟩))
  go_ret
  exact ⟨_,za7,za52,za4⟩
def impl_WordsUpTo.l0:Nat→Int→List ByteArray→Int→Option (List ByteArray)
 | 0,_,_,_=>none
 | k+1,x0,x3,x4=>if x4≤(mn x0 5) then ((impl_WordsOfLength.f k x4).bind fun t32004=>(if x3.length+t32004.length < 8796093022208 then (impl_WordsUpTo.l0 k x0 (x3 ++ t32004) (wrap64 (x4+1))) else (none))) else (some x3)
def impl_WordsUpTo.f (k:Nat) (a0:Int):Option (List ByteArray):=if a0 < 0 then (some ([]:List ByteArray)) else (impl_WordsUpTo.l0 k a0 (([]:List ByteArray)) 0)
theorem impl_WordsUpTo.mono_l:∀ k,(∀ y0 y1 y2,LeO (impl_WordsUpTo.l0 k y0 y1 y2) (impl_WordsUpTo.l0 (k+1) y0 y1 y2))
 | 0=>fun _ _ _ r h=>by simp [impl_WordsUpTo.l0] at h
 | k+1=>by
  have ih0:=impl_WordsUpTo.mono_l k
  ·intro y0 y1 y2
   unfold impl_WordsUpTo.l0
   repeat' first
   | with_reducible first|exact ih0 _ _ _|exact impl_WordsOfLength.mono _ _|exact LeO.refl _|exact LeO.none _|refine LeO.ite ?_ ?_|refine LeO.bind ?_ (fun _=>?_)
theorem impl_WordsUpTo.mono:∀ a0 k,LeO (impl_WordsUpTo.f k a0) (impl_WordsUpTo.f (k+1) a0):=by
 intro a0 k
 have ih0:=impl_WordsUpTo.mono_l k
 unfold impl_WordsUpTo.f
 repeat' first
  | with_reducible first|exact ih0 _ _ _|exact impl_WordsOfLength.mono _ _|exact LeO.refl _|exact LeO.none _|refine LeO.ite ?_ ?_|refine LeO.bind ?_ (fun _=>?_)
theorem impl_WordsUpTo.calls (k:Nat) (a0:Int) (r:List ByteArray) (w:World) (h:impl_WordsUpTo.f k a0=some r) :
  Calls Tryz.prog 32 #[.int .i64 a0] w fun e w'=>∃ v0_:Value,e = .returned (v0_)∧Kd.R Kd.string 9 w' w.heap.size (fun _=>True) v0_ r∧Below w.heap.size w w':=by
 have HB:=zk (Below.refl w.heap.size w)
 have H:(if a0 < 0 then (some ([]:List ByteArray)) else (impl_WordsUpTo.l0 k a0 (([]:List ByteArray)) 0))=some r:=h
 clear h
 by_cases c2:a0 < 0
 ·rw [if_pos c2] at H
  have c2b0:decide (a0 < 0)=true:=decide_eq_true c2
  clear c2
  obtain rfl:=zi H
  go_enter Tryz.func32,Tryz.ntmps32
  go_wp2
  go_ret
  exact ⟨_,za7,za52,za4⟩
 ·rw [if_neg c2] at H
  have c2b0:decide (a0 < 0)=false:=decide_eq_false c2
  clear c2
  obtain ⟨y32001,hy32001⟩:∃ y_:List ByteArray,y_=(([]:List ByteArray)):=⟨_,rfl⟩
  replace H:(impl_WordsUpTo.l0 k a0 y32001 0)=some r:=by first|(rw [hy32001];with_reducible exact H)|(have H2_:=(Option.bind_some _ _).symm.trans H;rw [hy32001];with_reducible exact H2_)|(have H2_:=(Option.bind_some _ _).symm.trans H;with_reducible exact H2_)|with_reducible exact H|(rw [hy32001];exact H)|exact H
  have Ny32001:=zk hy32001
  clear hy32001
  have H':=zk H
  clear H
  go_enter Tryz.func32,Tryz.ntmps32
  go_wp2_with (first|((with_reducible refine gate_dst (N:=7) rfl ?_);refine Kd.R_lit Kd.string _ 9 ?hg (N:=7) ?hd (xs:=([]:List ByteArray)) (inner:=[]) (ok:=fun _=>True) (okp:=fun _=>True) ?hr ?hp (fun _ hk=>hk) trivial (Below.refl _ _) (Nat.le_refl _) (by simp) ?_;(case hd=>rfl);(case hg=>rfl);(case hr=>first|(go_simp;done)|(go_simp;rfl));(case hp=>exact (Reps.none _ _));intro v32002 w3 ho4 hb hg_ hnew_;clear hg_ hnew_;(first|rw [← Ny32001.out] at ho4|(simp only [Int.reduceToNat] at ho4;rw [← Ny32001.out] at ho4));have n0_:=zk (Kd.R_lower ho4 (below_size za4));have n1_:=zk (below_step za4 hb);clear HB;have HO32003:=n0_;have HB:=n1_;clear n0_ n1_;clear hb ho4))
  first|go_loopg [3,4] k (fun kq v3 v4 w'=>∃ (x3_1:List ByteArray) (x4_1:Int),v4 = .int .i64 x4_1∧Aside0 (impl_WordsUpTo.l0 kq a0 x3_1 x4_1=some r)∧Aside0 (kq≤k)∧Aside0 (Kd.R Kd.string 9 w' w.heap.size (fun _=>True) v3 x3_1)∧Aside0 (Below w.heap.size w w'))|(simp only [Act.put,zt,zv,zu];go_loopg [3,4] k (fun kq v3 v4 w'=>∃ (x3_1:List ByteArray) (x4_1:Int),v4 = .int .i64 x4_1∧Aside0 (impl_WordsUpTo.l0 kq a0 x3_1 x4_1=some r)∧Aside0 (kq≤k)∧Aside0 (Kd.R Kd.string 9 w' w.heap.size (fun _=>True) v3 x3_1)∧Aside0 (Below w.heap.size w w')))
  case atStart=>exact ⟨(y32001),(0),za8,H',⟨Nat.le_refl _⟩,⟨za1 HO32003.out⟩,⟨za4⟩⟩
  case round =>
   clear H'
   try clear c2
   try clear c2b0
   obtain ⟨x3_1,x4_1,rfl,HA,HK1,HO_3,HB⟩:=hrel
   cases gk with
   | zero=>exact absurd HA.out (by simp [impl_WordsUpTo.l0])
   | succ k1 =>
    have H:=HA.out
    clear HA
    simp only [impl_WordsUpTo.l0] at H
    obtain ⟨ji5,hji5⟩:∃ j_:Int,(mn a0 5)=j_:=⟨_,rfl⟩
    replace H:(if x4_1≤(ji5) then ((impl_WordsOfLength.f k1 x4_1).bind fun t32004=>(if x3_1.length+t32004.length < 8796093022208 then (impl_WordsUpTo.l0 k1 a0 (x3_1 ++ t32004) (wrap64 (x4_1+1))) else (none))) else (some x3_1))=some r:=by first|(rw [hji5] at H;exact H)|(simp only [hji5] at H ⊢;exact H)
    have hji5_:(if 5 < a0 then 5 else a0)=ji5:=hji5
    by_cases c6:x4_1≤(ji5)
    rw [if_pos c6] at H
    have c6b0:decide (x4_1≤(ji5))=true:=decide_eq_true c6
    clear c6
    replace H:=zo H
    obtain ⟨t32004,A70,H⟩:=H
    replace H:(if x3_1.length+t32004.length < 8796093022208 then (impl_WordsUpTo.l0 k1 a0 (x3_1 ++ t32004) (wrap64 (x4_1+1))) else (none))=some r:=H
    have A7:=zk A70
    clear A70
    by_cases c8:x3_1.length+t32004.length < 8796093022208
    ·rw [if_pos c8] at H
     have LMc8:=zk c8
     clear c8
     obtain ⟨y32007,hy32007⟩:∃ y_:List ByteArray,y_=(x3_1 ++ t32004):=⟨_,rfl⟩
     replace H:(impl_WordsUpTo.l0 k1 a0 y32007 (wrap64 (x4_1+1)))=some r:=by first|(rw [hy32007];with_reducible exact H)|(have H2_:=(Option.bind_some _ _).symm.trans H;rw [hy32007];with_reducible exact H2_)|(have H2_:=(Option.bind_some _ _).symm.trans H;with_reducible exact H2_)|with_reducible exact H|(rw [hy32007];exact H)|exact H
     have Ny32007:=zk hy32007
     clear hy32007
     have H':=zk H
     clear H
     go_wp2_with (first|((with_reducible refine gate_callee (f:=68) rfl ?_);refine goesL_ (some 16) rfl rfl Tryz.func68 (by kernel_rfl) rfl #[.int .i64 x4_1] rfl za5 ?_;(with_reducible refine (impl_WordsOfLength.calls k1 x4_1 t32004 _ A7.out).mono ?_);rintro e w9 ⟨v32005,rfl,ho0,hb⟩;refine ⟨_,rfl,?_⟩;have n0_:=zk (Kd.R_elder' (za1 HO_3.out) (Kd.R_base ho0) hb);have n1_:=zk (Kd.R_lower (Kd.R_new' ho0 (Kd.R_lt (za1 HO_3.out))) (below_size za4));have n2_:=zk (below_step za4 hb);clear HO_3;clear HB;have HO_3:=n0_;have HO32006:=n1_;have HB:=n2_;clear n0_ n1_ n2_;(try clear hb);(try clear hb2);(try clear hk);(try clear hi);(try clear ho0);obtain ⟨Ao11,co11,eo11⟩:=Kd.R_slice HO32006.out;subst eo11)|((with_reducible refine gate_builtin (b:=.append) (xs:=#[.tmp 14,.tmp 16]) rfl ?_);at_builtin;refine Kd.R_append_rows Kd.string (w0:=w) w.heap.size rfl (.tmp 14) (.tmp 16) 53 9 (.string ⟨#[]⟩) 16 rfl Tryz.underlying53 info9 rfl (by decide) (by omega) u3 x3_1 t32004 _ _ _ (fun k_=>some k_ ≠ (.slice Ao11 t32004.length co11:Value).ownBlock) (fun _=>False) rfl rfl ?aO ?aR (fun _ _ h=>h) (fun _ h=>h.elim) ?aF ?aB ?aS ?aL ?_;(case aR=>repeat (first|exact (Kd.R_reads' HO32006.out).2.2|(with_reducible refine Kd.C_alloc ?_ _)|(with_reducible refine Kd.C_drewN ?_ _)|(with_reducible refine Kd.C_drew ?_)));(case aB=>exact za4);(case aF=>exact (fun k_ hk=>Kd.fresh' (Kd.R_lt (za1 HO32006.out)) k_ hk));(case aO=>exact za30);(case aS=>exact (below_size za4));(case aL=>have:=LMc8.out;omega);intro v32008 w10 ho hb hg hat;rw [← Ny32007.out] at ho;have n0_:=zk (Kd.R_after (ok:=(fun _=>True)) (za1 HO32006.out) hg hat);have n1_:=zk (hb);have n2_:=zk (ho);clear HO32006;clear HB;clear HO_3;have HO32006:=n0_;have HB:=n1_;have HO32009:=n2_;clear n0_ n1_ n2_;clear ho hb hg hat))
     go_roundg k1
     case measure=>have:=HK1.out;omega
     case rel=>exact ⟨(y32007),(wrap64 (x4_1+1)),za8,H',⟨za17⟩,⟨by (with_reducible repeat (first|apply Kd.R_alloc|apply Kd.R_drewN|apply Kd.R_drew));exact Kd.R_mono HO32009.out (fun _ hk=>trivial)⟩,⟨za4⟩⟩
    ·rw [if_neg c8] at H
     exact absurd H (by simp)
    ·rw [if_neg c6] at H
     have c6b0:decide (x4_1≤(ji5))=false:=decide_eq_false c6
     clear c6
     obtain rfl:=zi H
     go_wp2
     go_ret
     exact ⟨_,by first|rfl|(simp [errW_none,errW_some] <;> rfl)|(simp only [← hji5];first|rfl|(simp [errW_none,errW_some] <;> rfl))|(simp [*,errW_none,errW_some] <;> rfl),za1 HO_3.out,za4⟩
def impl_isVariable.f (a0:Int):Option (Bool):=(strings_IndexByte.f (⟨#[88,89,90]⟩:ByteArray) a0).bind fun t107001=>(some (decide (t107001 ≥ 0)))
theorem impl_isVariable.calls (a0:Int) (r:Bool) (w:World) (h:impl_isVariable.f a0=some r) :
  Calls Tryz.prog 107 #[.int .u8 a0] w fun e w'=>e = .returned (.bool r)∧Drawn0 w w':=by
 have H:((strings_IndexByte.f (⟨#[88,89,90]⟩:ByteArray) a0).bind fun t107001=>(some (decide (t107001 ≥ 0))))=some r:=h
 clear h
 replace H:=zo H
 obtain ⟨t107001,A20,H⟩:=H
 replace H:(some (decide (t107001 ≥ 0)))=some r:=H
 have A2:=zk A20
 clear A20
 obtain rfl:=zi H
 go_enter Tryz.func107,Tryz.ntmps107
 go_wp2_with (first|((with_reducible refine gate_callee (f:=75) rfl ?_);refine goesL_ (some 4) rfl rfl Tryz.func75 (by kernel_rfl) rfl #[.string (⟨#[88,89,90]⟩:ByteArray),.int .u8 a0] rfl za5 ?_;(with_reducible refine (strings_IndexByte.calls (⟨#[88,89,90]⟩:ByteArray) a0 t107001 _ A2.out).mono ?_);rintro e w' ⟨rfl,⟨nd,rfl⟩⟩;refine ⟨_,rfl,?_⟩))
 go_ret
 exact ⟨za8,za11⟩
def impl_IsTerm.l0:Nat→ByteArray→Int→Option (Bool)
 | 0,_,_=>none
 | k+1,x0,x3=>if x3 < (x0.size:Int) then (if 0≤x3 then ((impl_LetterIndex.f (bt x0 x3)).bind fun t91001=>(if t91001 < 0 then ((impl_isVariable.f (bt x0 x3)).bind fun t91002=>(if t91002=true then (impl_IsTerm.l0 k x0 (wrap64 (x3+1))) else (some false))) else (impl_IsTerm.l0 k x0 (wrap64 (x3+1))))) else (none)) else (some true)
def impl_IsTerm.f (k:Nat) (a0:ByteArray):Option (Bool):=if (a0.size:Int) > 12 then (some false) else (impl_IsTerm.l0 k a0 0)
theorem impl_IsTerm.mono_l:∀ k,(∀ y0 y1,LeO (impl_IsTerm.l0 k y0 y1) (impl_IsTerm.l0 (k+1) y0 y1))
 | 0=>fun _ _ r h=>by simp [impl_IsTerm.l0] at h
 | k+1=>by
  have ih0:=impl_IsTerm.mono_l k
  ·intro y0 y1
   unfold impl_IsTerm.l0
   repeat' first
   | with_reducible first|exact ih0 _ _|exact LeO.refl _|exact LeO.none _|refine LeO.ite ?_ ?_|refine LeO.bind ?_ (fun _=>?_)
theorem impl_IsTerm.mono:∀ a0 k,LeO (impl_IsTerm.f k a0) (impl_IsTerm.f (k+1) a0):=by
 intro a0 k
 have ih0:=impl_IsTerm.mono_l k
 unfold impl_IsTerm.f
 repeat' first
  | with_reducible first|exact ih0 _ _|exact LeO.refl _|exact LeO.none _|refine LeO.ite ?_ ?_|refine LeO.bind ?_ (fun _=>?_)
theorem impl_IsTerm.calls (k:Nat) (a0:ByteArray) (r:Bool) (w:World) (h:impl_IsTerm.f k a0=some r) :
  Calls Tryz.prog 91 #[.string a0] w fun e w'=>e = .returned (.bool r)∧Drawn0 w w':=by
 have H:(if (a0.size:Int) > 12 then (some false) else (impl_IsTerm.l0 k a0 0))=some r:=h
 clear h
 by_cases c2:(a0.size:Int) > 12
 ·rw [if_pos c2] at H
  have c2b0:decide (12 < (a0.size:Int))=true:=decide_eq_true c2
  have c2b1:decide (12 < a0.size)=true:=decide_eq_true (by omega)
  clear c2
  obtain rfl:=zi H
  go_enter Tryz.func91,Tryz.ntmps91
  go_wp2
  go_ret
  exact ⟨za8,za11⟩
 ·rw [if_neg c2] at H
  have c2b0:decide (12 < (a0.size:Int))=false:=decide_eq_false c2
  have c2b1:decide (12 < a0.size)=false:=decide_eq_false (by omega)
  clear c2
  have H':=zk H
  clear H
  go_enter Tryz.func91,Tryz.ntmps91
  go_wp2
  first|go_loopg [3] k (fun kq v3 w'=>∃ (x3_1:Int),v3 = .int .i64 x3_1∧Aside0 (impl_IsTerm.l0 kq a0 x3_1=some r)∧Aside0 (kq≤k)∧Drawn0 w w')|(simp only [Act.put,zt,zv,zu];go_loopg [3] k (fun kq v3 w'=>∃ (x3_1:Int),v3 = .int .i64 x3_1∧Aside0 (impl_IsTerm.l0 kq a0 x3_1=some r)∧Aside0 (kq≤k)∧Drawn0 w w'))
  case atStart=>exact ⟨(0),za8,H',⟨Nat.le_refl _⟩,za11⟩
  case round =>
   clear H'
   try clear c2
   try clear c2b0
   try clear c2b1
   obtain ⟨x3_1,rfl,HA,HK1,⟨m1,rfl⟩⟩:=hrel
   cases gk with
   | zero=>exact absurd HA.out (by simp [impl_IsTerm.l0])
   | succ k1 =>
    have H:=HA.out
    clear HA
    simp only [impl_IsTerm.l0] at H
    by_cases c3:x3_1 < (a0.size:Int)
    rw [if_pos c3] at H
    have c3b0:decide (x3_1 < (a0.size:Int))=true:=decide_eq_true c3
    clear c3
    by_cases c4:0≤x3_1
    rw [if_pos c4] at H
    have c4b0:decide (0≤x3_1)=true:=decide_eq_true c4
    clear c4
    replace H:=zo H
    obtain ⟨t91001,A60,H⟩:=H
    replace H:(if t91001 < 0 then ((impl_isVariable.f (bt a0 x3_1)).bind fun t91002=>(if t91002=true then (impl_IsTerm.l0 k1 a0 (wrap64 (x3_1+1))) else (some false))) else (impl_IsTerm.l0 k1 a0 (wrap64 (x3_1+1))))=some r:=H
    have A6:=zk A60
    clear A60
    by_cases c7:t91001 < 0
    rw [if_pos c7] at H
    have c7b0:decide (t91001 < 0)=true:=decide_eq_true c7
    clear c7
    replace H:=zo H
    obtain ⟨t91002,A90,H⟩:=H
    replace H:(if t91002=true then (impl_IsTerm.l0 k1 a0 (wrap64 (x3_1+1))) else (some false))=some r:=H
    have A9:=zk A90
    clear A90
    by_cases c10:t91002=true
    subst c10
    have H1:(impl_IsTerm.l0 k1 a0 (wrap64 (x3_1+1)))=some r:=by rw [if_pos rfl] at H;exact H
    clear H
    have H:=H1
    clear H1
    have H':=zk H
    clear H
    have fin0_:=zk trivial
    rotate_left
    replace c10:=Bool.eq_false_iff.mpr c10
    subst c10
    have H1:(some false)=some r:=by rw [if_neg (show ¬ (false=true) by decide)] at H;exact H
    clear H
    have H:=H1
    clear H1
    obtain rfl:=zi H
    have fin1_:=zk trivial
    rotate_left
    · rw [if_neg c7] at H
      have c7b0:decide (t91001 < 0)=false:=decide_eq_false c7
      clear c7
      have H':=zk H
      clear H
      have p5:0≤(x3_1:Int):=of_decide_eq_true za9
      have q5:x3_1 < (a0.size:Int):=of_decide_eq_true za9
      have hx5:=bt_at a0 x3_1
      replace p5:=eq_true p5
      replace q5:=eq_true q5
      go_wp2_with (first|((with_reducible refine gate_callee (f:=124) rfl ?_);refine goesL_ (some 16) rfl rfl Tryz.func124 (by kernel_rfl) rfl #[.int .u8 (bt a0 x3_1)] rfl za5 ?_;(with_reducible refine (impl_LetterIndex.calls (bt a0 x3_1) t91001 _ A6.out).mono ?_);rintro e w' ⟨rfl,⟨nd,rfl⟩⟩;refine ⟨_,rfl,?_⟩))
      go_roundg k1
      case measure=>have:=HK1.out;omega
      case rel=>exact ⟨(wrap64 (x3_1+1)),za8,H',⟨za17⟩,za11⟩
    · rw [if_neg c4] at H
      exact absurd H (by simp)
    · rw [if_neg c3] at H
      have c3b0:decide (x3_1 < (a0.size:Int))=false:=decide_eq_false c3
      clear c3
      obtain rfl:=zi H
      go_wp2
      go_ret
      exact ⟨za8,za11⟩
    all_goals
     have p5:0≤(x3_1:Int):=of_decide_eq_true za9
     have q5:x3_1 < (a0.size:Int):=of_decide_eq_true za9
     have hx5:=bt_at a0 x3_1
     replace p5:=eq_true p5
     replace q5:=eq_true q5
     go_wp2_with (first|((with_reducible refine gate_callee (f:=124) rfl ?_);refine goesL_ (some 16) rfl rfl Tryz.func124 (by kernel_rfl) rfl #[.int .u8 (bt a0 x3_1)] rfl za5 ?_;(with_reducible refine (impl_LetterIndex.calls (bt a0 x3_1) t91001 _ A6.out).mono ?_);rintro e w' ⟨rfl,⟨nd,rfl⟩⟩;refine ⟨_,rfl,?_⟩;have p8:0≤(x3_1:Int):=of_decide_eq_true za9;have q8:x3_1 < (a0.size:Int):=of_decide_eq_true za9;have hx8:=bt_at a0 x3_1;replace p8:=eq_true p8;replace q8:=eq_true q8)|(go_at_call 107;(with_reducible refine (impl_isVariable.calls (bt a0 x3_1) _ _ A9.out).mono ?_);rintro e w' ⟨rfl,⟨nd,rfl⟩⟩))
     first
     | (
       clear fin0_
       go_roundg k1
       case measure=>have:=HK1.out;omega
       case rel=>exact ⟨(wrap64 (x3_1+1)),za8,H',⟨za17⟩,za11⟩)
     | (
       clear fin1_
       go_ret
       exact ⟨za8,za11⟩)
def impl_VarsOf.l0:Nat→ByteArray→ByteArray→Int→Option (ByteArray)
 | 0,_,_,_=>none
 | k+1,x0,x3,x5=>if x5 < 3 then (if 0≤x5 then ((strings_IndexByte.f x0 (bt (⟨#[88,89,90]⟩:ByteArray) x5)).bind fun t67001=>(if t67001 ≥ 0 then (if x5≤(wrap64 (x5+1)) then (if (wrap64 (x5+1))≤3 then (if x3.size+((⟨#[88,89,90]⟩:ByteArray).extract (x5:Int).toNat ((wrap64 (x5+1)):Int).toNat).size≤9223372036854775807 then (impl_VarsOf.l0 k x0 (x3 ++ ((⟨#[88,89,90]⟩:ByteArray).extract (x5:Int).toNat ((wrap64 (x5+1)):Int).toNat)) (wrap64 (x5+1))) else (none)) else (none)) else (none)) else (impl_VarsOf.l0 k x0 x3 (wrap64 (x5+1))))) else (none)) else (some x3)
def impl_VarsOf.f (k:Nat) (a0:ByteArray):Option (ByteArray):=impl_VarsOf.l0 k a0 (⟨#[]⟩:ByteArray) 0
theorem impl_VarsOf.mono_l:∀ k,(∀ y0 y1 y2,LeO (impl_VarsOf.l0 k y0 y1 y2) (impl_VarsOf.l0 (k+1) y0 y1 y2))
 | 0=>fun _ _ _ r h=>by simp [impl_VarsOf.l0] at h
 | k+1=>by
  have ih0:=impl_VarsOf.mono_l k
  ·intro y0 y1 y2
   unfold impl_VarsOf.l0
   repeat' first
   | with_reducible first|exact ih0 _ _ _|exact LeO.refl _|exact LeO.none _|refine LeO.ite ?_ ?_|refine LeO.bind ?_ (fun _=>?_)
theorem impl_VarsOf.mono:∀ a0 k,LeO (impl_VarsOf.f k a0) (impl_VarsOf.f (k+1) a0):=by
 intro a0 k
 have ih0:=impl_VarsOf.mono_l k
 unfold impl_VarsOf.f
 repeat' first
  | with_reducible first|exact ih0 _ _ _|exact LeO.refl _|exact LeO.none _|refine LeO.ite ?_ ?_|refine LeO.bind ?_ (fun _=>?_)
theorem impl_VarsOf.calls (k:Nat) (a0:ByteArray) (r:ByteArray) (w:World) (h:impl_VarsOf.f k a0=some r) :
   Calls Tryz.prog 67 #[.string a0] w fun e w'=>e = .returned (.string r)∧Drawn0 w w':=by
 have H:(impl_VarsOf.l0 k a0 (⟨#[]⟩:ByteArray) 0)=some r:=h
 clear h
 have H':=zk H
 clear H
 go_enter Tryz.func67,Tryz.ntmps67
 go_wp2
 first|go_loopg [3,5] k (fun kq v3 v5 w'=>∃ (x3_1:ByteArray) (x5_1:Int),v3 = .string x3_1∧v5 = .int .i64 x5_1∧Aside0 (impl_VarsOf.l0 kq a0 x3_1 x5_1=some r)∧Aside0 (kq≤k)∧Drawn0 w w')|(simp only [Act.put,zt,zv,zu];go_loopg [3,5] k (fun kq v3 v5 w'=>∃ (x3_1:ByteArray) (x5_1:Int),v3 = .string x3_1∧v5 = .int .i64 x5_1∧Aside0 (impl_VarsOf.l0 kq a0 x3_1 x5_1=some r)∧Aside0 (kq≤k)∧Drawn0 w w'))
 case atStart=>exact ⟨((⟨#[]⟩:ByteArray)),(0),za8,za8,H',⟨Nat.le_refl _⟩,za11⟩
 case round =>
  clear H'
  obtain ⟨x3_1,x5_1,rfl,rfl,HA,HK1,⟨m1,rfl⟩⟩:=hrel
  cases gk with
  | zero=>exact absurd HA.out (by simp [impl_VarsOf.l0])
  | succ k1 =>
   have H:=HA.out
   clear HA
   simp only [impl_VarsOf.l0] at H
   by_cases c2:x5_1 < 3
   rw [if_pos c2] at H
   have c2b0:decide (x5_1 < 3)=true:=decide_eq_true c2
   clear c2
   by_cases c3:0≤x5_1
   rw [if_pos c3] at H
   have c3b0:decide (0≤x5_1)=true:=decide_eq_true c3
   clear c3
   replace H:=zo H
   obtain ⟨t67001,A50,H⟩:=H
   replace H:(if t67001 ≥ 0 then (if x5_1≤(wrap64 (x5_1+1)) then (if (wrap64 (x5_1+1))≤3 then (if x3_1.size+((⟨#[88,89,90]⟩:ByteArray).extract (x5_1:Int).toNat ((wrap64 (x5_1+1)):Int).toNat).size≤9223372036854775807 then (impl_VarsOf.l0 k1 a0 (x3_1 ++ ((⟨#[88,89,90]⟩:ByteArray).extract (x5_1:Int).toNat ((wrap64 (x5_1+1)):Int).toNat)) (wrap64 (x5_1+1))) else (none)) else (none)) else (none)) else (impl_VarsOf.l0 k1 a0 x3_1 (wrap64 (x5_1+1))))=some r:=H
   have A5:=zk A50
   clear A50
   by_cases c6:t67001 ≥ 0
   rw [if_pos c6] at H
   have c6b0:decide (0≤t67001)=true:=decide_eq_true c6
   clear c6
   have c7b0:=eq_true (of_decide_eq_true za9:0≤x5_1)
   by_cases c8:x5_1≤(wrap64 (x5_1+1))
   rw [if_pos c8] at H
   have c8b0:=eq_true c8
   have c8b1:decide (x5_1≤(wrap64 (x5_1+1)))=true:=decide_eq_true c8
   by_cases c9:(wrap64 (x5_1+1))≤3
   rw [if_pos c9] at H
   have c9b0:=eq_true c9
   have c9b1:decide ((wrap64 (x5_1+1))≤3)=true:=decide_eq_true c9
   by_cases c10:x3_1.size+((⟨#[88,89,90]⟩:ByteArray).extract (x5_1:Int).toNat ((wrap64 (x5_1+1)):Int).toNat).size≤9223372036854775807
   rw [if_pos c10] at H
   have c10z:=c10
   try simp at c10z
   try replace c10z:=eq_false (Nat.not_lt.2 c10z)
   have c10b0:=eq_true c10
   have c10b1:decide (x3_1.size+((⟨#[88,89,90]⟩:ByteArray).extract (x5_1:Int).toNat ((wrap64 (x5_1+1)):Int).toNat).size≤9223372036854775807)=true:=decide_eq_true c10
   try have c10b2:(9223372036854775807 < x3_1.size+((⟨#[88,89,90]⟩:ByteArray).extract (x5_1:Int).toNat ((wrap64 (x5_1+1)):Int).toNat).size)=False:=eq_false (Nat.not_lt.2 c10)
   have fin0_:=zk trivial
   rotate_left
   · rw [if_neg c10] at H
     exact absurd H (by simp)
   · rw [if_neg c9] at H
     exact absurd H (by simp)
   · rw [if_neg c8] at H
     exact absurd H (by simp)
   rw [if_neg c6] at H
   have c6b0:decide (0≤t67001)=false:=decide_eq_false c6
   clear c6
   have fin1_:=zk trivial
   rotate_left
   · rw [if_neg c3] at H
     exact absurd H (by simp)
   · rw [if_neg c2] at H
     have c2b0:decide (x5_1 < 3)=false:=decide_eq_false c2
     clear c2
     obtain rfl:=zi H
     go_wp2
     go_ret
     exact ⟨za8,za11⟩
   all_goals
    have H':=zk H
    clear H
    have p4:0≤(x5_1:Int):=of_decide_eq_true za9
    have q4:x5_1 < (3:Int):=of_decide_eq_true za9
    have hx4:=bt_at (⟨#[88,89,90]⟩:ByteArray) x5_1
    replace p4:=eq_true p4
    replace q4:=eq_true q4
    go_wp2_with (((with_reducible refine gate_callee (f:=75) rfl ?_);refine goesL_ (some 11) rfl rfl Tryz.func75 (by kernel_rfl) rfl #[.string a0,.int .u8 (bt (⟨#[88,89,90]⟩:ByteArray) x5_1)] rfl za5 ?_;(with_reducible refine (strings_IndexByte.calls a0 (bt (⟨#[88,89,90]⟩:ByteArray) x5_1) t67001 _ A5.out).mono ?_);rintro e w' ⟨rfl,⟨nd,rfl⟩⟩;refine ⟨_,rfl,?_⟩))
    first
    | (
      clear fin0_
      go_roundg k1
      case measure=>have:=HK1.out;omega
      case rel=>exact ⟨(x3_1 ++ ((⟨#[88,89,90]⟩:ByteArray).extract (x5_1:Int).toNat ((wrap64 (x5_1+1)):Int).toNat)),(wrap64 (x5_1+1)),za8,za8,H',⟨za17⟩,za11⟩)
    | (
      clear fin1_
      go_roundg k1
      case measure=>have:=HK1.out;omega
      case rel=>exact ⟨(x3_1),(wrap64 (x5_1+1)),za8,za8,H',⟨za17⟩,za11⟩)
def impl_WithValue.f (a0_0:ByteArray) (a0_1:ByteArray) (a0_2:ByteArray) (a1:Int) (a2:ByteArray):Option (ByteArray × ByteArray × ByteArray):=if a1=88 then (some (a2,a0_1,a0_2)) else (if a1=89 then (some (a0_0,a2,a0_2)) else (if a1=90 then (some (a0_0,a0_1,a2)) else (some (a0_0,a0_1,a0_2))))
theorem impl_WithValue.calls (a0_0:ByteArray) (a0_1:ByteArray) (a0_2:ByteArray) (a1:Int) (a2:ByteArray) (r1:ByteArray) (r2:ByteArray) (r3:ByteArray) (w:World) (h:impl_WithValue.f a0_0 a0_1 a0_2 a1 a2=some (r1,r2,r3)) :
   Calls Tryz.prog 34 #[.agg #[.string a0_0,.string a0_1,.string a0_2],.int .u8 a1,.string a2] w fun e w'=>e = .returned (.agg #[.string r1,.string r2,.string r3])∧Below w.heap.size w w':=by
 have hu32:=Tryz.underlying32
 have HB:=zk (Below.refl w.heap.size w)
 have H:(if a1=88 then (some (a2,a0_1,a0_2)) else (if a1=89 then (some (a0_0,a2,a0_2)) else (if a1=90 then (some (a0_0,a0_1,a2)) else (some (a0_0,a0_1,a0_2)))))=some (r1,r2,r3):=h
 clear h
 by_cases c4:a1=88
 rw [if_pos c4] at H
 have c4b0:(a1 == 88)=true:=beq_iff_eq.mpr c4
 have c4b1:(a1 != 88)=false:=bne_eq_false_iff_eq.mpr c4
 clear c4
 have fin3_:=zk trivial
 rotate_left
 rw [if_neg c4] at H
 have c4b0:(a1 == 88)=false:=beq_eq_false_iff_ne.mpr c4
 have c4b1:(a1 != 88)=true:=bne_iff_ne.mpr c4
 by_cases c10:a1=89
 rw [if_pos c10] at H
 have c10b0:(a1 == 89)=true:=beq_iff_eq.mpr c10
 have c10b1:(a1 != 89)=false:=bne_eq_false_iff_eq.mpr c10
 clear c10
 have fin0_:=zk trivial
 rotate_left
 rw [if_neg c10] at H
 have c10b0:(a1 == 89)=false:=beq_eq_false_iff_ne.mpr c10
 have c10b1:(a1 != 89)=true:=bne_iff_ne.mpr c10
 by_cases c16:a1=90
 rw [if_pos c16] at H
 have c16b0:(a1 == 90)=true:=beq_iff_eq.mpr c16
 have c16b1:(a1 != 90)=false:=bne_eq_false_iff_eq.mpr c16
 clear c16
 have fin1_:=zk trivial
 rotate_left
 rw [if_neg c16] at H
 have c16b0:(a1 == 90)=false:=beq_eq_false_iff_ne.mpr c16
 have c16b1:(a1 != 90)=true:=bne_iff_ne.mpr c16
 have fin2_:=zk trivial
 rotate_left
 all_goals
  simp only [Option.some.injEq,Prod.mk.injEq] at H
  obtain ⟨rfl,rfl,rfl⟩:=H
  go_enter Tryz.func34,Tryz.ntmps34
  go_wp2_with (first|((with_reducible refine gate_dst (N:=3) rfl ?_);refine zE (N:=3) (cs:=#[.string a0_0,.string a0_1,.string a0_2]) (t:=32) ?_;intro gb34001 hg w11 hbox hb;have n0_:=zk (below_step za4 hb);have n1_:=zk (hbox);have n2_:=zk (zs (w:=w) hg za4);have n3_:=zk (zs (w:=w) hg za4);clear HB;have HB:=n0_;have BK34001:=n1_;have GW34001:=n2_;have GE34001:=n3_;clear n0_ n1_ n2_ n3_;clear hb hbox hg)|((with_reducible refine gate_dst (N:=6) rfl ?_);refine zE (N:=6) (cs:=#[.string (⟨#[]⟩:ByteArray),.string (⟨#[]⟩:ByteArray),.string (⟨#[]⟩:ByteArray)]) (t:=32) ?_;intro gb34002 hg w12 hbox hb;have n0_:=zk (zb BK34001.out hb);have n1_:=zk (below_step za4 hb);have n2_:=zk (hbox);have n3_:=zk (zs (w:=w) hg za4);have n4_:=zk (zs (w:=w) hg za4);have n5_:=zk ((by rw [hg];exact Nat.ne_of_lt (zl BK34001.out):gb34001 ≠ gb34002));have n6_:=zk ((by rw [hg];exact Nat.ne_of_gt (zl BK34001.out):gb34002 ≠ gb34001));clear BK34001;clear HB;have BK34001:=n0_;have HB:=n1_;have BK34002:=n2_;have GW34002:=n3_;have GE34002:=n4_;have NB34001_34002:=n5_;have NB34002_34001:=n6_;clear n0_ n1_ n2_ n3_ n4_ n5_ n6_;clear hb hbox hg;have hnb13:=NB34001_34002.out;have hnc13:=NB34002_34001.out;obtain ⟨hcz14_0,hcz14_1,hcz14_2,hfz14_0,hfz14_1,hfz14_2⟩:=blk3 BK34001.out;obtain ⟨hcz15_0,hcz15_1,hcz15_2,hfz15_0,hfz15_1,hfz15_2⟩:=blk3 BK34002.out))
  first
  | (
    clear fin0_
    refine bodyPost_ret (results_cell_row rfl _ _ gb34002 32 #[.string a0_0,.string a2,.string a0_2] (0,0) _ rfl (by (with_reducible repeat (first|refine blk_drewN ?_ _|refine blk_drew ?_|refine blk_alloc ?_ _));refine blk_put (cs:=#[.string a0_0,.string a2,.string (⟨#[]⟩:ByteArray)]) ?_ 2 _ rfl;(with_reducible repeat (first|refine blk_drewN ?_ _|refine blk_drew ?_|refine blk_alloc ?_ _));refine blk_put (cs:=#[.string a0_0,.string (⟨#[]⟩:ByteArray),.string (⟨#[]⟩:ByteArray)]) ?_ 1 _ rfl;(with_reducible repeat (first|refine blk_drewN ?_ _|refine blk_drew ?_|refine blk_alloc ?_ _));refine blk_put (cs:=#[.string (⟨#[]⟩:ByteArray),.string (⟨#[]⟩:ByteArray),.string (⟨#[]⟩:ByteArray)]) ?_ 0 _ rfl;(with_reducible repeat (first|refine blk_drewN ?_ _|refine blk_drew ?_|refine blk_alloc ?_ _));refine blk_far ?_ NB34002_34001.out _;(with_reducible repeat (first|refine blk_drewN ?_ _|refine blk_drew ?_|refine blk_alloc ?_ _));exact BK34002.out) Tryz.underlying32 rfl (by kernel_rfl)) rfl ?_
    exact ⟨za7,za4⟩)
  | (
    clear fin1_
    refine bodyPost_ret (results_cell_row rfl _ _ gb34002 32 #[.string a0_0,.string a0_1,.string a2] (0,0) _ rfl (by (with_reducible repeat (first|refine blk_drewN ?_ _|refine blk_drew ?_|refine blk_alloc ?_ _));refine blk_put (cs:=#[.string a0_0,.string a0_1,.string (⟨#[]⟩:ByteArray)]) ?_ 2 _ rfl;(with_reducible repeat (first|refine blk_drewN ?_ _|refine blk_drew ?_|refine blk_alloc ?_ _));refine blk_put (cs:=#[.string a0_0,.string (⟨#[]⟩:ByteArray),.string (⟨#[]⟩:ByteArray)]) ?_ 1 _ rfl;(with_reducible repeat (first|refine blk_drewN ?_ _|refine blk_drew ?_|refine blk_alloc ?_ _));refine blk_put (cs:=#[.string (⟨#[]⟩:ByteArray),.string (⟨#[]⟩:ByteArray),.string (⟨#[]⟩:ByteArray)]) ?_ 0 _ rfl;(with_reducible repeat (first|refine blk_drewN ?_ _|refine blk_drew ?_|refine blk_alloc ?_ _));refine blk_far ?_ NB34002_34001.out _;(with_reducible repeat (first|refine blk_drewN ?_ _|refine blk_drew ?_|refine blk_alloc ?_ _));exact BK34002.out) Tryz.underlying32 rfl (by kernel_rfl)) rfl ?_
    exact ⟨za7,za4⟩)
  | (
    clear fin2_
    refine bodyPost_ret (results_cell_row rfl _ _ gb34002 32 #[.string a0_0,.string a0_1,.string a0_2] (0,0) _ rfl (za2 BK34002.out) Tryz.underlying32 rfl (by kernel_rfl)) rfl ?_
    exact ⟨za7,za4⟩)
  | (
    clear fin3_
    refine bodyPost_ret (results_cell_row rfl _ _ gb34002 32 #[.string a2,.string a0_1,.string a0_2] (0,0) _ rfl (by (with_reducible repeat (first|refine blk_drewN ?_ _|refine blk_drew ?_|refine blk_alloc ?_ _));refine blk_put (cs:=#[.string a2,.string a0_1,.string (⟨#[]⟩:ByteArray)]) ?_ 2 _ rfl;(with_reducible repeat (first|refine blk_drewN ?_ _|refine blk_drew ?_|refine blk_alloc ?_ _));refine blk_put (cs:=#[.string a2,.string (⟨#[]⟩:ByteArray),.string (⟨#[]⟩:ByteArray)]) ?_ 1 _ rfl;(with_reducible repeat (first|refine blk_drewN ?_ _|refine blk_drew ?_|refine blk_alloc ?_ _));refine blk_put (cs:=#[.string (⟨#[]⟩:ByteArray),.string (⟨#[]⟩:ByteArray),.string (⟨#[]⟩:ByteArray)]) ?_ 0 _ rfl;(with_reducible repeat (first|refine blk_drewN ?_ _|refine blk_drew ?_|refine blk_alloc ?_ _));refine blk_far ?_ NB34002_34001.out _;(with_reducible repeat (first|refine blk_drewN ?_ _|refine blk_drew ?_|refine blk_alloc ?_ _));exact BK34002.out) Tryz.underlying32 rfl (by kernel_rfl)) rfl ?_
    exact ⟨za7,za4⟩)
def impl_IsValues.f (k:Nat) (a0_0:ByteArray) (a0_1:ByteArray) (a0_2:ByteArray):Option (Bool):=(impl_IsWord.f k a0_0).bind fun t40002=>(if t40002=true then ((impl_IsWord.f k a0_1).bind fun t40003=>(if t40003=true then ((impl_IsWord.f k a0_2).bind fun t40004=>(some t40004)) else (some false))) else (some false))
theorem impl_IsValues.mono:∀ a0 a1 a2 k,LeO (impl_IsValues.f k a0 a1 a2) (impl_IsValues.f (k+1) a0 a1 a2):=by
 intro a0 a1 a2 k
 unfold impl_IsValues.f
 repeat' first
  | with_reducible first|exact impl_IsWord.mono _ _|exact LeO.refl _|exact LeO.none _|refine LeO.ite ?_ ?_|refine LeO.bind ?_ (fun _=>?_)
theorem impl_IsValues.calls (k:Nat) (a0_0:ByteArray) (a0_1:ByteArray) (a0_2:ByteArray) (r:Bool) (w:World) (h:impl_IsValues.f k a0_0 a0_1 a0_2=some r) :
   Calls Tryz.prog 40 #[.agg #[.string a0_0,.string a0_1,.string a0_2]] w fun e w'=>e = .returned (.bool r)∧Below w.heap.size w w':=by
 have hu32:=Tryz.underlying32
 have HB:=zk (Below.refl w.heap.size w)
 have H:((impl_IsWord.f k a0_0).bind fun t40002=>(if t40002=true then ((impl_IsWord.f k a0_1).bind fun t40003=>(if t40003=true then ((impl_IsWord.f k a0_2).bind fun t40004=>(some t40004)) else (some false))) else (some false)))=some r:=h
 clear h
 replace H:=zo H
 obtain ⟨t40002,A20,H⟩:=H
 replace H:(if t40002=true then ((impl_IsWord.f k a0_1).bind fun t40003=>(if t40003=true then ((impl_IsWord.f k a0_2).bind fun t40004=>(some t40004)) else (some false))) else (some false))=some r:=H
 have A2:=zk A20
 clear A20
 by_cases c3:t40002=true
 subst c3
 have H1:((impl_IsWord.f k a0_1).bind fun t40003=>(if t40003=true then ((impl_IsWord.f k a0_2).bind fun t40004=>(some t40004)) else (some false)))=some r:=by rw [if_pos rfl] at H;exact H
 clear H
 have H:=H1
 clear H1
 replace H:=zo H
 obtain ⟨t40003,A40,H⟩:=H
 replace H:(if t40003=true then ((impl_IsWord.f k a0_2).bind fun t40004=>(some t40004)) else (some false))=some r:=H
 have A4:=zk A40
 clear A40
 by_cases c5:t40003=true
 subst c5
 have H1:((impl_IsWord.f k a0_2).bind fun t40004=>(some t40004))=some r:=by rw [if_pos rfl] at H;exact H
 clear H
 have H:=H1
 clear H1
 replace H:=zo H
 obtain ⟨t40004,A60,H⟩:=H
 replace H:(some t40004)=some r:=H
 have A6:=zk A60
 clear A60
 rotate_left
 replace c5:=Bool.eq_false_iff.mpr c5
 subst c5
 have H1:(some false)=some r:=by rw [if_neg (show ¬ (false=true) by decide)] at H;exact H
 clear H
 have H:=H1
 clear H1
 rotate_left
 replace c3:=Bool.eq_false_iff.mpr c3
 subst c3
 have H1:(some false)=some r:=by rw [if_neg (show ¬ (false=true) by decide)] at H;exact H
 clear H
 have H:=H1
 clear H1
 rotate_left
 all_goals
  obtain rfl:=zi H
  go_enter Tryz.func40,Tryz.ntmps40
  go_wp2_with (first|((with_reducible refine gate_dst (N:=1) rfl ?_);refine zE (N:=1) (cs:=#[.string a0_0,.string a0_1,.string a0_2]) (t:=32) ?_;intro gb40001 hg w11 hbox hb;have n0_:=zk (below_step za4 hb);have n1_:=zk (hbox);have n2_:=zk (zs (w:=w) hg za4);have n3_:=zk (zs (w:=w) hg za4);clear HB;have HB:=n0_;have BK40001:=n1_;have GW40001:=n2_;have GE40001:=n3_;clear n0_ n1_ n2_ n3_;clear hb hbox hg;obtain ⟨hcz12_0,hcz12_1,hcz12_2,hfz12_0,hfz12_1,hfz12_2⟩:=blk3 BK40001.out)|((with_reducible refine gate_callee (f:=74) rfl ?_);refine goesL_ (some 5) rfl rfl Tryz.func74 (by kernel_rfl) rfl #[.string a0_0] rfl za5 ?_;(with_reducible refine (impl_IsWord.calls k a0_0 _ _ A2.out).mono ?_);rintro e w' ⟨rfl,⟨nd,rfl⟩⟩;refine ⟨_,rfl,?_⟩)|(go_at_call 74;(with_reducible refine (impl_IsWord.calls k a0_1 _ _ A4.out).mono ?_);rintro e w' ⟨rfl,⟨nd,rfl⟩⟩)|(go_at_call 74;(with_reducible refine (impl_IsWord.calls k a0_2 t40004 _ A6.out).mono ?_);rintro e w' ⟨rfl,⟨nd,rfl⟩⟩))
  go_ret
  exact ⟨za7,za4⟩
def impl_ValueOf.f (a0_0:ByteArray) (a0_1:ByteArray) (a0_2:ByteArray) (a1:Int):Option (ByteArray):=if a1=88 then (some a0_0) else (if a1=89 then (some a0_1) else (if a1=90 then (some a0_2) else (some (⟨#[]⟩:ByteArray))))
theorem impl_ValueOf.calls (a0_0:ByteArray) (a0_1:ByteArray) (a0_2:ByteArray) (a1:Int) (r:ByteArray) (w:World) (h:impl_ValueOf.f a0_0 a0_1 a0_2 a1=some r) :
   Calls Tryz.prog 106 #[.agg #[.string a0_0,.string a0_1,.string a0_2],.int .u8 a1] w fun e w'=>e = .returned (.string r)∧Below w.heap.size w w':=by
 have hu32:=Tryz.underlying32
 have HB:=zk (Below.refl w.heap.size w)
 have H:(if a1=88 then (some a0_0) else (if a1=89 then (some a0_1) else (if a1=90 then (some a0_2) else (some (⟨#[]⟩:ByteArray)))))=some r:=h
 clear h
 by_cases c3:a1=88
 rw [if_pos c3] at H
 have c3b0:(a1 == 88)=true:=beq_iff_eq.mpr c3
 have c3b1:(a1 != 88)=false:=bne_eq_false_iff_eq.mpr c3
 clear c3
 rotate_left
 rw [if_neg c3] at H
 have c3b0:(a1 == 88)=false:=beq_eq_false_iff_ne.mpr c3
 have c3b1:(a1 != 88)=true:=bne_iff_ne.mpr c3
 by_cases c6:a1=89
 rw [if_pos c6] at H
 have c6b0:(a1 == 89)=true:=beq_iff_eq.mpr c6
 have c6b1:(a1 != 89)=false:=bne_eq_false_iff_eq.mpr c6
 clear c6
 rotate_left
 rw [if_neg c6] at H
 have c6b0:(a1 == 89)=false:=beq_eq_false_iff_ne.mpr c6
 have c6b1:(a1 != 89)=true:=bne_iff_ne.mpr c6
 by_cases c9:a1=90
 rw [if_pos c9] at H
 have c9b0:(a1 == 90)=true:=beq_iff_eq.mpr c9
 have c9b1:(a1 != 90)=false:=bne_eq_false_iff_eq.mpr c9
 clear c9
 rotate_left
 rw [if_neg c9] at H
 have c9b0:(a1 == 90)=false:=beq_eq_false_iff_ne.mpr c9
 have c9b1:(a1 != 90)=true:=bne_iff_ne.mpr c9
 rotate_left
 all_goals
  obtain rfl:=zi H
  go_enter Tryz.func106,Tryz.ntmps106
  go_wp2_with (((with_reducible refine gate_dst (N:=2) rfl ?_);refine zE (N:=2) (cs:=#[.string a0_0,.string a0_1,.string a0_2]) (t:=32) ?_;intro gb106001 hg w10 hbox hb;have n0_:=zk (below_step za4 hb);have n1_:=zk (hbox);have n2_:=zk (zs (w:=w) hg za4);have n3_:=zk (zs (w:=w) hg za4);clear HB;have HB:=n0_;have BK106001:=n1_;have GW106001:=n2_;have GE106001:=n3_;clear n0_ n1_ n2_ n3_;clear hb hbox hg;obtain ⟨hcz11_0,hcz11_1,hcz11_2,hfz11_0,hfz11_1,hfz11_2⟩:=blk3 BK106001.out))
  go_ret
  exact ⟨za7,za4⟩
end Go.Proofs.YtffjfdoghofkdaaGreat.A
