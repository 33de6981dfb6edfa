/- FnMoves: what its proof needs, put together by this session's program wip/merge.py out of the texts that wip/xp.py printed and of this session's own. -/
import Derived.Test.YtgajchjnljekgaaQFnMoves1
set_option linter.unusedVariables false
set_option linter.unusedSimpArgs false
set_option linter.unusedSectionVars false
set_option maxHeartbeats 8000000
set_option maxRecDepth 100000
namespace Go.Proofs.Ytgajchjnljekgaa.A
open Go.RowKit Ytgajchjnljekgaa.Ext YtgajchjnljekgaaW.PrintWords YtgajchjnljekgaaW.PrintLast YtgajchjnljekgaaW.PrintMore
attribute [local go_sem] max2_int min2_int max_two min_two max_three min_three max_four min_four
def spec_IsValidProblem.l0:Nat→Int→List (S61)→Option (Bool)
 | 0,_,_=>none
 | k+1,x3,x40002000=>if x3 < (x40002000.length:Int) then (if 0≤x3 then ((spec_IsValidConstraint.f k ((rd_T61 x40002000 x3).f0) ((rd_T61 x40002000 x3).f1) ((rd_T61 x40002000 x3).f2) ((rd_T61 x40002000 x3).f3.f0) ((rd_T61 x40002000 x3).f3.f1) ((rd_T61 x40002000 x3).f3.f2) ((rd_T61 x40002000 x3).f4) ((rd_T61 x40002000 x3).f5)).bind fun t40003=>(if t40003=true then (spec_IsValidProblem.l0 k (wrap64 (x3+1)) x40002000) else (some false))) else (none)) else (some (decide ((x40002000.length:Int)≤6)))
def spec_IsValidProblem.f (k:Nat) (l0_0:List (S61)):Option (Bool):=spec_IsValidProblem.l0 k 0 l0_0
theorem spec_IsValidProblem.calls (k:Nat) (A0_0:Option Addr) (c0_0:Nat) (l0_0:List (S61)) (r:Bool) (w:World) (hr0_0:Kd.C k61 w A0_0 l0_0.length l0_0) (hc0_0:l0_0.length≤c0_0) (h:spec_IsValidProblem.f k l0_0=some r) :
   Calls Try.prog 40 #[.agg #[.slice A0_0 l0_0.length c0_0]] w fun e w'=>e = .returned (.bool r)∧Below w.heap.size w w':=by
 have hu37:=Try.underlying37
 have hu61:=Try.underlying61
 have HR0_0:=zk hr0_0
 have HC0_0:=zk hc0_0
 clear hr0_0 hc0_0
 have HB:=zk (Below.refl w.heap.size w)
 have H:=h
 unfold spec_IsValidProblem.f at H
 clear h
 have H':=zk H
 clear H
 go_enter Try.func40,Try.ntmps40
 go_wp2_with (first|((with_reducible refine gate_dst (N:=1) rfl ?_);refine zE (N:=1) (cs:=#[.slice A0_0 l0_0.length c0_0]) (t:=37) ?_;intro gb40001 hg w2 hbox hb;have BK40001:=zk (hbox);have GW40001:=zk (zs (w:=w) hg za3);have GE40001:=zk (zs (w:=w) hg za3);replace HB:=zk (below_step za3 hb);clear hb hbox hg))
 try simp only [Act.put,zt,zv,zu]
 go_loopg [3] k (fun kq v3 w'=>∃ (x3_1:Int),v3 = .int .i64 x3_1∧Aside0 (spec_IsValidProblem.l0 kq x3_1 l0_0=some r)∧Aside0 (kq≤k)∧Aside0 (w'.heap[gb40001]? = some (.cells #[(.slice A0_0 l0_0.length c0_0)] 37 (0,0)))∧Aside0 (Below w.heap.size w w'))
 case atStart=>exact ⟨(0),za8,H',⟨Nat.le_refl _⟩,⟨za1 BK40001.out⟩,⟨za3⟩⟩
 case round =>
  clear H'
  obtain ⟨x3_1,rfl,HA,HK1,BK40001,HB⟩:=hrel
  cases gk with
  | zero=>exact absurd HA.out (by simp [spec_IsValidProblem.l0])
  | succ k1 =>
   have H:=HA.out
   clear HA
   simp only [spec_IsValidProblem.l0] at H
   by_cases c3:x3_1 < (l0_0.length:Int)
   rw [if_pos c3] at H
   have c3b0:=zdl c3
   clear c3
   by_cases c4:0≤x3_1
   rw [if_pos c4] at H
   have c4b0:=zdle c4
   clear c4
   replace H:=zo H
   obtain ⟨t40003,A50,H⟩:=H
   try dsimp only at H
   have A5:=zk A50
   clear A50
   by_cases c6:t40003=true
   subst c6
   rw [if_pos rfl] at H
   try dsimp only at H
   have H':=zk H
   clear H
   have fin1_:=zk trivial
   rotate_left
   replace c6:=Bool.eq_false_iff.mpr c6
   subst c6
   rw [if_neg (show ¬ (false=true) by decide)] at H
   try dsimp only at H
   obtain rfl:=zi H
   have fin0_:=zk trivial
   rotate_left
   · rw [if_neg c4] at H
     exact absurd H (by simp)
   · rw [if_neg c3] at H
     have c3b0:=zdnl c3
     clear c3
     obtain rfl:=zi H
     obtain ⟨hcz11_0,hfz11_0⟩:=blk1 BK40001.out
     go_wp2
     go_ret
     exact ⟨za9,za3⟩
   all_goals
    obtain ⟨hcz9_0,hfz9_0⟩:=blk1 BK40001.out
    have p40002:0≤(x3_1:Int):=of_decide_eq_true za7
    have q40002:x3_1 < (l0_0.length:Int):=of_decide_eq_true za7
    obtain ⟨ad40002,A40002_5,c40002_5,A40002_6,c40002_6,e40002,hx40002_0,hx40002_1,hx40002_2,hx40002_3,hx40002_4,hx40002_5,hx40002_6,hx40002_7,hl40002_5,hi40002_5,hl40002_6,hi40002_6⟩:=at_T61 HR0_0.out x3_1 p40002 q40002
    cases e40002
    replace hx40002_0:=zx HB.out hx40002_0
    replace hx40002_1:=zx HB.out hx40002_1
    replace hx40002_2:=zx HB.out hx40002_2
    replace hx40002_3:=zx HB.out hx40002_3
    replace hx40002_4:=zx HB.out hx40002_4
    replace hx40002_5:=zx HB.out hx40002_5
    replace hx40002_6:=zx HB.out hx40002_6
    replace hx40002_7:=zx HB.out hx40002_7
    have HR40002_5:=zk hi40002_5
    have HC40002_5:=zk hl40002_5
    clear hi40002_5 hl40002_5
    have HR40002_6:=zk hi40002_6
    have HC40002_6:=zk hl40002_6
    clear hi40002_6 hl40002_6
    replace p40002:=eq_true p40002
    replace q40002:=eq_true q40002
    go_wp2_with (((with_reducible refine gate_callee (f:=58) rfl ?_);refine goesL_ (some 16) rfl rfl Try.func58 (by kernel_rfl) rfl #[.agg #[.int .i64 ((rd_T61 l0_0 x3_1).f0),.string ((rd_T61 l0_0 x3_1).f1),.string ((rd_T61 l0_0 x3_1).f2),.int .i64 ((rd_T61 l0_0 x3_1).f3.f0),.string ((rd_T61 l0_0 x3_1).f3.f1),.slice A40002_5 ((rd_T61 l0_0 x3_1).f3.f2).length c40002_5,.slice A40002_6 ((rd_T61 l0_0 x3_1).f4).length c40002_6,.int .i64 ((rd_T61 l0_0 x3_1).f5)]] rfl za4 ?_;(with_reducible refine (spec_IsValidConstraint.calls k1 ((rd_T61 l0_0 x3_1).f0) ((rd_T61 l0_0 x3_1).f1) ((rd_T61 l0_0 x3_1).f2) ((rd_T61 l0_0 x3_1).f3.f0) ((rd_T61 l0_0 x3_1).f3.f1) _ _ ((rd_T61 l0_0 x3_1).f3.f2) _ _ ((rd_T61 l0_0 x3_1).f4) ((rd_T61 l0_0 x3_1).f5) _ _ ?side1 ?side2 ?side3 ?side4 A5.out).mono ?_);(case side1=>repeat (first|exact (Kd.C_below HR40002_5.out HB.out)|(with_reducible refine Kd.C_alloc ?_ _)|(with_reducible refine Kd.C_drewN ?_ _)|(with_reducible refine Kd.C_drew ?_)));(case side2=>exact HC40002_5.out);(case side3=>repeat (first|exact (Kd.C_below HR40002_6.out HB.out)|(with_reducible refine Kd.C_alloc ?_ _)|(with_reducible refine Kd.C_drewN ?_ _)|(with_reducible refine Kd.C_drew ?_)));(case side4=>exact HC40002_6.out);rintro e w10 ⟨rfl,hb⟩;refine ⟨_,rfl,?_⟩;replace BK40001:=zk (zb BK40001.out hb);replace HB:=zk (below_step za3 hb);(try clear hb);(try clear hb2);(try clear hk);(try clear hi)))
    first
    | (
      clear fin0_
      go_ret
      exact ⟨za9,za3⟩)
    | (
      clear fin1_
      go_roundg k1
      case measure=>have:=HK1.out;omega
      case rel=>exact ⟨(wrap64 (x3_1+1)),za8,H',⟨za60⟩,⟨za1 BK40001.out⟩,⟨za3⟩⟩)
def spec_StripEquation.l0:Nat→Int→ByteArray→ByteArray→Option (ByteArray × ByteArray)
 | 0,_,_,_=>none
 | k+1,x3,x9002000,x9002001=>if x3 < (x9002000.size:Int) then (if x3 < (x9002001.size:Int) then (if 0≤x3 then (if (bt x9002000 x3)=(bt x9002001 x3) then (spec_StripEquation.l0 k (wrap64 (x3+1)) x9002000 x9002001) else (if x3≤(x9002000.size:Int) then (if x3≤(x9002001.size:Int) then (some (x9002000.extract (x3:Int).toNat x9002000.size,x9002001.extract (x3:Int).toNat x9002001.size)) else (none)) else (none))) else (none)) else (if 0≤x3 then (if x3≤(x9002000.size:Int) then (if x3≤(x9002001.size:Int) then (some (x9002000.extract (x3:Int).toNat x9002000.size,x9002001.extract (x3:Int).toNat x9002001.size)) else (none)) else (none)) else (none))) else (if 0≤x3 then (if x3≤(x9002000.size:Int) then (if x3≤(x9002001.size:Int) then (some (x9002000.extract (x3:Int).toNat x9002000.size,x9002001.extract (x3:Int).toNat x9002001.size)) else (none)) else (none)) else (none))
def spec_StripEquation.f (k:Nat) (a0_0:ByteArray) (a0_1:ByteArray):Option (ByteArray × ByteArray):=spec_StripEquation.l0 k 0 a0_0 a0_1
def spec_StripEquation.T2:Bool × List (List Nat × List Nat):=(true,[([],[]),([],[]),([1],[1]),([2],[2]),([0,3],[0,3]),([4],[4]),([5],[5]),([5],[5]),([7,5],[5,7]),([8,5],[5,8]),([6,9,5],[5,6,9]),([5,10],[5,10]),([11,5],[11]),([12],[12]),([13,12],[12,13]),([12],[12]),([14,15,12],[12,14,15]),([12],[12]),([17,12],[12,17]),([12],[12]),([18,19,12],[12,18,19]),([16,20,12],[12,16,20]),([12,21],[12,21])])
def spec_StripEquation.B2:List Nat:=[0,0,2,6,15,31,63,63,191,447,1023,2047,4095,8191,16383,8191,65535,8191,139263,8191,925695,2097151,4194303]
theorem spec_StripEquation.tab2:rtab .any (opsOf Try.f9 2)=spec_StripEquation.T2:=by kernel_rfl
theorem spec_StripEquation.bits2:waitsOk spec_StripEquation.T2.2 spec_StripEquation.B2=true:=by kernel_rfl
def spec_StripEquation.T4:Bool × List (List Nat × List Nat):=(true,[([],[]),([0],[0]),([],[]),([1,2],[1,2]),([],[]),([4],[4]),([],[]),([5,6],[5,6]),([3,7],[3,7]),([8,0,1,2,3,4,5,6,7,8],[8])])
def spec_StripEquation.B4:List Nat:=[0,1,0,7,0,16,0,112,255,511]
theorem spec_StripEquation.tab4:rtab .any (opsOf Try.f9 4)=spec_StripEquation.T4:=by kernel_rfl
theorem spec_StripEquation.bits4:waitsOk spec_StripEquation.T4.2 spec_StripEquation.B4=true:=by kernel_rfl
theorem spec_StripEquation.calls (k:Nat) (a0_0:ByteArray) (a0_1:ByteArray) (r1:ByteArray) (r2:ByteArray) (w:World) (h:spec_StripEquation.f k a0_0 a0_1=some (r1,r2)) :
   Calls Try.prog 9 #[.agg #[.string a0_0,.string a0_1]] w fun e w'=>e = .returned (.agg #[.string r1,.string r2])∧Below w.heap.size w w':=by
 have hu25:=Try.underlying25
 have HB:=zk (Below.refl w.heap.size w)
 have H:=h
 unfold spec_StripEquation.f at H
 clear h
 have H':=zk H
 clear H
 go_enter Try.func9,Try.ntmps9
 go_wp2_with (first|((with_reducible refine gate_dst (N:=1) rfl ?_);(try (refine gate_guard (by rfl) ?_;dsimp only));refine zE (N:=1) (cs:=#[.string a0_0,.string a0_1]) (t:=25) ?_;intro gb9001 hg w2 hbox hb;have BK9001:=zk (hbox);have GW9001:=zk (zs (w:=w) hg za3);have GE9001:=zk (zs (w:=w) hg za3);replace HB:=zk (below_step za3 hb);clear hb hbox hg)|((with_reducible refine gate_dst (N:=2) rfl ?_);(try (refine gate_guard (by rfl) ?_;dsimp only));refine zE (N:=2) (cs:=#[.string (⟨#[]⟩:ByteArray),.string (⟨#[]⟩:ByteArray)]) (t:=25) ?_;intro gb9002 hg w3 hbox hb;have BK9002:=zk (hbox);have GW9002:=zk (zs (w:=w) hg za3);have GE9002:=zk (zs (w:=w) hg za3);have NB9001_9002:=zk ((by rw [hg];exact Nat.ne_of_lt (zl BK9001.out):gb9001 ≠ gb9002));have NB9002_9001:=zk ((by rw [hg];exact Nat.ne_of_gt (zl BK9001.out):gb9002 ≠ gb9001));replace BK9001:=zk (zb BK9001.out hb);replace HB:=zk (below_step za3 hb);clear hb hbox hg))
 try simp only [Act.put,zt,zv,zu]
 go_loopg [3] k (fun kq v3 w'=>∃ (x3_1:Int),v3 = .int .i64 x3_1∧Aside0 (spec_StripEquation.l0 kq x3_1 a0_0 a0_1=some (r1,r2))∧Aside0 (kq≤k)∧Aside0 (w'.heap[gb9001]? = some (.cells #[.string a0_0,.string a0_1] 25 (0,0)))∧Aside0 (w'.heap[gb9002]? = some (.cells #[.string (⟨#[]⟩:ByteArray),.string (⟨#[]⟩:ByteArray)] 25 (0,0)))∧Aside0 (Below w.heap.size w w'))
 case atStart=>exact ⟨(0),za8,H',⟨Nat.le_refl _⟩,⟨za1 BK9001.out⟩,⟨za1 BK9002.out⟩,⟨za3⟩⟩
 case round =>
  clear H'
  obtain ⟨x3_1,rfl,HA,HK1,BK9001,BK9002,HB⟩:=hrel
  cases gk with
  | zero=>exact absurd HA.out (by simp [spec_StripEquation.l0])
  | succ k1 =>
   have H:=HA.out
   clear HA
   simp only [spec_StripEquation.l0] at H
   by_cases c4:x3_1 < (a0_0.size:Int)
   rw [if_pos c4] at H
   have c4b0:=zdl c4
   clear c4
   by_cases c5:x3_1 < (a0_1.size:Int)
   rw [if_pos c5] at H
   have c5b0:=zdl c5
   clear c5
   by_cases c6:0≤x3_1
   rw [if_pos c6] at H
   have c6b0:=zdle c6
   clear c6
   by_cases c9:(bt a0_0 x3_1)=(bt a0_1 x3_1)
   ·rw [if_pos c9] at H
    have c9b0:=zbt c9
    have c9b1:=zqn c9
    clear c9
    have H':=zk H
    clear H
    try go_wp2
    replace BK9001:=zk (blk_drew BK9001.out)
    replace BK9002:=zk (blk_drew BK9002.out)
    replace HB:=zk (below_drew1 HB.out)
    have p7:0≤(x3_1:Int):=of_decide_eq_true za7
    have q7:x3_1 < (a0_0.size:Int):=of_decide_eq_true za7
    have hx7:=bt_at a0_0 x3_1
    replace p7:=eq_true p7
    replace q7:=eq_true q7
    have p8:0≤(x3_1:Int):=of_decide_eq_true za7
    have q8:x3_1 < (a0_1.size:Int):=of_decide_eq_true za7
    have hx8:=bt_at a0_1 x3_1
    replace p8:=eq_true p8
    replace q8:=eq_true q8
    refine start_ (n:=23) (S:=fun w'=>w'.cell? ⟨gb9001,0,none⟩=some (.string a0_0)∧w'.cell? ⟨gb9001,1,none⟩=some (.string a0_1)) (ds:=[]) #[false,false,false,false,false,false,false,false,false,false,false,false,false,false,false,false,false,false,false,false,false,false,false] (by kernel_rfl) rfl rfl ⟨(blk_cell BK9001.out 0).trans rfl,(blk_cell BK9001.out 1).trans rfl⟩ (fun hHeld=>?_);refine with_tabW spec_StripEquation.tab2 spec_StripEquation.bits2 (fun HT_ HW_=>?_)
    generalize wr.drew=w10 at BK9001 BK9002 HB hHeld ⊢
    refine zy 0 (some 4) HT_.out ?_
    refine zy 1 (some 5) HT_.out ?_
    refine ztk 2 (some 6) HT_.out HW_.out hHeld ?_
    refine zy 3 (some 7) HT_.out ?_
    refine zy 4 (some 8) HT_.out ?_
    refine zy 5 (some 9) HT_.out ?_
    refine zy 6 (some 10) HT_.out ?_
    refine zy 7 (some 11) HT_.out ?_
    refine ztk 8 (some 12) HT_.out HW_.out hHeld ?_
    refine zy 9 (some 13) HT_.out ?_
    refine zy 10 (some 14) HT_.out ?_
    refine zy 11 (some 15) HT_.out ?_
    refine zy 12 (some 16) HT_.out ?_
    refine zy 13 (some 17) HT_.out ?_
    refine zy 15 (some 19) HT_.out ?_
    refine zy 17 (some 21) HT_.out ?_
    refine zy 19 (some 23) HT_.out ?_
    refine ztk 14 (some 18) HT_.out HW_.out hHeld ?_
    refine ztk 16 (some 20) HT_.out HW_.out hHeld ?_
    refine ztk 18 (some 22) HT_.out HW_.out hHeld ?_
    refine ztk 20 (some 24) HT_.out HW_.out hHeld ?_
    refine zy 21 (some 25) HT_.out ?_
    refine zy 22 (some 26) HT_.out ?_
    refine done_ (done_of HT_.out (by kernel_rfl)) ?_
    try go_wp2
    go_roundg k1
    case measure=>have:=HK1.out;omega
    case rel=>exact ⟨(wrap64 (x3_1+1)),za8,H',⟨za60⟩,⟨za1 BK9001.out⟩,⟨za1 BK9002.out⟩,⟨za3⟩⟩
   rw [if_neg c9] at H
   have c9b0:=zbn c9
   have c9b1:=zqt c9
   have c11b0:=eq_true (of_decide_eq_true za7:0≤x3_1)
   by_cases c12:x3_1≤(a0_0.size:Int)
   rw [if_pos c12] at H
   have c12b0:=eq_true c12
   have c12b1:=zdle c12
   clear c12
   have c13b0:=eq_true (of_decide_eq_true za7:0≤x3_1)
   by_cases c14:x3_1≤(a0_1.size:Int)
   ·rw [if_pos c14] at H
    have c14b0:=eq_true c14
    have c14b1:=zdle c14
    clear c14
    simp only [Option.some.injEq,Prod.mk.injEq] at H
    obtain ⟨rfl,rfl⟩:=H
    try go_wp2
    replace BK9001:=zk (blk_drew BK9001.out)
    replace BK9002:=zk (blk_drew BK9002.out)
    replace HB:=zk (below_drew1 HB.out)
    have p7:0≤(x3_1:Int):=of_decide_eq_true za7
    have q7:x3_1 < (a0_0.size:Int):=of_decide_eq_true za7
    have hx7:=bt_at a0_0 x3_1
    replace p7:=eq_true p7
    replace q7:=eq_true q7
    have p8:0≤(x3_1:Int):=of_decide_eq_true za7
    have q8:x3_1 < (a0_1.size:Int):=of_decide_eq_true za7
    have hx8:=bt_at a0_1 x3_1
    replace p8:=eq_true p8
    replace q8:=eq_true q8
    refine start_ (n:=23) (S:=fun w'=>w'.cell? ⟨gb9001,0,none⟩=some (.string a0_0)∧w'.cell? ⟨gb9001,1,none⟩=some (.string a0_1)) (ds:=[]) #[false,false,false,false,false,false,false,false,false,false,false,false,false,false,false,false,false,false,false,false,false,false,false] (by kernel_rfl) rfl rfl ⟨(blk_cell BK9001.out 0).trans rfl,(blk_cell BK9001.out 1).trans rfl⟩ (fun hHeld=>?_);refine with_tabW spec_StripEquation.tab2 spec_StripEquation.bits2 (fun HT_ HW_=>?_)
    generalize wr.drew=w15 at BK9001 BK9002 HB hHeld ⊢
    refine zy 0 (some 4) HT_.out ?_
    refine zy 1 (some 5) HT_.out ?_
    refine ztk 2 (some 6) HT_.out HW_.out hHeld ?_
    refine zy 3 (some 7) HT_.out ?_
    refine zy 4 (some 8) HT_.out ?_
    refine zy 5 (some 9) HT_.out ?_
    refine zy 6 (some 10) HT_.out ?_
    refine zy 7 (some 11) HT_.out ?_
    refine ztk 8 (some 12) HT_.out HW_.out hHeld ?_
    refine zy 9 (some 13) HT_.out ?_
    refine zy 10 (some 14) HT_.out ?_
    refine zy 11 (some 15) HT_.out ?_
    refine zy 12 (some 16) HT_.out ?_
    refine zy 13 (some 17) HT_.out ?_
    refine zy 15 (some 19) HT_.out ?_
    refine zy 17 (some 21) HT_.out ?_
    refine zy 19 (some 23) HT_.out ?_
    refine ztk 14 (some 18) HT_.out HW_.out hHeld ?_
    refine ztk 16 (some 20) HT_.out HW_.out hHeld ?_
    refine ztk 18 (some 22) HT_.out HW_.out hHeld ?_
    refine ztk 20 (some 24) HT_.out HW_.out hHeld ?_
    refine zy 21 (some 25) HT_.out ?_
    refine zy 22 (some 26) HT_.out ?_
    refine done_ (done_of HT_.out (by kernel_rfl)) ?_
    try go_wp2
    replace BK9001:=zk (blk_drew BK9001.out)
    replace BK9002:=zk (blk_drew BK9002.out)
    replace HB:=zk (below_drew1 HB.out)
    refine start_ (n:=10) (S:=fun w'=>w'.cell? ⟨gb9001,0,none⟩=some (.string a0_0)∧w'.cell? ⟨gb9001,1,none⟩=some (.string a0_1)) (ds:=[]) #[false,false,false,false,false,false,false,false,false,false] (by kernel_rfl) rfl rfl ⟨(blk_cell BK9001.out 0).trans rfl,(blk_cell BK9001.out 1).trans rfl⟩ (fun hHeld=>?_);refine with_tabW spec_StripEquation.tab4 spec_StripEquation.bits4 (fun HT_ HW_=>?_)
    generalize w15.drew=w16 at BK9001 BK9002 HB hHeld ⊢
    refine zy 0 (some 29) HT_.out ?_
    refine zy 2 (some 31) HT_.out ?_
    refine zy 4 (some 33) HT_.out ?_
    refine zy 6 (some 35) HT_.out ?_
    refine ztk 1 (some 30) HT_.out HW_.out hHeld ?_
    refine zy 3 (some 32) HT_.out ?_
    refine ztk 5 (some 34) HT_.out HW_.out hHeld ?_
    refine zy 7 (some 36) HT_.out ?_
    refine zy 8 (some 37) HT_.out ?_
    refine zon 9 none HT_.out (fun K hK=>?_)
    have hs17:w16.cell? ⟨gb9002,0,none⟩=some (.string (⟨#[]⟩:ByteArray)):=(blk_cell BK9002.out 0).trans rfl
    have hfs17:=blk_frozen BK9002.out 0
    have hns17_0:=NB9001_9002.out
    have hms17_0:=NB9002_9001.out
    have hs18:w16.cell? ⟨gb9002,1,none⟩=some (.string (⟨#[]⟩:ByteArray)):=(blk_cell BK9002.out 1).trans rfl
    have hfs18:=blk_frozen BK9002.out 1
    have hns18_0:=NB9001_9002.out
    have hms18_0:=NB9002_9001.out
    refine skip_ (w1:=?_) (by rfl) rfl ?_ ?_
    rotate_left
    ·go_simp
     rfl
    refine hK.out _ _ ⟨((cell_far (p:=⟨gb9002,_,none⟩) NB9001_9002.out _).trans (((cell_far (p:=⟨gb9002,_,none⟩) NB9001_9002.out _).trans (hHeld.1)))),((cell_far (p:=⟨gb9002,_,none⟩) NB9001_9002.out _).trans (((cell_far (p:=⟨gb9002,_,none⟩) NB9001_9002.out _).trans (hHeld.2))))⟩ (fun hHeld=>?_)
    clear hK K
    refine done_ (done_of HT_.out (by kernel_rfl)) ?_
    try go_wp2
    refine bodyPost_ret (results_cell_row rfl _ _ gb9002 25 #[.string (a0_0.extract (x3_1:Int).toNat a0_0.size),.string (a0_1.extract (x3_1:Int).toNat a0_1.size)] (0,0) _ rfl (zpu BK9002.out) Try.underlying25 rfl (by kernel_rfl)) rfl ?_
    exact ⟨za9,za3⟩
   ·rw [if_neg c14] at H
    exact absurd H (by simp)
   ·rw [if_neg c12] at H
    exact absurd H (by simp)
   ·rw [if_neg c6] at H
    exact absurd H (by simp)
   rw [if_neg c5] at H
   have c5b0:=zdnl c5
   clear c5
   by_cases c19:0≤x3_1
   rw [if_pos c19] at H
   have c19b0:=eq_true c19
   have c19b1:=zdle c19
   clear c19
   by_cases c20:x3_1≤(a0_0.size:Int)
   rw [if_pos c20] at H
   have c20b0:=eq_true c20
   have c20b1:=zdle c20
   clear c20
   have c21b0:=eq_true (of_decide_eq_true za7:0≤x3_1)
   by_cases c22:x3_1≤(a0_1.size:Int)
   ·rw [if_pos c22] at H
    have c22b0:=eq_true c22
    have c22b1:=zdle c22
    clear c22
    simp only [Option.some.injEq,Prod.mk.injEq] at H
    obtain ⟨rfl,rfl⟩:=H
    try go_wp2
    replace BK9001:=zk (blk_drew BK9001.out)
    replace BK9002:=zk (blk_drew BK9002.out)
    replace HB:=zk (below_drew1 HB.out)
    refine start_ (n:=23) (S:=fun w'=>w'.cell? ⟨gb9001,0,none⟩=some (.string a0_0)∧w'.cell? ⟨gb9001,1,none⟩=some (.string a0_1)) (ds:=[]) #[false,false,false,false,false,false,false,false,false,false,false,false,false,false,false,false,false,false,false,false,false,false,false] (by kernel_rfl) rfl rfl ⟨(blk_cell BK9001.out 0).trans rfl,(blk_cell BK9001.out 1).trans rfl⟩ (fun hHeld=>?_);refine with_tabW spec_StripEquation.tab2 spec_StripEquation.bits2 (fun HT_ HW_=>?_)
    generalize wr.drew=w23 at BK9001 BK9002 HB hHeld ⊢
    refine zy 0 (some 4) HT_.out ?_
    refine zy 1 (some 5) HT_.out ?_
    refine ztk 2 (some 6) HT_.out HW_.out hHeld ?_
    refine zy 3 (some 7) HT_.out ?_
    refine zy 4 (some 8) HT_.out ?_
    refine zy 5 (some 9) HT_.out ?_
    refine zy 6 (some 10) HT_.out ?_
    refine zy 7 (some 11) HT_.out ?_
    refine ztk 8 (some 12) HT_.out HW_.out hHeld ?_
    refine zy 9 (some 13) HT_.out ?_
    refine zy 10 (some 14) HT_.out ?_
    refine zy 11 (some 15) HT_.out ?_
    refine zy 12 (some 16) HT_.out ?_
    refine zyu 13 (some 17) HT_.out ?_
    refine zyu 14 (some 18) HT_.out ?_
    refine zyu 15 (some 19) HT_.out ?_
    refine zyu 16 (some 20) HT_.out ?_
    refine zyu 17 (some 21) HT_.out ?_
    refine zyu 18 (some 22) HT_.out ?_
    refine zyu 19 (some 23) HT_.out ?_
    refine zyu 20 (some 24) HT_.out ?_
    refine zyu 21 (some 25) HT_.out ?_
    refine zy 22 (some 26) HT_.out ?_
    refine done_ (done_of HT_.out (by kernel_rfl)) ?_
    try go_wp2
    replace BK9001:=zk (blk_drew BK9001.out)
    replace BK9002:=zk (blk_drew BK9002.out)
    replace HB:=zk (below_drew1 HB.out)
    refine start_ (n:=10) (S:=fun w'=>w'.cell? ⟨gb9001,0,none⟩=some (.string a0_0)∧w'.cell? ⟨gb9001,1,none⟩=some (.string a0_1)) (ds:=[]) #[false,false,false,false,false,false,false,false,false,false] (by kernel_rfl) rfl rfl ⟨(blk_cell BK9001.out 0).trans rfl,(blk_cell BK9001.out 1).trans rfl⟩ (fun hHeld=>?_);refine with_tabW spec_StripEquation.tab4 spec_StripEquation.bits4 (fun HT_ HW_=>?_)
    generalize w23.drew=w24 at BK9001 BK9002 HB hHeld ⊢
    refine zy 0 (some 29) HT_.out ?_
    refine zy 2 (some 31) HT_.out ?_
    refine zy 4 (some 33) HT_.out ?_
    refine zy 6 (some 35) HT_.out ?_
    refine ztk 1 (some 30) HT_.out HW_.out hHeld ?_
    refine zy 3 (some 32) HT_.out ?_
    refine ztk 5 (some 34) HT_.out HW_.out hHeld ?_
    refine zy 7 (some 36) HT_.out ?_
    refine zy 8 (some 37) HT_.out ?_
    refine zon 9 none HT_.out (fun K hK=>?_)
    have hs25:w24.cell? ⟨gb9002,0,none⟩=some (.string (⟨#[]⟩:ByteArray)):=(blk_cell BK9002.out 0).trans rfl
    have hfs25:=blk_frozen BK9002.out 0
    have hns25_0:=NB9001_9002.out
    have hms25_0:=NB9002_9001.out
    have hs26:w24.cell? ⟨gb9002,1,none⟩=some (.string (⟨#[]⟩:ByteArray)):=(blk_cell BK9002.out 1).trans rfl
    have hfs26:=blk_frozen BK9002.out 1
    have hns26_0:=NB9001_9002.out
    have hms26_0:=NB9002_9001.out
    refine skip_ (w1:=?_) (by rfl) rfl ?_ ?_
    rotate_left
    ·go_simp
     rfl
    refine hK.out _ _ ⟨((cell_far (p:=⟨gb9002,_,none⟩) NB9001_9002.out _).trans (((cell_far (p:=⟨gb9002,_,none⟩) NB9001_9002.out _).trans (hHeld.1)))),((cell_far (p:=⟨gb9002,_,none⟩) NB9001_9002.out _).trans (((cell_far (p:=⟨gb9002,_,none⟩) NB9001_9002.out _).trans (hHeld.2))))⟩ (fun hHeld=>?_)
    clear hK K
    refine done_ (done_of HT_.out (by kernel_rfl)) ?_
    try go_wp2
    refine bodyPost_ret (results_cell_row rfl _ _ gb9002 25 #[.string (a0_0.extract (x3_1:Int).toNat a0_0.size),.string (a0_1.extract (x3_1:Int).toNat a0_1.size)] (0,0) _ rfl (zpu BK9002.out) Try.underlying25 rfl (by kernel_rfl)) rfl ?_
    exact ⟨za9,za3⟩
   ·rw [if_neg c22] at H
    exact absurd H (by simp)
   ·rw [if_neg c20] at H
    exact absurd H (by simp)
   ·rw [if_neg c19] at H
    exact absurd H (by simp)
   rw [if_neg c4] at H
   have c4b0:=zdnl c4
   clear c4
   by_cases c27:0≤x3_1
   rw [if_pos c27] at H
   have c27b0:=eq_true c27
   have c27b1:=zdle c27
   clear c27
   by_cases c28:x3_1≤(a0_0.size:Int)
   rw [if_pos c28] at H
   have c28b0:=eq_true c28
   have c28b1:=zdle c28
   clear c28
   have c29b0:=eq_true (of_decide_eq_true za7:0≤x3_1)
   by_cases c30:x3_1≤(a0_1.size:Int)
   ·rw [if_pos c30] at H
    have c30b0:=eq_true c30
    have c30b1:=zdle c30
    clear c30
    simp only [Option.some.injEq,Prod.mk.injEq] at H
    obtain ⟨rfl,rfl⟩:=H
    try go_wp2
    replace BK9001:=zk (blk_drew BK9001.out)
    replace BK9002:=zk (blk_drew BK9002.out)
    replace HB:=zk (below_drew1 HB.out)
    refine start_ (n:=23) (S:=fun w'=>w'.cell? ⟨gb9001,0,none⟩=some (.string a0_0)∧w'.cell? ⟨gb9001,1,none⟩=some (.string a0_1)) (ds:=[]) #[false,false,false,false,false,false,false,false,false,false,false,false,false,false,false,false,false,false,false,false,false,false,false] (by kernel_rfl) rfl rfl ⟨(blk_cell BK9001.out 0).trans rfl,(blk_cell BK9001.out 1).trans rfl⟩ (fun hHeld=>?_);refine with_tabW spec_StripEquation.tab2 spec_StripEquation.bits2 (fun HT_ HW_=>?_)
    generalize wr.drew=w31 at BK9001 BK9002 HB hHeld ⊢
    refine zy 0 (some 4) HT_.out ?_
    refine zy 1 (some 5) HT_.out ?_
    refine ztk 2 (some 6) HT_.out HW_.out hHeld ?_
    refine zy 3 (some 7) HT_.out ?_
    refine zy 4 (some 8) HT_.out ?_
    refine zy 5 (some 9) HT_.out ?_
    refine zyu 6 (some 10) HT_.out ?_
    refine zyu 7 (some 11) HT_.out ?_
    refine zyu 8 (some 12) HT_.out ?_
    refine zyu 9 (some 13) HT_.out ?_
    refine zyu 10 (some 14) HT_.out ?_
    refine zy 11 (some 15) HT_.out ?_
    refine zy 12 (some 16) HT_.out ?_
    refine zyu 13 (some 17) HT_.out ?_
    refine zyu 14 (some 18) HT_.out ?_
    refine zyu 15 (some 19) HT_.out ?_
    refine zyu 16 (some 20) HT_.out ?_
    refine zyu 17 (some 21) HT_.out ?_
    refine zyu 18 (some 22) HT_.out ?_
    refine zyu 19 (some 23) HT_.out ?_
    refine zyu 20 (some 24) HT_.out ?_
    refine zyu 21 (some 25) HT_.out ?_
    refine zy 22 (some 26) HT_.out ?_
    refine done_ (done_of HT_.out (by kernel_rfl)) ?_
    try go_wp2
    replace BK9001:=zk (blk_drew BK9001.out)
    replace BK9002:=zk (blk_drew BK9002.out)
    replace HB:=zk (below_drew1 HB.out)
    refine start_ (n:=10) (S:=fun w'=>w'.cell? ⟨gb9001,0,none⟩=some (.string a0_0)∧w'.cell? ⟨gb9001,1,none⟩=some (.string a0_1)) (ds:=[]) #[false,false,false,false,false,false,false,false,false,false] (by kernel_rfl) rfl rfl ⟨(blk_cell BK9001.out 0).trans rfl,(blk_cell BK9001.out 1).trans rfl⟩ (fun hHeld=>?_);refine with_tabW spec_StripEquation.tab4 spec_StripEquation.bits4 (fun HT_ HW_=>?_)
    generalize w31.drew=w32 at BK9001 BK9002 HB hHeld ⊢
    refine zy 0 (some 29) HT_.out ?_
    refine zy 2 (some 31) HT_.out ?_
    refine zy 4 (some 33) HT_.out ?_
    refine zy 6 (some 35) HT_.out ?_
    refine ztk 1 (some 30) HT_.out HW_.out hHeld ?_
    refine zy 3 (some 32) HT_.out ?_
    refine ztk 5 (some 34) HT_.out HW_.out hHeld ?_
    refine zy 7 (some 36) HT_.out ?_
    refine zy 8 (some 37) HT_.out ?_
    refine zon 9 none HT_.out (fun K hK=>?_)
    have hs33:w32.cell? ⟨gb9002,0,none⟩=some (.string (⟨#[]⟩:ByteArray)):=(blk_cell BK9002.out 0).trans rfl
    have hfs33:=blk_frozen BK9002.out 0
    have hns33_0:=NB9001_9002.out
    have hms33_0:=NB9002_9001.out
    have hs34:w32.cell? ⟨gb9002,1,none⟩=some (.string (⟨#[]⟩:ByteArray)):=(blk_cell BK9002.out 1).trans rfl
    have hfs34:=blk_frozen BK9002.out 1
    have hns34_0:=NB9001_9002.out
    have hms34_0:=NB9002_9001.out
    refine skip_ (w1:=?_) (by rfl) rfl ?_ ?_
    rotate_left
    ·go_simp
     rfl
    refine hK.out _ _ ⟨((cell_far (p:=⟨gb9002,_,none⟩) NB9001_9002.out _).trans (((cell_far (p:=⟨gb9002,_,none⟩) NB9001_9002.out _).trans (hHeld.1)))),((cell_far (p:=⟨gb9002,_,none⟩) NB9001_9002.out _).trans (((cell_far (p:=⟨gb9002,_,none⟩) NB9001_9002.out _).trans (hHeld.2))))⟩ (fun hHeld=>?_)
    clear hK K
    refine done_ (done_of HT_.out (by kernel_rfl)) ?_
    try go_wp2
    refine bodyPost_ret (results_cell_row rfl _ _ gb9002 25 #[.string (a0_0.extract (x3_1:Int).toNat a0_0.size),.string (a0_1.extract (x3_1:Int).toNat a0_1.size)] (0,0) _ rfl (zpu BK9002.out) Try.underlying25 rfl (by kernel_rfl)) rfl ?_
    exact ⟨za9,za3⟩
   ·rw [if_neg c30] at H
    exact absurd H (by simp)
   ·rw [if_neg c28] at H
    exact absurd H (by simp)
   ·rw [if_neg c27] at H
    exact absurd H (by simp)
def spec_l12Hard.l0:Nat→ByteArray→Int→Option (Bool)
 | 0,_,_=>none
 | k+1,x0,x3=>if x3 < (x0.size:Int) then (if 0≤x3 then ((spec_l8Var.f (bt x0 x3)).bind fun t29001=>(if t29001=true then (spec_l12Hard.l0 k x0 (wrap64 (x3+1))) else (some true))) else (none)) else (some false)
def spec_l12Hard.f (k:Nat) (a0:ByteArray):Option (Bool):=spec_l12Hard.l0 k a0 0
theorem spec_l12Hard.calls (k:Nat) (a0:ByteArray) (r:Bool) (w:World) (h:spec_l12Hard.f k a0=some r) :
   Calls Try.prog 29 #[.string a0] w fun e w'=>e = .returned (.bool r)∧Drawn0 w w':=by
 have H:=h
 unfold spec_l12Hard.f at H
 clear h
 have H':=zk H
 clear H
 go_enter Try.func29,Try.ntmps29
 go_wp2
 try simp only [Act.put,zt,zv,zu]
 go_loopg [3] k (fun kq v3 w'=>∃ (x3_1:Int),v3 = .int .i64 x3_1∧Aside0 (spec_l12Hard.l0 kq a0 x3_1=some r)∧Aside0 (kq≤k)∧Drawn0 w w')
 case atStart=>exact ⟨(0),za8,H',⟨Nat.le_refl _⟩,za20⟩
 case round =>
  clear H'
  obtain ⟨x3_1,rfl,HA,HK1,⟨m1,rfl⟩⟩:=hrel
  cases gk with
  | zero=>exact absurd HA.out (by simp [spec_l12Hard.l0])
  | succ k1 =>
   have H:=HA.out
   clear HA
   simp only [spec_l12Hard.l0] at H
   by_cases c2:x3_1 < (a0.size:Int)
   rw [if_pos c2] at H
   have c2b0:=zdl c2
   clear c2
   by_cases c3:0≤x3_1
   rw [if_pos c3] at H
   have c3b0:=zdle c3
   clear c3
   replace H:=zo H
   obtain ⟨t29001,A50,H⟩:=H
   try dsimp only at H
   have A5:=zk A50
   clear A50
   by_cases c6:t29001=true
   subst c6
   rw [if_pos rfl] at H
   try dsimp only at H
   have H':=zk H
   clear H
   have fin0_:=zk trivial
   rotate_left
   replace c6:=Bool.eq_false_iff.mpr c6
   subst c6
   rw [if_neg (show ¬ (false=true) by decide)] at H
   try dsimp only at H
   obtain rfl:=zi H
   have fin1_:=zk trivial
   rotate_left
   · rw [if_neg c3] at H
     exact absurd H (by simp)
   · rw [if_neg c2] at H
     have c2b0:=zdnl c2
     clear c2
     obtain rfl:=zi H
     go_wp2
     go_ret
     exact ⟨za8,za20⟩
   all_goals
    have p4:0≤(x3_1:Int):=of_decide_eq_true za7
    have q4:x3_1 < (a0.size:Int):=of_decide_eq_true za7
    have hx4:=bt_at a0 x3_1
    replace p4:=eq_true p4
    replace q4:=eq_true q4
    go_wp2_with (((with_reducible refine gate_callee (f:=30) rfl ?_);refine goesL_ (some 13) rfl rfl Try.func30 (by kernel_rfl) rfl #[.int .u8 (bt a0 x3_1)] rfl za4 ?_;(with_reducible refine (spec_l8Var.calls (bt a0 x3_1) _ _ A5.out).mono ?_);rintro e w' ⟨rfl,⟨nd,rfl⟩⟩;refine ⟨_,rfl,?_⟩))
    first
    | (
      clear fin0_
      go_roundg k1
      case measure=>have:=HK1.out;omega
      case rel=>exact ⟨(wrap64 (x3_1+1)),za8,H',⟨za60⟩,za20⟩)
    | (
      clear fin1_
      go_ret
      exact ⟨za8,za20⟩)
def spec_IsClash.j0:Nat→Bool→ByteArray→ByteArray→Option (Bool)
 | 0,_,_,_=>none
 | k+1,x12,x11002000,x11002001=>if x12=true then (if x11002000.size+x11002001.size≤9223372036854775807 then ((spec_l12Hard.f k (x11002000 ++ x11002001)).bind fun t11004=>(some t11004)) else (none)) else (if 0 < (x11002000.size:Int) then ((spec_l8Var.f (bt x11002000 0)).bind fun t11005=>(if t11005=true then (some false) else (if 0 < (x11002001.size:Int) then ((spec_l8Var.f (bt x11002001 0)).bind fun t11006=>(some (!t11006))) else (none)))) else (none))
def spec_IsClash.f (k:Nat) (a0_0:ByteArray) (a0_1:ByteArray):Option (Bool):=(spec_StripEquation.f k a0_0 a0_1).bind fun bt11002=>(if bt11002.1.toList=([]:List UInt8) then (spec_IsClash.j0 k true bt11002.1 bt11002.2) else (spec_IsClash.j0 k (bt11002.2.toList == ([]:List UInt8)) bt11002.1 bt11002.2))
theorem spec_IsClash.calls (k:Nat) (a0_0:ByteArray) (a0_1:ByteArray) (r:Bool) (w:World) (h:spec_IsClash.f k a0_0 a0_1=some r) :
   Calls Try.prog 11 #[.agg #[.string a0_0,.string a0_1]] w fun e w'=>e = .returned (.bool r)∧Below w.heap.size w w':=by
 have hu25:=Try.underlying25
 have HB:=zk (Below.refl w.heap.size w)
 have H:=h
 unfold spec_IsClash.f at H
 clear h
 replace H:=zo H
 obtain ⟨⟨t11002,t11003⟩,A20,H⟩:=H
 try dsimp only at H
 have A2:=zk A20
 clear A20
 have HC3:=zk H
 clear H
 go_enter Try.func11,Try.ntmps11
 go_upto_region 2 with (first|((with_reducible refine gate_dst (N:=1) rfl ?_);refine zE (N:=1) (cs:=#[.string a0_0,.string a0_1]) (t:=25) ?_;intro gb11001 hg w4 hbox hb;have BK11001:=zk (hbox);have GW11001:=zk (zs (w:=w) hg za3);have GE11001:=zk (zs (w:=w) hg za3);replace HB:=zk (below_step za3 hb);clear hb hbox hg;obtain ⟨hcz5_0,hcz5_1,hfz5_0,hfz5_1⟩:=blk2 BK11001.out)|((with_reducible refine gate_callee (f:=9) rfl ?_);refine goesL_ (some 4) rfl rfl Try.func9 (by kernel_rfl) rfl #[.agg #[.string a0_0,.string a0_1]] rfl za4 ?_;(with_reducible refine (spec_StripEquation.calls k a0_0 a0_1 t11002 t11003 _ A2.out).mono ?_);rintro e w6 ⟨rfl,hb⟩;refine ⟨_,rfl,?_⟩;replace BK11001:=zk (zb BK11001.out hb);replace HB:=zk (below_step za3 hb);(try clear hb);(try clear hb2);(try clear hk);(try clear hi);obtain ⟨hcz7_0,hcz7_1,hfz7_0,hfz7_1⟩:=blk2 BK11001.out))
 (try simp only [Act.put,zt,zu,zv])
 go_cut [12] (fun v12 wc=>∃ (kq:Nat) (x12_2:Bool),v12 = .bool x12_2∧Aside0 (spec_IsClash.j0 kq x12_2 t11002 t11003=some r)∧Aside0 (kq≤k)∧Aside0 (wc.heap[gb11001]? = some (.cells #[.string t11002,.string t11003] 25 (0,0)))∧Aside0 (Below w.heap.size w wc))
 case first =>
  have H:=HC3.out
  clear HC3
  by_cases c8:t11002.toList=([]:List UInt8)
  · rw [if_pos c8] at H
    have c8b0:=zbt c8
    have c8b1:=zqn c8
    clear c8
    (first|rw [c8b0]|(simp only [i64_w,i32_w];rw [c8b0])|skip)
    have H':=zk H
    clear H
    obtain ⟨hcz9_0,hcz9_1,hfz9_0,hfz9_1⟩:=blk2 BK11001.out
    go_wp2
    go_meet
    case rel=>exact ⟨_,(true),za8,H',⟨za63⟩,⟨zpu BK11001.out⟩,⟨za3⟩⟩
  · rw [if_neg c8] at H
    have c8b0:=zbn c8
    have c8b1:=zqt c8
    (first|rw [c8b0]|(simp only [i64_w,i32_w];rw [c8b0])|skip)
    have H':=zk H
    clear H
    obtain ⟨hcz10_0,hcz10_1,hfz10_0,hfz10_1⟩:=blk2 BK11001.out
    go_wp2
    go_meet
    case rel=>exact ⟨_,((t11003.toList == ([]:List UInt8))),za8,H',⟨za63⟩,⟨zpu BK11001.out⟩,⟨za3⟩⟩
 case rest =>
  clear HC3
  try clear hcz5_0
  try clear hcz5_1
  try clear hcz7_0
  try clear hcz7_1
  try clear hfz5_0
  try clear hfz5_1
  try clear hfz7_0
  try clear hfz7_1
  obtain ⟨kq,x12_2,rfl,HA,HJ2,BK11001,HB⟩:=hcut
  cases kq with
  | zero=>exact absurd HA.out (by simp [spec_IsClash.j0])
  | succ kj2 =>
   have H:=HA.out
   clear HA
   simp only [spec_IsClash.j0] at H
   by_cases c11:x12_2=true
   subst c11
   rw [if_pos rfl] at H
   try dsimp only at H
   by_cases c12:t11002.size+t11003.size≤9223372036854775807
   rw [if_pos c12] at H
   have c12z:=c12
   try simp at c12z
   try replace c12z:=eq_false (Nat.not_lt.2 c12z)
   have c12b0:=eq_true c12
   have c12b1:=zdle c12
   try have c12b2:(9223372036854775807 < t11002.size+t11003.size)=False:=eq_false (Nat.not_lt.2 c12)
   replace H:=zo H
   obtain ⟨t11004,A130,H⟩:=H
   try dsimp only at H
   have A13:=zk A130
   clear A130
   obtain rfl:=zi H
   obtain ⟨hcz14_0,hcz14_1,hfz14_0,hfz14_1⟩:=blk2 BK11001.out
   rotate_left
   · rw [if_neg c12] at H
     exact absurd H (by simp)
   replace c11:=Bool.eq_false_iff.mpr c11
   subst c11
   rw [if_neg (show ¬ (false=true) by decide)] at H
   try dsimp only at H
   by_cases c15:0 < (t11002.size:Int)
   rw [if_pos c15] at H
   have c15b0:=zdl c15
   have c15b1:decide (0 < t11002.size)=true:=decide_eq_true (by omega)
   clear c15
   replace H:=zo H
   obtain ⟨t11005,A170,H⟩:=H
   try dsimp only at H
   have A17:=zk A170
   clear A170
   by_cases c18:t11005=true
   · subst c18
     rw [if_pos rfl] at H
     try dsimp only at H
     obtain rfl:=zi H
     obtain ⟨hcz19_0,hcz19_1,hfz19_0,hfz19_1⟩:=blk2 BK11001.out
     have p16:0≤(0:Int):=(by omega)
     have q16:0 < t11002.size:=(by have:(0:Int) < (t11002.size:Int):=of_decide_eq_true za7;omega)
     have hx16:∀ h:0 < t11002.size,((t11002[0]'h).toNat:Int)=bt t11002 0:=bt_at t11002 0
     clear p16
     have qi16:(0 < (t11002.size:Int))=True:=eq_true (of_decide_eq_true za7)
     replace q16:=eq_true q16
     go_wp2_with (first|((with_reducible refine gate_callee (f:=30) rfl ?_);refine goesL_ (some 22) rfl rfl Try.func30 (by kernel_rfl) rfl #[.int .u8 (bt t11002 0)] rfl za4 ?_;(with_reducible refine (spec_l8Var.calls (bt t11002 0) _ _ A17.out).mono ?_);rintro e w' ⟨rfl,⟨nd,rfl⟩⟩;refine ⟨_,rfl,?_⟩))
     go_ret
     exact ⟨za9,za3⟩
   replace c18:=Bool.eq_false_iff.mpr c18
   subst c18
   rw [if_neg (show ¬ (false=true) by decide)] at H
   try dsimp only at H
   by_cases c20:0 < (t11003.size:Int)
   rw [if_pos c20] at H
   have c20b0:=zdl c20
   have c20b1:decide (0 < t11003.size)=true:=decide_eq_true (by omega)
   clear c20
   replace H:=zo H
   obtain ⟨t11006,A220,H⟩:=H
   try dsimp only at H
   have A22:=zk A220
   clear A220
   obtain rfl:=zi H
   obtain ⟨hcz23_0,hcz23_1,hfz23_0,hfz23_1⟩:=blk2 BK11001.out
   have p16:0≤(0:Int):=(by omega)
   have q16:0 < t11002.size:=(by have:(0:Int) < (t11002.size:Int):=of_decide_eq_true za7;omega)
   have hx16:∀ h:0 < t11002.size,((t11002[0]'h).toNat:Int)=bt t11002 0:=bt_at t11002 0
   clear p16
   have qi16:(0 < (t11002.size:Int))=True:=eq_true (of_decide_eq_true za7)
   replace q16:=eq_true q16
   rotate_left
   · rw [if_neg c20] at H
     exact absurd H (by simp)
   · rw [if_neg c15] at H
     exact absurd H (by simp)
   all_goals
    go_wp2_with (first|((with_reducible refine gate_callee (f:=30) rfl ?_);refine goesL_ (some 22) rfl rfl Try.func30 (by kernel_rfl) rfl #[.int .u8 (bt t11002 0)] rfl za4 ?_;(with_reducible refine (spec_l8Var.calls (bt t11002 0) _ _ A17.out).mono ?_);rintro e w' ⟨rfl,⟨nd,rfl⟩⟩;refine ⟨_,rfl,?_⟩;have p21:0≤(0:Int):=(by omega);have q21:0 < t11003.size:=(by have:(0:Int) < (t11003.size:Int):=of_decide_eq_true za7;omega);have hx21:∀ h:0 < t11003.size,((t11003[0]'h).toNat:Int)=bt t11003 0:=bt_at t11003 0;clear p21;have qi21:(0 < (t11003.size:Int))=True:=eq_true (of_decide_eq_true za7);replace q21:=eq_true q21)|(go_at_call 30;(with_reducible refine (spec_l8Var.calls (bt t11003 0) t11006 _ A22.out).mono ?_);rintro e w' ⟨rfl,⟨nd,rfl⟩⟩)|((with_reducible refine gate_callee (f:=29) rfl ?_);refine goesL_ (some 18) rfl rfl Try.func29 (by kernel_rfl) rfl #[.string (t11002 ++ t11003)] rfl za4 ?_;(with_reducible refine (spec_l12Hard.calls kj2 (t11002 ++ t11003) t11004 _ A13.out).mono ?_);rintro e w' ⟨rfl,⟨nd,rfl⟩⟩;refine ⟨_,rfl,?_⟩))
    go_ret
    exact ⟨za9,za3⟩
def spec_l12First.f (k:Nat) (a0:Int) (a1:Int):Option ((List (S33))):=(some (([]:List (S33)):List (S33))).bind fun y27001=>((spec_l8Var.f a0).bind fun t27004=>(if t27004=true then (if y27001.length < 5864062014805 then ((some (y27001 ++ [(⟨a0,(⟨#[]⟩:ByteArray)⟩:S33)]:List (S33))).bind fun y27005=>((spec_l8Var.f a1).bind fun t27008=>(if t27008=true then (if y27005.length < 5864062014805 then (some (y27005 ++ [(⟨a0,strOfNums (([a1,a0]:List Int))⟩:S33)])) else (none)) else ((spec_LetterIndex.f k a1).bind fun t27015=>(if t27015 ≥ 0 then (if y27005.length < 5864062014805 then (some (y27005 ++ [(⟨a0,strOfNums (([a1,a0]:List Int))⟩:S33)])) else (none)) else (some y27005)))))) else (none)) else (some y27001)))
theorem spec_l12First.calls (k:Nat) (a0:Int) (a1:Int) (r:List (S33)) (w:World) (h:spec_l12First.f k a0 a1=some r) :
  Calls Try.prog 27 #[.int .u8 a0,.int .u8 a1] w fun e w'=>∃ v0_:Value,e = .returned (v0_)∧Kd.R k33 33 w' w.heap.size (fun _=>True) v0_ r∧Below w.heap.size w w':=by
 have hu33:=Try.underlying33
 have HB:=zk (Below.refl w.heap.size w)
 have H:=h
 unfold spec_l12First.f at H
 clear h
 obtain ⟨y27001,hy27001⟩:∃ y_:List (S33),y_=(([]:List (S33))):=⟨_,rfl⟩
 replace H:((spec_l8Var.f a0).bind fun t27004=>(if t27004=true then (if y27001.length < 5864062014805 then ((some (y27001 ++ [(⟨a0,(⟨#[]⟩:ByteArray)⟩:S33)]:List (S33))).bind fun y27005=>((spec_l8Var.f a1).bind fun t27008=>(if t27008=true then (if y27005.length < 5864062014805 then (some (y27005 ++ [(⟨a0,strOfNums (([a1,a0]:List Int))⟩:S33)])) else (none)) else ((spec_LetterIndex.f k a1).bind fun t27015=>(if t27015 ≥ 0 then (if y27005.length < 5864062014805 then (some (y27005 ++ [(⟨a0,strOfNums (([a1,a0]:List Int))⟩:S33)])) else (none)) else (some y27005)))))) else (none)) else (some y27001)))=some r:=by first|(rw [hy27001];with_reducible exact H)|(have H2_:=(Option.bind_some _ _).symm.trans H;rw [hy27001];with_reducible exact H2_)|(have H2_:=(Option.bind_some _ _).symm.trans H;with_reducible exact H2_)|with_reducible exact H|(rw [hy27001];exact H)|exact H
 have Ny27001:=zk hy27001
 clear hy27001
 replace H:=zo H
 obtain ⟨t27004,A30,H⟩:=H
 try dsimp only at H
 have A3:=zk A30
 clear A30
 by_cases c4:t27004=true
 subst c4
 rw [if_pos rfl] at H
 try dsimp only at H
 by_cases c5:y27001.length < 5864062014805
 rw [if_pos c5] at H
 have LMc5:=zk c5
 clear c5
 obtain ⟨y27005,hy27005⟩:∃ y_:List (S33),y_=(y27001 ++ [(⟨a0,(⟨#[]⟩:ByteArray)⟩:S33)]):=⟨_,rfl⟩
 replace H:((spec_l8Var.f a1).bind fun t27008=>(if t27008=true then (if y27005.length < 5864062014805 then (some (y27005 ++ [(⟨a0,strOfNums (([a1,a0]:List Int))⟩:S33)])) else (none)) else ((spec_LetterIndex.f k a1).bind fun t27015=>(if t27015 ≥ 0 then (if y27005.length < 5864062014805 then (some (y27005 ++ [(⟨a0,strOfNums (([a1,a0]:List Int))⟩:S33)])) else (none)) else (some y27005)))))=some r:=by first|(rw [hy27005];with_reducible exact H)|(have H2_:=(Option.bind_some _ _).symm.trans H;rw [hy27005];with_reducible exact H2_)|(have H2_:=(Option.bind_some _ _).symm.trans H;with_reducible exact H2_)|with_reducible exact H|(rw [hy27005];exact H)|exact H
 have Ny27005:=zk hy27005
 clear hy27005
 replace H:=zo H
 obtain ⟨t27008,A60,H⟩:=H
 try dsimp only at H
 have A6:=zk A60
 clear A60
 by_cases c7:t27008=true
 subst c7
 rw [if_pos rfl] at H
 try dsimp only at H
 obtain ⟨y27009,hy27009⟩:∃ y_:List Int,y_=(([a1,a0]:List Int)):=⟨_,rfl⟩
 replace H:(if y27005.length < 5864062014805 then (some (y27005 ++ [(⟨a0,strOfNums y27009⟩:S33)])) else (none))=some r:=by first|(rw [hy27009];with_reducible exact H)|(have H2_:=(Option.bind_some _ _).symm.trans H;rw [hy27009];with_reducible exact H2_)|(have H2_:=(Option.bind_some _ _).symm.trans H;with_reducible exact H2_)|with_reducible exact H|(rw [hy27009];exact H)|exact H
 have Ny27009:=zk hy27009
 clear hy27009
 by_cases c8:y27005.length < 5864062014805
 ·rw [if_pos c8] at H
  have LMc8:=zk c8
  clear c8
  obtain ⟨y27012,hy27012⟩:∃ y_:List (S33),y_=(y27005 ++ [(⟨a0,strOfNums y27009⟩:S33)]):=⟨_,rfl⟩
  replace H:(some y27012)=some r:=by first|(rw [hy27012];with_reducible exact H)|(have H2_:=(Option.bind_some _ _).symm.trans H;rw [hy27012];with_reducible exact H2_)|(have H2_:=(Option.bind_some _ _).symm.trans H;with_reducible exact H2_)|with_reducible exact H|(rw [hy27012];exact H)|exact H
  have Ny27012:=zk hy27012
  clear hy27012
  obtain rfl:=zi H
  go_enter Try.func27,Try.ntmps27
  go_wp2_with (first|((with_reducible refine gate_dst (N:=6) rfl ?_);refine Kd.R_lit k33 _ 33 ?hg (N:=6) ?hd (xs:=([]:List (S33))) (inner:=[]) (ok:=fun _=>True) (okp:=fun _=>True) ?hr ?hp (fun _ hk=>hk) trivial (Below.refl _ _) (Nat.le_refl _) (by simp) ?_;(case hd=>rfl);(case hg=>rfl);(case hr=>first|(go_simp;done)|(go_simp;rfl));(case hp=>exact (Reps.none _ _));intro v27002 w9 ho10 hb hg_ hnew_;clear hg_ hnew_;(first|rw [← Ny27001.out] at ho10|(simp only [Int.reduceToNat] at ho10;rw [← Ny27001.out] at ho10));have HO27003:=zk (Kd.R_lower ho10 (below_size za3));replace HB:=zk (below_step za3 hb);clear hb ho10)|((with_reducible refine gate_callee (f:=30) rfl ?_);refine goesL_ (some 8) rfl rfl Try.func30 (by kernel_rfl) rfl #[.int .u8 a0] rfl za4 ?_;(with_reducible refine (spec_l8Var.calls a0 _ _ A3.out).mono ?_);rintro e w' ⟨rfl,⟨nd,rfl⟩⟩;refine ⟨_,rfl,?_⟩)|((with_reducible refine gate_builtin (b:=.append) (xs:=#[.tmp 11,.tmp 14]) rfl ?_);at_builtin;refine Kd.R_append k33 (w0:=w) w.heap.size rfl (.tmp 11) (.tmp 14) 27 33 (.agg #[(.int .u8 0),(.string ⟨#[]⟩)]) 24 rfl Try.underlying27 info33 rfl (by decide) (by omega) v27002 y27001 (⟨a0,(⟨#[]⟩:ByteArray)⟩:S33) [.int .u8 a0,.string (⟨#[]⟩:ByteArray)] (fun _=>True) (fun _=>False) rfl rfl ?aP (fun _ hk=>hk.elim) ?aF ?aO ?aB ?aS ?aL ?_;(case aP=>exact k33_mkM _ _ _ (⟨a0,(⟨#[]⟩:ByteArray)⟩:S33));(case aB=>exact za3);(case aF=>exact (fun _ _=>trivial));(case aO=>exact (za0 HO27003.out));(case aS=>exact (below_size za3));(case aL=>have:=LMc5.out;omega);intro v27006 w11 ho hb hg hat;rw [← Ny27005.out] at ho;replace HB:=zk (hb);have HO27007:=zk (ho);clear HO27003;clear ho hb hg hat)|((with_reducible refine gate_callee (f:=30) rfl ?_);refine goesL_ (some 17) rfl rfl Try.func30 (by kernel_rfl) rfl #[.int .u8 a1] rfl za4 ?_;(with_reducible refine (spec_l8Var.calls a1 _ _ A6.out).mono ?_);rintro e w' ⟨rfl,⟨nd,rfl⟩⟩;refine ⟨_,rfl,?_⟩)|((with_reducible refine gate_dst (N:=27) rfl ?_);refine Kd.R_lit (Kd.int .u8) _ 5 ?hg (N:=27) ?hd (xs:=([a1,a0]:List Int)) (inner:=[.int .u8 a1,.int .u8 a0]) (ok:=fun _=>True) (okp:=fun _=>True) ?hr ?hp (fun _ hk=>hk) trivial (Below.refl _ _) (Nat.le_refl _) (by simp) ?_;(case hd=>rfl);(case hg=>rfl);(case hr=>first|(go_simp;done)|(go_simp;rfl));(case hp=>exact (Reps.one (show Kd.M (Kd.int .u8) _ _ _ a1 [.int .u8 a1] from rfl) (Reps.one (show Kd.M (Kd.int .u8) _ _ _ a0 [.int .u8 a0] from rfl) (Reps.none _ _))));intro v27010 w12 ho13 hb hg_ hnew_;clear hg_ hnew_;(first|rw [← Ny27009.out] at ho13|(simp only [Int.reduceToNat] at ho13;rw [← Ny27009.out] at ho13));replace HO27007:=zk (Kd.R_below (za0 HO27007.out) hb);have HO27011:=zk (Kd.R_lower ho13 (below_size za3));replace HB:=zk (below_step za3 hb);clear hb ho13;have hcv14:=own_string (P:=Try.prog) Try.underlying22 Try.underlying5 Try.underlying9 (Kd.own_of_R HO27011.out))|((with_reducible refine gate_builtin (b:=.append) (xs:=#[.tmp 23,.tmp 30]) rfl ?_);at_builtin;refine Kd.R_append k33 (w0:=w) w.heap.size rfl (.tmp 23) (.tmp 30) 27 33 (.agg #[(.int .u8 0),(.string ⟨#[]⟩)]) 24 rfl Try.underlying27 info33 rfl (by decide) (by omega) v27006 y27005 (⟨a0,strOfNums y27009⟩:S33) [.int .u8 a0,.string (strOfNums y27009)] (fun _=>True) (fun _=>False) rfl rfl ?aP (fun _ hk=>hk.elim) ?aF ?aO ?aB ?aS ?aL ?_;(case aP=>exact k33_mkM _ _ _ (⟨a0,strOfNums y27009⟩:S33));(case aB=>exact za3);(case aF=>exact (fun _ _=>trivial));(case aO=>exact (za0 HO27007.out));(case aS=>exact (below_size za3));(case aL=>have:=LMc8.out;omega);intro v27013 w15 ho hb hg hat;rw [← Ny27012.out] at ho;replace HO27011:=zk (Kd.R_over' (za0 HO27011.out) (Kd.R_typed (za0 HO27007.out)) (by decide) hg);replace HB:=zk (hb);have HO27014:=zk (ho);clear HO27007;clear ho hb hg hat))
  go_ret
  exact ⟨_,za9,za0 HO27014.out,za3⟩
 ·rw [if_neg c8] at H
  exact absurd H (by simp)
 replace c7:=Bool.eq_false_iff.mpr c7
 subst c7
 rw [if_neg (show ¬ (false=true) by decide)] at H
 try dsimp only at H
 replace H:=zo H
 obtain ⟨t27015,A160,H⟩:=H
 try dsimp only at H
 have A16:=zk A160
 clear A160
 by_cases c17:t27015 ≥ 0
 rw [if_pos c17] at H
 have c17b0:=zdle c17
 clear c17
 obtain ⟨y27016,hy27016⟩:∃ y_:List Int,y_=(([a1,a0]:List Int)):=⟨_,rfl⟩
 replace H:(if y27005.length < 5864062014805 then (some (y27005 ++ [(⟨a0,strOfNums y27016⟩:S33)])) else (none))=some r:=by first|(rw [hy27016];with_reducible exact H)|(have H2_:=(Option.bind_some _ _).symm.trans H;rw [hy27016];with_reducible exact H2_)|(have H2_:=(Option.bind_some _ _).symm.trans H;with_reducible exact H2_)|with_reducible exact H|(rw [hy27016];exact H)|exact H
 have Ny27016:=zk hy27016
 clear hy27016
 by_cases c18:y27005.length < 5864062014805
 ·rw [if_pos c18] at H
  have LMc18:=zk c18
  clear c18
  obtain ⟨y27019,hy27019⟩:∃ y_:List (S33),y_=(y27005 ++ [(⟨a0,strOfNums y27016⟩:S33)]):=⟨_,rfl⟩
  replace H:(some y27019)=some r:=by first|(rw [hy27019];with_reducible exact H)|(have H2_:=(Option.bind_some _ _).symm.trans H;rw [hy27019];with_reducible exact H2_)|(have H2_:=(Option.bind_some _ _).symm.trans H;with_reducible exact H2_)|with_reducible exact H|(rw [hy27019];exact H)|exact H
  have Ny27019:=zk hy27019
  clear hy27019
  obtain rfl:=zi H
  go_enter Try.func27,Try.ntmps27
  go_wp2_with (first|((with_reducible refine gate_dst (N:=6) rfl ?_);refine Kd.R_lit k33 _ 33 ?hg (N:=6) ?hd (xs:=([]:List (S33))) (inner:=[]) (ok:=fun _=>True) (okp:=fun _=>True) ?hr ?hp (fun _ hk=>hk) trivial (Below.refl _ _) (Nat.le_refl _) (by simp) ?_;(case hd=>rfl);(case hg=>rfl);(case hr=>first|(go_simp;done)|(go_simp;rfl));(case hp=>exact (Reps.none _ _));intro v27002 w19 ho20 hb hg_ hnew_;clear hg_ hnew_;(first|rw [← Ny27001.out] at ho20|(simp only [Int.reduceToNat] at ho20;rw [← Ny27001.out] at ho20));have HO27003:=zk (Kd.R_lower ho20 (below_size za3));replace HB:=zk (below_step za3 hb);clear hb ho20)|((with_reducible refine gate_callee (f:=30) rfl ?_);refine goesL_ (some 8) rfl rfl Try.func30 (by kernel_rfl) rfl #[.int .u8 a0] rfl za4 ?_;(with_reducible refine (spec_l8Var.calls a0 _ _ A3.out).mono ?_);rintro e w' ⟨rfl,⟨nd,rfl⟩⟩;refine ⟨_,rfl,?_⟩)|((with_reducible refine gate_builtin (b:=.append) (xs:=#[.tmp 11,.tmp 14]) rfl ?_);at_builtin;refine Kd.R_append k33 (w0:=w) w.heap.size rfl (.tmp 11) (.tmp 14) 27 33 (.agg #[(.int .u8 0),(.string ⟨#[]⟩)]) 24 rfl Try.underlying27 info33 rfl (by decide) (by omega) v27002 y27001 (⟨a0,(⟨#[]⟩:ByteArray)⟩:S33) [.int .u8 a0,.string (⟨#[]⟩:ByteArray)] (fun _=>True) (fun _=>False) rfl rfl ?aP (fun _ hk=>hk.elim) ?aF ?aO ?aB ?aS ?aL ?_;(case aP=>exact k33_mkM _ _ _ (⟨a0,(⟨#[]⟩:ByteArray)⟩:S33));(case aB=>exact za3);(case aF=>exact (fun _ _=>trivial));(case aO=>exact (za0 HO27003.out));(case aS=>exact (below_size za3));(case aL=>have:=LMc5.out;omega);intro v27006 w21 ho hb hg hat;rw [← Ny27005.out] at ho;replace HB:=zk (hb);have HO27007:=zk (ho);clear HO27003;clear ho hb hg hat)|((with_reducible refine gate_callee (f:=30) rfl ?_);refine goesL_ (some 17) rfl rfl Try.func30 (by kernel_rfl) rfl #[.int .u8 a1] rfl za4 ?_;(with_reducible refine (spec_l8Var.calls a1 _ _ A6.out).mono ?_);rintro e w' ⟨rfl,⟨nd,rfl⟩⟩;refine ⟨_,rfl,?_⟩)|(go_at_call 48;(with_reducible refine (spec_LetterIndex.calls k a1 t27015 _ A16.out).mono ?_);rintro e w' ⟨rfl,⟨nd,rfl⟩⟩)|((with_reducible refine gate_dst (N:=27) rfl ?_);refine Kd.R_lit (Kd.int .u8) _ 5 ?hg (N:=27) ?hd (xs:=([a1,a0]:List Int)) (inner:=[.int .u8 a1,.int .u8 a0]) (ok:=fun _=>True) (okp:=fun _=>True) ?hr ?hp (fun _ hk=>hk) trivial (Below.refl _ _) (Nat.le_refl _) (by simp) ?_;(case hd=>rfl);(case hg=>rfl);(case hr=>first|(go_simp;done)|(go_simp;rfl));(case hp=>exact (Reps.one (show Kd.M (Kd.int .u8) _ _ _ a1 [.int .u8 a1] from rfl) (Reps.one (show Kd.M (Kd.int .u8) _ _ _ a0 [.int .u8 a0] from rfl) (Reps.none _ _))));intro v27017 w22 ho23 hb hg_ hnew_;clear hg_ hnew_;(first|rw [← Ny27016.out] at ho23|(simp only [Int.reduceToNat] at ho23;rw [← Ny27016.out] at ho23));replace HO27007:=zk (Kd.R_below (za0 HO27007.out) hb);have HO27018:=zk (Kd.R_lower ho23 (below_size za3));replace HB:=zk (below_step za3 hb);clear hb ho23;have hcv24:=own_string (P:=Try.prog) Try.underlying22 Try.underlying5 Try.underlying9 (Kd.own_of_R HO27018.out))|((with_reducible refine gate_builtin (b:=.append) (xs:=#[.tmp 23,.tmp 30]) rfl ?_);at_builtin;refine Kd.R_append k33 (w0:=w) w.heap.size rfl (.tmp 23) (.tmp 30) 27 33 (.agg #[(.int .u8 0),(.string ⟨#[]⟩)]) 24 rfl Try.underlying27 info33 rfl (by decide) (by omega) v27006 y27005 (⟨a0,strOfNums y27016⟩:S33) [.int .u8 a0,.string (strOfNums y27016)] (fun _=>True) (fun _=>False) rfl rfl ?aP (fun _ hk=>hk.elim) ?aF ?aO ?aB ?aS ?aL ?_;(case aP=>exact k33_mkM _ _ _ (⟨a0,strOfNums y27016⟩:S33));(case aB=>exact za3);(case aF=>exact (fun _ _=>trivial));(case aO=>exact (za0 HO27007.out));(case aS=>exact (below_size za3));(case aL=>have:=LMc18.out;omega);intro v27020 w25 ho hb hg hat;rw [← Ny27019.out] at ho;replace HO27018:=zk (Kd.R_over' (za0 HO27018.out) (Kd.R_typed (za0 HO27007.out)) (by decide) hg);replace HB:=zk (hb);have HO27021:=zk (ho);clear HO27007;clear ho hb hg hat))
  go_ret
  exact ⟨_,za9,za0 HO27021.out,za3⟩
 ·rw [if_neg c18] at H
  exact absurd H (by simp)
 ·rw [if_neg c17] at H
  have c17b0:=zdnle c17
  clear c17
  obtain rfl:=zi H
  go_enter Try.func27,Try.ntmps27
  go_wp2_with (first|((with_reducible refine gate_dst (N:=6) rfl ?_);refine Kd.R_lit k33 _ 33 ?hg (N:=6) ?hd (xs:=([]:List (S33))) (inner:=[]) (ok:=fun _=>True) (okp:=fun _=>True) ?hr ?hp (fun _ hk=>hk) trivial (Below.refl _ _) (Nat.le_refl _) (by simp) ?_;(case hd=>rfl);(case hg=>rfl);(case hr=>first|(go_simp;done)|(go_simp;rfl));(case hp=>exact (Reps.none _ _));intro v27002 w26 ho27 hb hg_ hnew_;clear hg_ hnew_;(first|rw [← Ny27001.out] at ho27|(simp only [Int.reduceToNat] at ho27;rw [← Ny27001.out] at ho27));have HO27003:=zk (Kd.R_lower ho27 (below_size za3));replace HB:=zk (below_step za3 hb);clear hb ho27)|((with_reducible refine gate_callee (f:=30) rfl ?_);refine goesL_ (some 8) rfl rfl Try.func30 (by kernel_rfl) rfl #[.int .u8 a0] rfl za4 ?_;(with_reducible refine (spec_l8Var.calls a0 _ _ A3.out).mono ?_);rintro e w' ⟨rfl,⟨nd,rfl⟩⟩;refine ⟨_,rfl,?_⟩)|((with_reducible refine gate_builtin (b:=.append) (xs:=#[.tmp 11,.tmp 14]) rfl ?_);at_builtin;refine Kd.R_append k33 (w0:=w) w.heap.size rfl (.tmp 11) (.tmp 14) 27 33 (.agg #[(.int .u8 0),(.string ⟨#[]⟩)]) 24 rfl Try.underlying27 info33 rfl (by decide) (by omega) v27002 y27001 (⟨a0,(⟨#[]⟩:ByteArray)⟩:S33) [.int .u8 a0,.string (⟨#[]⟩:ByteArray)] (fun _=>True) (fun _=>False) rfl rfl ?aP (fun _ hk=>hk.elim) ?aF ?aO ?aB ?aS ?aL ?_;(case aP=>exact k33_mkM _ _ _ (⟨a0,(⟨#[]⟩:ByteArray)⟩:S33));(case aB=>exact za3);(case aF=>exact (fun _ _=>trivial));(case aO=>exact (za0 HO27003.out));(case aS=>exact (below_size za3));(case aL=>have:=LMc5.out;omega);intro v27006 w28 ho hb hg hat;rw [← Ny27005.out] at ho;replace HB:=zk (hb);have HO27007:=zk (ho);clear HO27003;clear ho hb hg hat)|((with_reducible refine gate_callee (f:=30) rfl ?_);refine goesL_ (some 17) rfl rfl Try.func30 (by kernel_rfl) rfl #[.int .u8 a1] rfl za4 ?_;(with_reducible refine (spec_l8Var.calls a1 _ _ A6.out).mono ?_);rintro e w' ⟨rfl,⟨nd,rfl⟩⟩;refine ⟨_,rfl,?_⟩)|(go_at_call 48;(with_reducible refine (spec_LetterIndex.calls k a1 t27015 _ A16.out).mono ?_);rintro e w' ⟨rfl,⟨nd,rfl⟩⟩))
  go_ret
  exact ⟨_,za9,za0 HO27007.out,za3⟩
 ·rw [if_neg c5] at H
  exact absurd H (by simp)
 ·replace c4:=Bool.eq_false_iff.mpr c4
  subst c4
  rw [if_neg (show ¬ (false=true) by decide)] at H
  try dsimp only at H
  obtain rfl:=zi H
  go_enter Try.func27,Try.ntmps27
  go_wp2_with (first|((with_reducible refine gate_dst (N:=6) rfl ?_);refine Kd.R_lit k33 _ 33 ?hg (N:=6) ?hd (xs:=([]:List (S33))) (inner:=[]) (ok:=fun _=>True) (okp:=fun _=>True) ?hr ?hp (fun _ hk=>hk) trivial (Below.refl _ _) (Nat.le_refl _) (by simp) ?_;(case hd=>rfl);(case hg=>rfl);(case hr=>first|(go_simp;done)|(go_simp;rfl));(case hp=>exact (Reps.none _ _));intro v27002 w29 ho30 hb hg_ hnew_;clear hg_ hnew_;(first|rw [← Ny27001.out] at ho30|(simp only [Int.reduceToNat] at ho30;rw [← Ny27001.out] at ho30));have HO27003:=zk (Kd.R_lower ho30 (below_size za3));replace HB:=zk (below_step za3 hb);clear hb ho30)|((with_reducible refine gate_callee (f:=30) rfl ?_);refine goesL_ (some 8) rfl rfl Try.func30 (by kernel_rfl) rfl #[.int .u8 a0] rfl za4 ?_;(with_reducible refine (spec_l8Var.calls a0 _ _ A3.out).mono ?_);rintro e w' ⟨rfl,⟨nd,rfl⟩⟩;refine ⟨_,rfl,?_⟩))
  go_ret
  exact ⟨_,za9,za0 HO27003.out,za3⟩
def spec_MovesOf.j0:Nat→Bool→ByteArray→ByteArray→Option ((List (S33)))
 | 0,_,_,_=>none
 | k+1,x5,x7002000,x7002001=>if x5=true then (some (([]:List (S33)))) else (if x7002000.toList=([]:List UInt8) then (if 0 < (x7002001.size:Int) then (some (([(⟨bt x7002001 0,(⟨#[]⟩:ByteArray)⟩:S33)]:List (S33)))) else (none)) else (if x7002001.toList=([]:List UInt8) then (if 0 < (x7002000.size:Int) then (some (([(⟨bt x7002000 0,(⟨#[]⟩:ByteArray)⟩:S33)]:List (S33)))) else (none)) else (if 0 < (x7002000.size:Int) then (if 0 < (x7002001.size:Int) then ((spec_l12First.f k (bt x7002000 0) (bt x7002001 0)).bind fun t7015=>((spec_l12First.f k (bt x7002001 0) (bt x7002000 0)).bind fun t7018=>(if t7015.length+t7018.length < 5864062014805 then (some (t7015 ++ t7018)) else (none)))) else (none)) else (none))))
def spec_MovesOf.f (k:Nat) (a0_0:ByteArray) (a0_1:ByteArray):Option ((List (S33))):=(spec_StripEquation.f k a0_0 a0_1).bind fun bt7002=>(if bt7002.1.toList=([]:List UInt8) then (if bt7002.2.toList=([]:List UInt8) then (spec_MovesOf.j0 k true bt7002.1 bt7002.2) else ((spec_IsClash.f k bt7002.1 bt7002.2).bind fun t7004=>(spec_MovesOf.j0 k t7004 bt7002.1 bt7002.2))) else ((spec_IsClash.f k bt7002.1 bt7002.2).bind fun t7005=>(spec_MovesOf.j0 k t7005 bt7002.1 bt7002.2)))
def spec_MovesOf.T8:Bool × List (List Nat × List Nat):=(true,[([],[]),([0],[0]),([1],[1]),([],[]),([3],[3]),([4],[4]),([2,5],[2,5]),([],[]),([7],[7]),([8],[8]),([],[]),([10],[10]),([11],[11]),([9,12,6],[9,12]),([6,13,13],[6,13]),([14,14,0,1,2,3,4,5,6,7,8,9,10,11,12,13,14],[14])])
def spec_MovesOf.B8:List Nat:=[0,1,3,0,8,24,63,0,128,384,0,1024,3072,8191,16383,32767]
theorem spec_MovesOf.tab8:rtab .any (opsOf Try.f7 8)=spec_MovesOf.T8:=by kernel_rfl
theorem spec_MovesOf.bits8:waitsOk spec_MovesOf.T8.2 spec_MovesOf.B8=true:=by kernel_rfl
theorem spec_MovesOf.calls (k:Nat) (a0_0:ByteArray) (a0_1:ByteArray) (r:List (S33)) (w:World) (h:spec_MovesOf.f k a0_0 a0_1=some r) :
  Calls Try.prog 7 #[.agg #[.string a0_0,.string a0_1]] w fun e w'=>∃ v0_:Value,e = .returned (v0_)∧Kd.R k33 33 w' w.heap.size (fun _=>True) v0_ r∧Below w.heap.size w w':=by
 have hu25:=Try.underlying25
 have hu33:=Try.underlying33
 have HB:=zk (Below.refl w.heap.size w)
 have H:=h
 unfold spec_MovesOf.f at H
 clear h
 replace H:=zo H
 obtain ⟨⟨t7002,t7003⟩,A20,H⟩:=H
 try dsimp only at H
 have A2:=zk A20
 clear A20
 have HC3:=zk H
 clear H
 go_enter Try.func7,Try.ntmps7
 go_upto_region 2 with (first|((with_reducible refine gate_dst (N:=1) rfl ?_);refine zE (N:=1) (cs:=#[.string a0_0,.string a0_1]) (t:=25) ?_;intro gb7001 hg w4 hbox hb;have BK7001:=zk (hbox);have GW7001:=zk (zs (w:=w) hg za97);have GE7001:=zk (zs (w:=w) hg za97);replace HB:=zk (below_step za97 hb);clear hb hbox hg;have hcz5_0:w4.cell? ⟨gb7001,0,none⟩=some (.string a0_0):=(blk_cell BK7001.out 0).trans rfl;have hcz5_1:w4.cell? ⟨gb7001,1,none⟩=some (.string a0_1):=(blk_cell BK7001.out 1).trans rfl;have hfz5_0:=blk_frozen BK7001.out 0;have hfz5_1:=blk_frozen BK7001.out 1)|((with_reducible refine gate_callee (f:=9) rfl ?_);refine goesL_ (some 4) rfl rfl Try.func9 (by kernel_rfl) rfl #[.agg #[.string a0_0,.string a0_1]] rfl za4 ?_;(with_reducible refine (spec_StripEquation.calls k a0_0 a0_1 t7002 t7003 _ A2.out).mono ?_);rintro e w6 ⟨rfl,hb⟩;refine ⟨_,rfl,?_⟩;replace BK7001:=zk (zb BK7001.out hb);replace HB:=zk (below_step za29 hb);(try clear hb);(try clear hb2);(try clear hk);(try clear hi);have hcz7_0:w6.cell? ⟨gb7001,0,none⟩=some (.string a0_0):=(blk_cell BK7001.out 0).trans rfl;have hcz7_1:w6.cell? ⟨gb7001,1,none⟩=some (.string a0_1):=(blk_cell BK7001.out 1).trans rfl;have hfz7_0:=blk_frozen BK7001.out 0;have hfz7_1:=blk_frozen BK7001.out 1))
 (try simp only [Act.put,zt,zu,zv])
 go_cut [5] (fun v5 wc=>∃ (kq:Nat) (x5_2:Bool),v5 = .bool x5_2∧Aside0 (spec_MovesOf.j0 kq x5_2 t7002 t7003=some r)∧Aside0 (kq≤k)∧Aside0 (wc.heap[gb7001]? = some (.cells #[.string t7002,.string t7003] 25 (0,0)))∧Aside0 (Below w.heap.size w wc))
 case first =>
  have H:=HC3.out
  clear HC3
  by_cases c8:t7002.toList=([]:List UInt8)
  ·rw [if_pos c8] at H
   have c8b0:=zbt c8
   have c8b1:=zqn c8
   clear c8
   (first|rw [c8b0]|(simp only [i64_w,i32_w];rw [c8b0])|skip)
   by_cases c9:t7003.toList=([]:List UInt8)
   ·rw [if_pos c9] at H
    have c9b0:=zbt c9
    have c9b1:=zqn c9
    clear c9
    have H':=zk H
    clear H
    have hcz10_0:w6.cell? ⟨gb7001,0,none⟩=some (.string a0_0):=(blk_cell BK7001.out 0).trans rfl
    have hcz10_1:w6.cell? ⟨gb7001,1,none⟩=some (.string a0_1):=(blk_cell BK7001.out 1).trans rfl
    have hfz10_0:=blk_frozen BK7001.out 0
    have hfz10_1:=blk_frozen BK7001.out 1
    go_wp2
    go_meet
    case rel=>exact ⟨_,(true),za8,H',⟨za63⟩,⟨zpu BK7001.out⟩,⟨za29⟩⟩
   ·rw [if_neg c9] at H
    have c9b0:=zbn c9
    have c9b1:=zqt c9
    replace H:=zo H
    obtain ⟨t7004,A110,H⟩:=H
    try dsimp only at H
    have A11:=zk A110
    clear A110
    have H':=zk H
    clear H
    have hcz12_0:w6.cell? ⟨gb7001,0,none⟩=some (.string a0_0):=(blk_cell BK7001.out 0).trans rfl
    have hcz12_1:w6.cell? ⟨gb7001,1,none⟩=some (.string a0_1):=(blk_cell BK7001.out 1).trans rfl
    have hfz12_0:=blk_frozen BK7001.out 0
    have hfz12_1:=blk_frozen BK7001.out 1
    go_wp2_with (first|(go_at_call 11;(with_reducible refine (spec_IsClash.calls k t7002 t7003 t7004 _ A11.out).mono ?_);rintro e w13 ⟨rfl,hb⟩;replace BK7001:=zk (blk_below (g:=gb7001) (o:=.cells #[.string t7002,.string t7003] 25 (0,0)) (zpu BK7001.out) hb);replace HB:=zk (below_step za29 hb);(try clear hb);(try clear hb2);(try clear hk);(try clear hi)))
    go_meet
    case rel=>exact ⟨_,(t7004),za8,H',⟨za63⟩,⟨za1 BK7001.out⟩,⟨za29⟩⟩
  ·rw [if_neg c8] at H
   have c8b0:=zbn c8
   have c8b1:=zqt c8
   (first|rw [c8b0]|(simp only [i64_w,i32_w];rw [c8b0])|skip)
   replace H:=zo H
   obtain ⟨t7005,A140,H⟩:=H
   try dsimp only at H
   have A14:=zk A140
   clear A140
   have H':=zk H
   clear H
   have hcz15_0:w6.cell? ⟨gb7001,0,none⟩=some (.string a0_0):=(blk_cell BK7001.out 0).trans rfl
   have hcz15_1:w6.cell? ⟨gb7001,1,none⟩=some (.string a0_1):=(blk_cell BK7001.out 1).trans rfl
   have hfz15_0:=blk_frozen BK7001.out 0
   have hfz15_1:=blk_frozen BK7001.out 1
   go_wp2_with (first|(go_at_call 11;(with_reducible refine (spec_IsClash.calls k t7002 t7003 t7005 _ A14.out).mono ?_);rintro e w16 ⟨rfl,hb⟩;replace BK7001:=zk (blk_below (g:=gb7001) (o:=.cells #[.string t7002,.string t7003] 25 (0,0)) (zpu BK7001.out) hb);replace HB:=zk (below_step za29 hb);(try clear hb);(try clear hb2);(try clear hk);(try clear hi)))
   go_meet
   case rel=>exact ⟨_,(t7005),za8,H',⟨za63⟩,⟨za1 BK7001.out⟩,⟨za29⟩⟩
 case rest =>
  clear HC3
  try clear p2
  try clear c7
  try clear c8
  try clear c8b0
  try clear c8b1
  try clear c9
  try clear c9b0
  try clear c9b1
  try clear hcz10_0
  try clear hcz10_1
  try clear hcz12_0
  try clear hcz12_1
  try clear hcz15_0
  try clear hcz15_1
  try clear hcz5_0
  try clear hcz5_1
  try clear hcz7_0
  try clear hcz7_1
  try clear hfz10_0
  try clear hfz10_1
  try clear hfz12_0
  try clear hfz12_1
  try clear hfz15_0
  try clear hfz15_1
  try clear hfz5_0
  try clear hfz5_1
  try clear hfz7_0
  try clear hfz7_1
  obtain ⟨kq,x5_2,rfl,HA,HJ2,BK7001,HB⟩:=hcut
  cases kq with
  | zero=>exact absurd HA.out (by simp [spec_MovesOf.j0])
  | succ kj2 =>
   have H:=HA.out
   clear HA
   simp only [spec_MovesOf.j0] at H
   by_cases c17:x5_2=true
   ·subst c17
    rw [if_pos rfl] at H
    try dsimp only at H
    obtain ⟨y7006,hy7006⟩:∃ y_:List (S33),y_=(([]:List (S33))):=⟨_,rfl⟩
    replace H:(some y7006)=some r:=by first|(rw [hy7006];with_reducible exact H)|(have H2_:=(Option.bind_some _ _).symm.trans H;rw [hy7006];with_reducible exact H2_)|(have H2_:=(Option.bind_some _ _).symm.trans H;with_reducible exact H2_)|with_reducible exact H|(rw [hy7006];exact H)|exact H
    have Ny7006:=zk hy7006
    clear hy7006
    obtain rfl:=zi H
    go_wp2_with (first|((with_reducible refine gate_dst (N:=18) rfl ?_);refine Kd.R_lit k33 _ 33 ?hg (N:=18) ?hd (xs:=([]:List (S33))) (inner:=[]) (ok:=fun _=>True) (okp:=fun _=>True) ?hr ?hp (fun _ hk=>hk) trivial (Below.refl _ _) (Nat.le_refl _) (by simp) ?_;(case hd=>rfl);(case hg=>rfl);(case hr=>first|(go_simp;done)|(go_simp;rfl));(case hp=>exact (Reps.none _ _));intro v7007 w18 ho19 hb hg_ hnew_;clear hg_ hnew_;(first|rw [← Ny7006.out] at ho19|(simp only [Int.reduceToNat] at ho19;rw [← Ny7006.out] at ho19));have HO7008:=zk (Kd.R_lower ho19 (below_size za29));replace BK7001:=zk (zb BK7001.out hb);replace HB:=zk (below_step za29 hb);clear hb ho19))
    go_ret
    exact ⟨_,za9,za0 HO7008.out,za29⟩
   ·replace c17:=Bool.eq_false_iff.mpr c17
    subst c17
    rw [if_neg (show ¬ (false=true) by decide)] at H
    try dsimp only at H
    by_cases c20:t7002.toList=([]:List UInt8)
    ·rw [if_pos c20] at H
     have c20b0:=zbt c20
     have c20b1:=zqn c20
     clear c20
     by_cases c21:0 < (t7003.size:Int)
     ·rw [if_pos c21] at H
      have c21b0:=zdl c21
      have c21b1:decide (0 < t7003.size)=true:=decide_eq_true (by omega)
      clear c21
      obtain ⟨y7009,hy7009⟩:∃ y_:List (S33),y_=(([(⟨bt t7003 0,(⟨#[]⟩:ByteArray)⟩:S33)]:List (S33))):=⟨_,rfl⟩
      replace H:(some y7009)=some r:=by first|(rw [hy7009];with_reducible exact H)|(have H2_:=(Option.bind_some _ _).symm.trans H;rw [hy7009];with_reducible exact H2_)|(have H2_:=(Option.bind_some _ _).symm.trans H;with_reducible exact H2_)|with_reducible exact H|(rw [hy7009];exact H)|exact H
      have Ny7009:=zk hy7009
      clear hy7009
      obtain rfl:=zi H
      have hcz23_0:wc.cell? ⟨gb7001,0,none⟩=some (.string t7002):=(blk_cell BK7001.out 0).trans rfl
      have hcz23_1:wc.cell? ⟨gb7001,1,none⟩=some (.string t7003):=(blk_cell BK7001.out 1).trans rfl
      have hfz23_0:=blk_frozen BK7001.out 0
      have hfz23_1:=blk_frozen BK7001.out 1
      have p22:0≤(0:Int):=(by omega)
      have q22:0 < t7003.size:=(by have:(0:Int) < (t7003.size:Int):=of_decide_eq_true za7;omega)
      have hx22:∀ h:0 < t7003.size,((t7003[0]'h).toNat:Int)=bt t7003 0:=bt_at t7003 0
      clear p22
      have qi22:(0 < (t7003.size:Int))=True:=eq_true (of_decide_eq_true za7)
      replace q22:=eq_true q22
      go_wp2_with (first|((with_reducible refine gate_dst (N:=27) rfl ?_);refine Kd.R_lit k33 _ 33 ?hg (N:=27) ?hd (xs:=([(⟨bt t7003 0,(⟨#[]⟩:ByteArray)⟩:S33)]:List (S33))) (inner:=[.int .u8 (bt t7003 0),.string (⟨#[]⟩:ByteArray)]) (ok:=fun _=>True) (okp:=fun _=>True) ?hr ?hp (fun _ hk=>hk) trivial (Below.refl _ _) (Nat.le_refl _) (by simp) ?_;(case hd=>rfl);(case hg=>rfl);(case hr=>first|(go_simp;done)|(go_simp;rfl));(case hp=>exact (Reps.c2 (show Kd.M k33 _ _ _ (⟨bt t7003 0,(⟨#[]⟩:ByteArray)⟩:S33) [.int .u8 (bt t7003 0),.string (⟨#[]⟩:ByteArray)] from (k33_mkM _ _ _ (⟨bt t7003 0,(⟨#[]⟩:ByteArray)⟩:S33) )) (Reps.none _ _)));intro v7010 w24 ho25 hb hg_ hnew_;clear hg_ hnew_;(first|rw [← Ny7009.out] at ho25|(simp only [Int.reduceToNat] at ho25;rw [← Ny7009.out] at ho25));have HO7011:=zk (Kd.R_lower ho25 (below_size za29));replace BK7001:=zk (zb BK7001.out hb);replace HB:=zk (below_step za29 hb);clear hb ho25))
      go_ret
      exact ⟨_,za9,za0 HO7011.out,za29⟩
     ·rw [if_neg c21] at H
      exact absurd H (by simp)
    ·rw [if_neg c20] at H
     have c20b0:=zbn c20
     have c20b1:=zqt c20
     by_cases c26:t7003.toList=([]:List UInt8)
     ·rw [if_pos c26] at H
      have c26b0:=zbt c26
      have c26b1:=zqn c26
      clear c26
      by_cases c27:0 < (t7002.size:Int)
      ·rw [if_pos c27] at H
       have c27b0:=zdl c27
       have c27b1:decide (0 < t7002.size)=true:=decide_eq_true (by omega)
       clear c27
       obtain ⟨y7012,hy7012⟩:∃ y_:List (S33),y_=(([(⟨bt t7002 0,(⟨#[]⟩:ByteArray)⟩:S33)]:List (S33))):=⟨_,rfl⟩
       replace H:(some y7012)=some r:=by first|(rw [hy7012];with_reducible exact H)|(have H2_:=(Option.bind_some _ _).symm.trans H;rw [hy7012];with_reducible exact H2_)|(have H2_:=(Option.bind_some _ _).symm.trans H;with_reducible exact H2_)|with_reducible exact H|(rw [hy7012];exact H)|exact H
       have Ny7012:=zk hy7012
       clear hy7012
       obtain rfl:=zi H
       have hcz29_0:wc.cell? ⟨gb7001,0,none⟩=some (.string t7002):=(blk_cell BK7001.out 0).trans rfl
       have hcz29_1:wc.cell? ⟨gb7001,1,none⟩=some (.string t7003):=(blk_cell BK7001.out 1).trans rfl
       have hfz29_0:=blk_frozen BK7001.out 0
       have hfz29_1:=blk_frozen BK7001.out 1
       have p28:0≤(0:Int):=(by omega)
       have q28:0 < t7002.size:=(by have:(0:Int) < (t7002.size:Int):=of_decide_eq_true za7;omega)
       have hx28:∀ h:0 < t7002.size,((t7002[0]'h).toNat:Int)=bt t7002 0:=bt_at t7002 0
       clear p28
       have qi28:(0 < (t7002.size:Int))=True:=eq_true (of_decide_eq_true za7)
       replace q28:=eq_true q28
       go_wp2_with (first|((with_reducible refine gate_dst (N:=36) rfl ?_);refine Kd.R_lit k33 _ 33 ?hg (N:=36) ?hd (xs:=([(⟨bt t7002 0,(⟨#[]⟩:ByteArray)⟩:S33)]:List (S33))) (inner:=[.int .u8 (bt t7002 0),.string (⟨#[]⟩:ByteArray)]) (ok:=fun _=>True) (okp:=fun _=>True) ?hr ?hp (fun _ hk=>hk) trivial (Below.refl _ _) (Nat.le_refl _) (by simp) ?_;(case hd=>rfl);(case hg=>rfl);(case hr=>first|(go_simp;done)|(go_simp;rfl));(case hp=>exact (Reps.c2 (show Kd.M k33 _ _ _ (⟨bt t7002 0,(⟨#[]⟩:ByteArray)⟩:S33) [.int .u8 (bt t7002 0),.string (⟨#[]⟩:ByteArray)] from (k33_mkM _ _ _ (⟨bt t7002 0,(⟨#[]⟩:ByteArray)⟩:S33) )) (Reps.none _ _)));intro v7013 w30 ho31 hb hg_ hnew_;clear hg_ hnew_;(first|rw [← Ny7012.out] at ho31|(simp only [Int.reduceToNat] at ho31;rw [← Ny7012.out] at ho31));have HO7014:=zk (Kd.R_lower ho31 (below_size za29));replace BK7001:=zk (zb BK7001.out hb);replace HB:=zk (below_step za29 hb);clear hb ho31))
       go_ret
       exact ⟨_,za9,za0 HO7014.out,za29⟩
      ·rw [if_neg c27] at H
       exact absurd H (by simp)
     ·rw [if_neg c26] at H
      have c26b0:=zbn c26
      have c26b1:=zqt c26
      by_cases c32:0 < (t7002.size:Int)
      ·rw [if_pos c32] at H
       have c32b0:=zdl c32
       have c32b1:decide (0 < t7002.size)=true:=decide_eq_true (by omega)
       clear c32
       by_cases c34:0 < (t7003.size:Int)
       ·rw [if_pos c34] at H
        have c34b0:=zdl c34
        have c34b1:decide (0 < t7003.size)=true:=decide_eq_true (by omega)
        clear c34
        replace H:=zo H
        obtain ⟨t7015,A360,H⟩:=H
        try dsimp only at H
        have A36:=zk A360
        clear A360
        replace H:=zo H
        obtain ⟨t7018,A390,H⟩:=H
        try dsimp only at H
        have A39:=zk A390
        clear A390
        by_cases c40:t7015.length+t7018.length < 5864062014805
        ·rw [if_pos c40] at H
         have LMc40:=zk c40
         clear c40
         obtain ⟨y7021,hy7021⟩:∃ y_:List (S33),y_=(t7015 ++ t7018):=⟨_,rfl⟩
         replace H:(some y7021)=some r:=by first|(rw [hy7021];with_reducible exact H)|(have H2_:=(Option.bind_some _ _).symm.trans H;rw [hy7021];with_reducible exact H2_)|(have H2_:=(Option.bind_some _ _).symm.trans H;with_reducible exact H2_)|with_reducible exact H|(rw [hy7021];exact H)|exact H
         have Ny7021:=zk hy7021
         clear hy7021
         obtain rfl:=zi H
         have hcz41_0:wc.cell? ⟨gb7001,0,none⟩=some (.string t7002):=(blk_cell BK7001.out 0).trans rfl
         have hcz41_1:wc.cell? ⟨gb7001,1,none⟩=some (.string t7003):=(blk_cell BK7001.out 1).trans rfl
         have hfz41_0:=blk_frozen BK7001.out 0
         have hfz41_1:=blk_frozen BK7001.out 1
         try go_wp2
         replace BK7001:=zk (blk_drew BK7001.out)
         replace HB:=zk (below_drew1 HB.out)
         have p33:0≤(0:Int):=(by omega)
         have q33:0 < t7002.size:=(by have:(0:Int) < (t7002.size:Int):=of_decide_eq_true za7;omega)
         have hx33:∀ h:0 < t7002.size,((t7002[0]'h).toNat:Int)=bt t7002 0:=bt_at t7002 0
         clear p33
         have qi33:(0 < (t7002.size:Int))=True:=eq_true (of_decide_eq_true za7)
         replace q33:=eq_true q33
         have p35:0≤(0:Int):=(by omega)
         have q35:0 < t7003.size:=(by have:(0:Int) < (t7003.size:Int):=of_decide_eq_true za7;omega)
         have hx35:∀ h:0 < t7003.size,((t7003[0]'h).toNat:Int)=bt t7003 0:=bt_at t7003 0
         clear p35
         have qi35:(0 < (t7003.size:Int))=True:=eq_true (of_decide_eq_true za7)
         replace q35:=eq_true q35
         have p37:0≤(0:Int):=(by omega)
         have q37:0 < t7003.size:=(by have:(0:Int) < (t7003.size:Int):=of_decide_eq_true za7;omega)
         have hx37:∀ h:0 < t7003.size,((t7003[0]'h).toNat:Int)=bt t7003 0:=bt_at t7003 0
         clear p37
         have qi37:(0 < (t7003.size:Int))=True:=eq_true (of_decide_eq_true za7)
         replace q37:=eq_true q37
         have p38:0≤(0:Int):=(by omega)
         have q38:0 < t7002.size:=(by have:(0:Int) < (t7002.size:Int):=of_decide_eq_true za7;omega)
         have hx38:∀ h:0 < t7002.size,((t7002[0]'h).toNat:Int)=bt t7002 0:=bt_at t7002 0
         clear p38
         have qi38:(0 < (t7002.size:Int))=True:=eq_true (of_decide_eq_true za7)
         replace q38:=eq_true q38
         refine start_ (n:=16) (S:=fun w'=>w'.cell? ⟨gb7001,0,none⟩=some (.string t7002)∧w'.cell? ⟨gb7001,1,none⟩=some (.string t7003)) (ds:=[]) #[false,false,false,false,false,false,false,false,false,false,false,false,false,false,false,false] (by kernel_rfl) rfl rfl ⟨(blk_cell BK7001.out 0).trans rfl,(blk_cell BK7001.out 1).trans rfl⟩ (fun hHeld=>?_);refine with_tabW spec_MovesOf.tab8 spec_MovesOf.bits8 (fun HT_ HW_=>?_)
         generalize wc.drew=w42 at BK7001 HB hHeld ⊢
         refine zy 0 (some 37) HT_.out ?_
         refine zy 3 (some 40) HT_.out ?_
         refine zy 7 (some 44) HT_.out ?_
         refine zy 10 (some 47) HT_.out ?_
         refine ztk 1 (some 38) HT_.out HW_.out hHeld ?_
         refine ztk 2 (some 39) HT_.out HW_.out hHeld ?_
         refine ztk 4 (some 41) HT_.out HW_.out hHeld ?_
         refine ztk 5 (some 42) HT_.out HW_.out hHeld ?_
         refine ztk 8 (some 45) HT_.out HW_.out hHeld ?_
         refine ztk 9 (some 46) HT_.out HW_.out hHeld ?_
         refine ztk 11 (some 48) HT_.out HW_.out hHeld ?_
         refine ztk 12 (some 49) HT_.out HW_.out hHeld ?_
         refine zon 6 (some 43) HT_.out (fun K hK=>?_)
         refine goes_ Try.func27 (by kernel_rfl) rfl #[.int .u8 (bt t7002 0),.int .u8 (bt t7003 0)] (by rfl) rfl rfl za4 ?_
         with_reducible refine (spec_l12First.calls kj2 (bt t7002 0) (bt t7003 0) t7015 _ A36.out).mono ?_
         rintro e w43 ⟨v7016,rfl,ho0,hb⟩
         refine ⟨_,rfl,?_⟩
         have HO7017:=zk (Kd.R_lower ho0 (below_size za29))
         replace BK7001:=zk (zb BK7001.out hb)
         replace HB:=zk (below_step za29 hb)
         (try clear hb)
         (try clear hb2)
         (try clear hk)
         (try clear hi)
         (try clear ho0)
         refine hK.out _ _ ⟨(blk_cell BK7001.out 0).trans rfl,(blk_cell BK7001.out 1).trans rfl⟩ (fun hHeld=>?_)
         clear hK K
         refine zno (some 43) ?_
         refine zon 13 (some 50) HT_.out (fun K hK=>?_)
         refine goes_ Try.func27 (by kernel_rfl) rfl #[.int .u8 (bt t7003 0),.int .u8 (bt t7002 0)] (by rfl) rfl rfl za4 ?_
         with_reducible refine (spec_l12First.calls kj2 (bt t7003 0) (bt t7002 0) t7018 _ A39.out).mono ?_
         rintro e w44 ⟨v7019,rfl,ho0,hb⟩
         refine ⟨_,rfl,?_⟩
         have HO7020:=zk (Kd.R_lower (Kd.R_new' ho0 (Kd.R_lt (za0 HO7017.out))) (below_size za29))
         replace BK7001:=zk (zb BK7001.out hb)
         replace HO7017:=zk (Kd.R_elder' (za0 HO7017.out) (Kd.R_base ho0) hb)
         replace HB:=zk (below_step za29 hb)
         (try clear hb)
         (try clear hb2)
         (try clear hk)
         (try clear hi)
         (try clear ho0)
         obtain ⟨Ao46,co46,eo46⟩:=Kd.R_slice HO7020.out
         (first|subst eo46|(injection eo46 with f1_ f2_ f3_;have f4_:=f1_.symm;have f5_:=f3_.symm;clear f1_ f2_ f3_;subst f4_;subst f5_))
         refine hK.out _ _ ⟨(blk_cell BK7001.out 0).trans rfl,(blk_cell BK7001.out 1).trans rfl⟩ (fun hHeld=>?_)
         clear hK K
         refine zno (some 50) ?_
         refine zon 14 (some 51) HT_.out (fun K hK=>?_)
         refine Kd.R_append_rows_step k33 (w0:=w) w.heap.size (by rfl) (.tmp 43) (.tmp 50) 27 33 (.agg #[(.int .u8 0),(.string ⟨#[]⟩)]) 24 rfl Try.underlying27 info33 rfl (by decide) (by omega) v7016 t7015 t7018 _ _ _ (fun k_=>some k_ ≠ (.slice Ao46 t7018.length co46:Value).ownBlock) (fun _=>False) rfl rfl ?aO ?aR (fun _ _ h=>h) (fun _ h=>h.elim) ?aF ?aB ?aS ?aL ?_
         (case aR=>repeat (first|exact (Kd.R_reads' HO7020.out).2.2|(with_reducible refine Kd.C_alloc ?_ _)|(with_reducible refine Kd.C_drewN ?_ _)|(with_reducible refine Kd.C_drew ?_)))
         (case aB=>exact za29)
         (case aF=>exact (fun k_ hk=>Kd.fresh' (Kd.R_lt (za0 HO7020.out)) k_ hk))
         (case aO=>exact (by (with_reducible repeat (first|apply Kd.R_alloc|apply Kd.R_drewN|apply Kd.R_drew));exact Kd.R_mono HO7017.out (fun _ hk=>hk.2)))
         (case aS=>exact (below_size za29))
         (case aL=>have:=LMc40.out;omega)
         intro v7022 w45 ho hb hg hat
         rw [← Ny7021.out] at ho
         replace BK7001:=zk (blk_grown (g:=gb7001) (o:=.cells #[.string t7002,.string t7003] 25 (0,0)) (za1 BK7001.out) hg (Kd.R_ne HO7017.out BK7001.out (by decide)))
         replace HO7020:=zk (Kd.R_after (ok:=(fun _=>True)) (za0 HO7020.out) hg hat)
         replace HB:=zk (hb)
         have HO7023:=zk (ho)
         clear HO7017
         clear ho hb hg hat
         refine hK.out _ _ ⟨(blk_cell BK7001.out 0).trans rfl,(blk_cell BK7001.out 1).trans rfl⟩ (fun hHeld=>?_)
         clear hK K
         refine zno (some 51) ?_
         refine zy 15 (some 2) HT_.out ?_
         refine done_ (done_of HT_.out (by kernel_rfl)) ?_
         try go_wp2
         go_ret
         exact ⟨_,za9,by (with_reducible repeat (first|apply Kd.R_alloc|apply Kd.R_drewN|apply Kd.R_drew));exact Kd.R_mono HO7023.out (fun _ hk=>trivial),za29⟩
        ·rw [if_neg c40] at H
         exact absurd H (by simp)
       ·rw [if_neg c34] at H
        exact absurd H (by simp)
      ·rw [if_neg c32] at H
       exact absurd H (by simp)
def spec_l12Side.l0:Nat→ByteArray→Int→Option (Bool)
 | 0,_,_=>none
 | k+1,x0,x3=>if x3 < (x0.size:Int) then (if 0≤x3 then ((spec_LetterIndex.f k (bt x0 x3)).bind fun t33001=>(if t33001 < 0 then ((spec_l8Var.f (bt x0 x3)).bind fun t33002=>(if t33002=true then (spec_l12Side.l0 k x0 (wrap64 (x3+1))) else (if (bt x0 x3)=35 then (spec_l12Side.l0 k x0 (wrap64 (x3+1))) else (some false)))) else (spec_l12Side.l0 k x0 (wrap64 (x3+1))))) else (none)) else (some (decide ((x0.size:Int)≤24)))
def spec_l12Side.f (k:Nat) (a0:ByteArray):Option (Bool):=spec_l12Side.l0 k a0 0
theorem spec_l12Side.calls (k:Nat) (a0:ByteArray) (r:Bool) (w:World) (h:spec_l12Side.f k a0=some r) :
   Calls Try.prog 33 #[.string a0] w fun e w'=>e = .returned (.bool r)∧Drawn0 w w':=by
 have H:=h
 unfold spec_l12Side.f at H
 clear h
 have H':=zk H
 clear H
 go_enter Try.func33,Try.ntmps33
 go_wp2
 try simp only [Act.put,zt,zv,zu]
 go_loopg [3] k (fun kq v3 w'=>∃ (x3_1:Int),v3 = .int .i64 x3_1∧Aside0 (spec_l12Side.l0 kq a0 x3_1=some r)∧Aside0 (kq≤k)∧Drawn0 w w')
 case atStart=>exact ⟨(0),za8,H',⟨Nat.le_refl _⟩,za20⟩
 case round =>
  clear H'
  obtain ⟨x3_1,rfl,HA,HK1,⟨m1,rfl⟩⟩:=hrel
  cases gk with
  | zero=>exact absurd HA.out (by simp [spec_l12Side.l0])
  | succ k1 =>
   have H:=HA.out
   clear HA
   simp only [spec_l12Side.l0] at H
   by_cases c2:x3_1 < (a0.size:Int)
   rw [if_pos c2] at H
   have c2b0:=zdl c2
   clear c2
   by_cases c3:0≤x3_1
   rw [if_pos c3] at H
   have c3b0:=zdle c3
   clear c3
   replace H:=zo H
   obtain ⟨t33001,A50,H⟩:=H
   try dsimp only at H
   have A5:=zk A50
   clear A50
   by_cases c6:t33001 < 0
   rw [if_pos c6] at H
   have c6b0:=zdl c6
   clear c6
   replace H:=zo H
   obtain ⟨t33002,A80,H⟩:=H
   try dsimp only at H
   have A8:=zk A80
   clear A80
   by_cases c9:t33002=true
   · subst c9
     rw [if_pos rfl] at H
     try dsimp only at H
     have H':=zk H
     clear H
     have p4:0≤(x3_1:Int):=of_decide_eq_true za7
     have q4:x3_1 < (a0.size:Int):=of_decide_eq_true za7
     have hx4:=bt_at a0 x3_1
     replace p4:=eq_true p4
     replace q4:=eq_true q4
     go_wp2_with (first|((with_reducible refine gate_callee (f:=48) rfl ?_);refine goesL_ (some 13) rfl rfl Try.func48 (by kernel_rfl) rfl #[.int .u8 (bt a0 x3_1)] rfl za4 ?_;(with_reducible refine (spec_LetterIndex.calls k1 (bt a0 x3_1) t33001 _ A5.out).mono ?_);rintro e w' ⟨rfl,⟨nd,rfl⟩⟩;refine ⟨_,rfl,?_⟩;have p7:0≤(x3_1:Int):=of_decide_eq_true za7;have q7:x3_1 < (a0.size:Int):=of_decide_eq_true za7;have hx7:=bt_at a0 x3_1;replace p7:=eq_true p7;replace q7:=eq_true q7)|(go_at_call 30;(with_reducible refine (spec_l8Var.calls (bt a0 x3_1) _ _ A8.out).mono ?_);rintro e w' ⟨rfl,⟨nd,rfl⟩⟩))
     go_roundg k1
     case measure=>have:=HK1.out;omega
     case rel=>exact ⟨(wrap64 (x3_1+1)),za8,H',⟨za60⟩,za20⟩
   replace c9:=Bool.eq_false_iff.mpr c9
   subst c9
   rw [if_neg (show ¬ (false=true) by decide)] at H
   try dsimp only at H
   by_cases c11:(bt a0 x3_1)=35
   rw [if_pos c11] at H
   have c11b0:=zbt c11
   have c11b1:=zqn c11
   clear c11
   have H':=zk H
   clear H
   have fin0_:=zk trivial
   rotate_left
   rw [if_neg c11] at H
   have c11b0:=zbn c11
   have c11b1:=zqt c11
   obtain rfl:=zi H
   have fin1_:=zk trivial
   rotate_left
   · rw [if_neg c6] at H
     have c6b0:=zdnl c6
     clear c6
     have H':=zk H
     clear H
     have p4:0≤(x3_1:Int):=of_decide_eq_true za7
     have q4:x3_1 < (a0.size:Int):=of_decide_eq_true za7
     have hx4:=bt_at a0 x3_1
     replace p4:=eq_true p4
     replace q4:=eq_true q4
     go_wp2_with (first|((with_reducible refine gate_callee (f:=48) rfl ?_);refine goesL_ (some 13) rfl rfl Try.func48 (by kernel_rfl) rfl #[.int .u8 (bt a0 x3_1)] rfl za4 ?_;(with_reducible refine (spec_LetterIndex.calls k1 (bt a0 x3_1) t33001 _ A5.out).mono ?_);rintro e w' ⟨rfl,⟨nd,rfl⟩⟩;refine ⟨_,rfl,?_⟩))
     go_roundg k1
     case measure=>have:=HK1.out;omega
     case rel=>exact ⟨(wrap64 (x3_1+1)),za8,H',⟨za60⟩,za20⟩
   · rw [if_neg c3] at H
     exact absurd H (by simp)
   · rw [if_neg c2] at H
     have c2b0:=zdnl c2
     clear c2
     obtain rfl:=zi H
     go_wp2
     go_ret
     exact ⟨za8,za20⟩
   all_goals
    have p4:0≤(x3_1:Int):=of_decide_eq_true za7
    have q4:x3_1 < (a0.size:Int):=of_decide_eq_true za7
    have hx4:=bt_at a0 x3_1
    replace p4:=eq_true p4
    replace q4:=eq_true q4
    go_wp2_with (first|((with_reducible refine gate_callee (f:=48) rfl ?_);refine goesL_ (some 13) rfl rfl Try.func48 (by kernel_rfl) rfl #[.int .u8 (bt a0 x3_1)] rfl za4 ?_;(with_reducible refine (spec_LetterIndex.calls k1 (bt a0 x3_1) t33001 _ A5.out).mono ?_);rintro e w' ⟨rfl,⟨nd,rfl⟩⟩;refine ⟨_,rfl,?_⟩;have p7:0≤(x3_1:Int):=of_decide_eq_true za7;have q7:x3_1 < (a0.size:Int):=of_decide_eq_true za7;have hx7:=bt_at a0 x3_1;replace p7:=eq_true p7;replace q7:=eq_true q7)|(go_at_call 30;(with_reducible refine (spec_l8Var.calls (bt a0 x3_1) _ _ A8.out).mono ?_);rintro e w' ⟨rfl,⟨nd,rfl⟩⟩;have p10:0≤(x3_1:Int):=of_decide_eq_true za7;have q10:x3_1 < (a0.size:Int):=of_decide_eq_true za7;have hx10:=bt_at a0 x3_1;replace p10:=eq_true p10;replace q10:=eq_true q10))
    first
    | (
      clear fin0_
      go_roundg k1
      case measure=>have:=HK1.out;omega
      case rel=>exact ⟨(wrap64 (x3_1+1)),za8,H',⟨za60⟩,za20⟩)
    | (
      clear fin1_
      go_ret
      exact ⟨za8,za20⟩)
def spec_IsEquation.f (k:Nat) (a0_0:ByteArray) (a0_1:ByteArray):Option (Bool):=(spec_l12Side.f k a0_0).bind fun t15002=>(if t15002=true then ((spec_l12Side.f k a0_1).bind fun t15003=>(some t15003)) else (some false))
theorem spec_IsEquation.calls (k:Nat) (a0_0:ByteArray) (a0_1:ByteArray) (r:Bool) (w:World) (h:spec_IsEquation.f k a0_0 a0_1=some r) :
   Calls Try.prog 15 #[.agg #[.string a0_0,.string a0_1]] w fun e w'=>e = .returned (.bool r)∧Below w.heap.size w w':=by
 have hu25:=Try.underlying25
 have HB:=zk (Below.refl w.heap.size w)
 have H:=h
 unfold spec_IsEquation.f at H
 clear h
 replace H:=zo H
 obtain ⟨t15002,A20,H⟩:=H
 try dsimp only at H
 have A2:=zk A20
 clear A20
 by_cases c3:t15002=true
 subst c3
 rw [if_pos rfl] at H
 try dsimp only at H
 replace H:=zo H
 obtain ⟨t15003,A40,H⟩:=H
 try dsimp only at H
 have A4:=zk A40
 clear A40
 rotate_left
 replace c3:=Bool.eq_false_iff.mpr c3
 subst c3
 rw [if_neg (show ¬ (false=true) by decide)] at H
 try dsimp only at H
 rotate_left
 all_goals
  obtain rfl:=zi H
  go_enter Try.func15,Try.ntmps15
  go_wp2_with (first|((with_reducible refine gate_dst (N:=1) rfl ?_);refine zE (N:=1) (cs:=#[.string a0_0,.string a0_1]) (t:=25) ?_;intro gb15001 hg w5 hbox hb;have BK15001:=zk (hbox);have GW15001:=zk (zs (w:=w) hg za3);have GE15001:=zk (zs (w:=w) hg za3);replace HB:=zk (below_step za3 hb);clear hb hbox hg;obtain ⟨hcz6_0,hcz6_1,hfz6_0,hfz6_1⟩:=blk2 BK15001.out)|((with_reducible refine gate_callee (f:=33) rfl ?_);refine goesL_ (some 5) rfl rfl Try.func33 (by kernel_rfl) rfl #[.string a0_0] rfl za4 ?_;(with_reducible refine (spec_l12Side.calls k a0_0 _ _ A2.out).mono ?_);rintro e w' ⟨rfl,⟨nd,rfl⟩⟩;refine ⟨_,rfl,?_⟩)|(go_at_call 33;(with_reducible refine (spec_l12Side.calls k a0_1 t15003 _ A4.out).mono ?_);rintro e w' ⟨rfl,⟨nd,rfl⟩⟩))
  go_ret
  exact ⟨za9,za3⟩
def spec_IsQuadratic.l0:Nat→Int→ByteArray→ByteArray→Option (Bool)
 | 0,_,_,_=>none
 | k+1,x3,x13002000,x13002001=>if x3 < 3 then (if 0≤x3 then ((spec_CountByte.f k x13002000 (bt (⟨#[88,89,90]⟩:ByteArray) x3)).bind fun t13003=>((spec_CountByte.f k x13002001 (bt (⟨#[88,89,90]⟩:ByteArray) x3)).bind fun t13004=>(if (wrap64 (t13003+t13004)) > 2 then (some false) else (spec_IsQuadratic.l0 k (wrap64 (x3+1)) x13002000 x13002001)))) else (none)) else ((spec_IsEquation.f k x13002000 x13002001).bind fun t13002=>(some t13002))
def spec_IsQuadratic.f (k:Nat) (a0_0:ByteArray) (a0_1:ByteArray):Option (Bool):=spec_IsQuadratic.l0 k 0 a0_0 a0_1
theorem spec_IsQuadratic.calls (k:Nat) (a0_0:ByteArray) (a0_1:ByteArray) (r:Bool) (w:World) (h:spec_IsQuadratic.f k a0_0 a0_1=some r) :
   Calls Try.prog 13 #[.agg #[.string a0_0,.string a0_1]] w fun e w'=>e = .returned (.bool r)∧Below w.heap.size w w':=by
 have hu25:=Try.underlying25
 have HB:=zk (Below.refl w.heap.size w)
 have H:=h
 unfold spec_IsQuadratic.f at H
 clear h
 have H':=zk H
 clear H
 go_enter Try.func13,Try.ntmps13
 go_wp2_with (first|((with_reducible refine gate_dst (N:=1) rfl ?_);refine zE (N:=1) (cs:=#[.string a0_0,.string a0_1]) (t:=25) ?_;intro gb13001 hg w2 hbox hb;have BK13001:=zk (hbox);have GW13001:=zk (zs (w:=w) hg za3);have GE13001:=zk (zs (w:=w) hg za3);replace HB:=zk (below_step za3 hb);clear hb hbox hg))
 repeat (go_quiet (first|((with_reducible refine gate_dst (N:=1) rfl ?_);refine zE (N:=1) (cs:=#[.string a0_0,.string a0_1]) (t:=25) ?_;intro gb13001 hg w2 hbox hb;have BK13001:=zk (hbox);have GW13001:=zk (zs (w:=w) hg za3);have GE13001:=zk (zs (w:=w) hg za3);replace HB:=zk (below_step za3 hb);clear hb hbox hg));try go_wp2_with (first|((with_reducible refine gate_dst (N:=1) rfl ?_);refine zE (N:=1) (cs:=#[.string a0_0,.string a0_1]) (t:=25) ?_;intro gb13001 hg w2 hbox hb;have BK13001:=zk (hbox);have GW13001:=zk (zs (w:=w) hg za3);have GE13001:=zk (zs (w:=w) hg za3);replace HB:=zk (below_step za3 hb);clear hb hbox hg)))
 try simp only [Act.put,zt,zv,zu]
 go_loopg [3] k (fun kq v3 w'=>∃ (x3_1:Int),v3 = .int .i64 x3_1∧Aside0 (spec_IsQuadratic.l0 kq x3_1 a0_0 a0_1=some r)∧Aside0 (kq≤k)∧Aside0 (w'.heap[gb13001]? = some (.cells #[.string a0_0,.string a0_1] 25 (0,0)))∧Aside0 (Below w.heap.size w w'))
 case atStart=>exact ⟨(0),za8,H',⟨Nat.le_refl _⟩,⟨za1 BK13001.out⟩,⟨za3⟩⟩
 case round =>
  clear H'
  obtain ⟨x3_1,rfl,HA,HK1,BK13001,HB⟩:=hrel
  cases gk with
  | zero=>exact absurd HA.out (by simp [spec_IsQuadratic.l0])
  | succ k1 =>
   have H:=HA.out
   clear HA
   simp only [spec_IsQuadratic.l0] at H
   by_cases c3:x3_1 < 3
   rw [if_pos c3] at H
   have c3b0:=zdl c3
   clear c3
   by_cases c4:0≤x3_1
   rw [if_pos c4] at H
   have c4b0:=zdle c4
   clear c4
   replace H:=zo H
   obtain ⟨t13003,A60,H⟩:=H
   try dsimp only at H
   have A6:=zk A60
   clear A60
   replace H:=zo H
   obtain ⟨t13004,A80,H⟩:=H
   try dsimp only at H
   have A8:=zk A80
   clear A80
   by_cases c9:(wrap64 (t13003+t13004)) > 2
   rw [if_pos c9] at H
   have c9b0:=zdl c9
   have c9w:decide (2 < (IntKind.i64.wrap (t13003+t13004)))=true:=by simp only [i64_w];exact c9b0
   clear c9
   obtain rfl:=zi H
   obtain ⟨hcz10_0,hcz10_1,hfz10_0,hfz10_1⟩:=blk2 BK13001.out
   have p5:0≤(x3_1:Int):=of_decide_eq_true za7
   have q5:x3_1 < (3:Int):=of_decide_eq_true za7
   have hx5:=bt_at (⟨#[88,89,90]⟩:ByteArray) x3_1
   replace p5:=eq_true p5
   replace q5:=eq_true q5
   have fin0_:=zk trivial
   rotate_left
   rw [if_neg c9] at H
   have c9b0:=zdnl c9
   have c9w:decide (2 < (IntKind.i64.wrap (t13003+t13004)))=false:=by simp only [i64_w];exact c9b0
   clear c9
   have H':=zk H
   clear H
   obtain ⟨hcz11_0,hcz11_1,hfz11_0,hfz11_1⟩:=blk2 BK13001.out
   have p5:0≤(x3_1:Int):=of_decide_eq_true za7
   have q5:x3_1 < (3:Int):=of_decide_eq_true za7
   have hx5:=bt_at (⟨#[88,89,90]⟩:ByteArray) x3_1
   replace p5:=eq_true p5
   replace q5:=eq_true q5
   have fin1_:=zk trivial
   rotate_left
   · rw [if_neg c4] at H
     exact absurd H (by simp)
   rw [if_neg c3] at H
   have c3b0:=zdnl c3
   clear c3
   replace H:=zo H
   obtain ⟨t13002,A120,H⟩:=H
   try dsimp only at H
   have A12:=zk A120
   clear A120
   obtain rfl:=zi H
   obtain ⟨hcz13_0,hcz13_1,hfz13_0,hfz13_1⟩:=blk2 BK13001.out
   have fin0_:=zk trivial
   rotate_left
   all_goals
    go_wp2_with (first|(go_at_call 18;(with_reducible refine (spec_CountByte.calls k1 a0_0 (bt (⟨#[88,89,90]⟩:ByteArray) x3_1) t13003 _ A6.out).mono ?_);rintro e w' ⟨rfl,⟨nd,rfl⟩⟩;(try first|exact ⟨rfl,_,World.drewN_drewN _ _ _⟩|exact ⟨rfl,_,Eq.trans (World.drewN_drewN _ _ _) (congrArg (World.drewN _) (Nat.add_assoc _ _ _))⟩);have p7:0≤(x3_1:Int):=of_decide_eq_true za7;have q7:x3_1 < (3:Int):=of_decide_eq_true za7;have hx7:=bt_at (⟨#[88,89,90]⟩:ByteArray) x3_1;replace p7:=eq_true p7;replace q7:=eq_true q7)|(go_at_call 18;(with_reducible refine (spec_CountByte.calls k1 a0_1 (bt (⟨#[88,89,90]⟩:ByteArray) x3_1) t13004 _ A8.out).mono ?_);rintro e w' ⟨rfl,⟨nd,rfl⟩⟩;(try first|exact ⟨rfl,_,World.drewN_drewN _ _ _⟩|exact ⟨rfl,_,Eq.trans (World.drewN_drewN _ _ _) (congrArg (World.drewN _) (Nat.add_assoc _ _ _))⟩))|(go_at_call 15;(with_reducible refine (spec_IsEquation.calls k1 a0_0 a0_1 t13002 _ A12.out).mono ?_);rintro e w14 ⟨rfl,hb⟩;replace BK13001:=zk (zb BK13001.out hb);replace HB:=zk (below_step za3 hb);(try clear hb);(try clear hb2);(try clear hk);(try clear hi)))
    repeat (go_quiet (first|(go_at_call 18;(with_reducible refine (spec_CountByte.calls k1 a0_0 (bt (⟨#[88,89,90]⟩:ByteArray) x3_1) t13003 _ A6.out).mono ?_);rintro e w' ⟨rfl,⟨nd,rfl⟩⟩;(try first|exact ⟨rfl,_,World.drewN_drewN _ _ _⟩|exact ⟨rfl,_,Eq.trans (World.drewN_drewN _ _ _) (congrArg (World.drewN _) (Nat.add_assoc _ _ _))⟩);have p7:0≤(x3_1:Int):=of_decide_eq_true za7;have q7:x3_1 < (3:Int):=of_decide_eq_true za7;have hx7:=bt_at (⟨#[88,89,90]⟩:ByteArray) x3_1;replace p7:=eq_true p7;replace q7:=eq_true q7)|(go_at_call 18;(with_reducible refine (spec_CountByte.calls k1 a0_1 (bt (⟨#[88,89,90]⟩:ByteArray) x3_1) t13004 _ A8.out).mono ?_);rintro e w' ⟨rfl,⟨nd,rfl⟩⟩;(try first|exact ⟨rfl,_,World.drewN_drewN _ _ _⟩|exact ⟨rfl,_,Eq.trans (World.drewN_drewN _ _ _) (congrArg (World.drewN _) (Nat.add_assoc _ _ _))⟩))|(go_at_call 15;(with_reducible refine (spec_IsEquation.calls k1 a0_0 a0_1 t13002 _ A12.out).mono ?_);rintro e w14 ⟨rfl,hb⟩;replace BK13001:=zk (zb BK13001.out hb);replace HB:=zk (below_step za3 hb);(try clear hb);(try clear hb2);(try clear hk);(try clear hi)));try go_wp2_with (first|(go_at_call 18;(with_reducible refine (spec_CountByte.calls k1 a0_0 (bt (⟨#[88,89,90]⟩:ByteArray) x3_1) t13003 _ A6.out).mono ?_);rintro e w' ⟨rfl,⟨nd,rfl⟩⟩;(try first|exact ⟨rfl,_,World.drewN_drewN _ _ _⟩|exact ⟨rfl,_,Eq.trans (World.drewN_drewN _ _ _) (congrArg (World.drewN _) (Nat.add_assoc _ _ _))⟩);have p7:0≤(x3_1:Int):=of_decide_eq_true za7;have q7:x3_1 < (3:Int):=of_decide_eq_true za7;have hx7:=bt_at (⟨#[88,89,90]⟩:ByteArray) x3_1;replace p7:=eq_true p7;replace q7:=eq_true q7)|(go_at_call 18;(with_reducible refine (spec_CountByte.calls k1 a0_1 (bt (⟨#[88,89,90]⟩:ByteArray) x3_1) t13004 _ A8.out).mono ?_);rintro e w' ⟨rfl,⟨nd,rfl⟩⟩;(try first|exact ⟨rfl,_,World.drewN_drewN _ _ _⟩|exact ⟨rfl,_,Eq.trans (World.drewN_drewN _ _ _) (congrArg (World.drewN _) (Nat.add_assoc _ _ _))⟩))|(go_at_call 15;(with_reducible refine (spec_IsEquation.calls k1 a0_0 a0_1 t13002 _ A12.out).mono ?_);rintro e w14 ⟨rfl,hb⟩;replace BK13001:=zk (zb BK13001.out hb);replace HB:=zk (below_step za3 hb);(try clear hb);(try clear hb2);(try clear hk);(try clear hi))))
    first
    | (
      clear fin0_
      go_ret
      exact ⟨za9,za3⟩)
    | (
      clear fin1_
      go_roundg k1
      case measure=>have:=HK1.out;omega
      case rel=>exact ⟨(wrap64 (x3_1+1)),za8,H',⟨za60⟩,⟨za1 BK13001.out⟩,⟨za3⟩⟩)
def spec_ApplyMove.f (k:Nat) (a0_0:ByteArray) (a0_1:ByteArray) (a1_0:Int) (a1_1:ByteArray):Option (ByteArray × ByteArray):=(spec_ReplaceVar.f k a0_0 a1_0 a1_1).bind fun t17004=>((spec_ReplaceVar.f k a0_1 a1_0 a1_1).bind fun t17005=>((spec_StripEquation.f k t17004 t17005).bind fun bt17006=>(some (bt17006.1,bt17006.2))))
def spec_ApplyMove.T1:Bool × List (List Nat × List Nat):=(true,[([],[]),([0],[0]),([],[]),([2],[2]),([],[]),([4],[4]),([1,3,5],[1,3,5]),([],[]),([7],[7]),([],[]),([9],[9]),([],[]),([11],[11]),([8,10,12,6],[8,10,12]),([6,13],[6,13]),([14,13],[14]),([15,15,0,1,2,3,4,5,6,7,8,9,10,11,12,13,14,15],[15])])
def spec_ApplyMove.B1:List Nat:=[0,1,0,4,0,16,63,0,128,0,512,0,2048,8191,16383,32767,65535]
theorem spec_ApplyMove.tab1:rtab .any (opsOf Try.f17 1)=spec_ApplyMove.T1:=by kernel_rfl
theorem spec_ApplyMove.bits1:waitsOk spec_ApplyMove.T1.2 spec_ApplyMove.B1=true:=by kernel_rfl
theorem spec_ApplyMove.calls (k:Nat) (a0_0:ByteArray) (a0_1:ByteArray) (a1_0:Int) (a1_1:ByteArray) (r1:ByteArray) (r2:ByteArray) (w:World) (h:spec_ApplyMove.f k a0_0 a0_1 a1_0 a1_1=some (r1,r2)) :
  Calls Try.prog 17 #[.agg #[.string a0_0,.string a0_1],.agg #[.int .u8 a1_0,.string a1_1]] w fun e w'=>e = .returned (.agg #[.string r1,.string r2])∧Below w.heap.size w w':=by
 have hu25:=Try.underlying25
 have hu33:=Try.underlying33
 have HB:=zk (Below.refl w.heap.size w)
 have H:=h
 unfold spec_ApplyMove.f at H
 clear h
 replace H:=zo H
 obtain ⟨t17004,A30,H⟩:=H
 try dsimp only at H
 have A3:=zk A30
 clear A30
 replace H:=zo H
 obtain ⟨t17005,A40,H⟩:=H
 try dsimp only at H
 have A4:=zk A40
 clear A40
 replace H:=zo H
 obtain ⟨⟨t17006,t17007⟩,A50,H⟩:=H
 try dsimp only at H
 have A5:=zk A50
 clear A50
 simp only [Option.some.injEq,Prod.mk.injEq] at H
 obtain ⟨rfl,rfl⟩:=H
 go_enter Try.func17,Try.ntmps17
 try go_wp2_with (first|((with_reducible refine gate_dst (N:=2) rfl ?_);refine zE (N:=2) (cs:=#[.string a0_0,.string a0_1]) (t:=25) ?_;intro gb17001 hg w6 hbox hb;have BK17001:=zk (hbox);have GW17001:=zk (zs (w:=w) hg za3);have GE17001:=zk (zs (w:=w) hg za3);replace HB:=zk (below_step za3 hb);clear hb hbox hg)|((with_reducible refine gate_dst (N:=3) rfl ?_);refine zE (N:=3) (cs:=#[.int .u8 a1_0,.string a1_1]) (t:=33) ?_;intro gb17002 hg w7 hbox hb;have BK17002:=zk (hbox);have GW17002:=zk (zs (w:=w) hg za3);have GE17002:=zk (zs (w:=w) hg za3);have NB17001_17002:=zk ((by rw [hg];exact Nat.ne_of_lt (zl BK17001.out):gb17001 ≠ gb17002));have NB17002_17001:=zk ((by rw [hg];exact Nat.ne_of_gt (zl BK17001.out):gb17002 ≠ gb17001));replace BK17001:=zk (zb BK17001.out hb);replace HB:=zk (below_step za3 hb);clear hb hbox hg)|((with_reducible refine gate_dst (N:=4) rfl ?_);refine zE (N:=4) (cs:=#[.string (⟨#[]⟩:ByteArray),.string (⟨#[]⟩:ByteArray)]) (t:=25) ?_;intro gb17003 hg w8 hbox hb;have BK17003:=zk (hbox);have GW17003:=zk (zs (w:=w) hg za3);have GE17003:=zk (zs (w:=w) hg za3);have NB17001_17003:=zk ((by rw [hg];exact Nat.ne_of_lt (zl BK17001.out):gb17001 ≠ gb17003));have NB17003_17001:=zk ((by rw [hg];exact Nat.ne_of_gt (zl BK17001.out):gb17003 ≠ gb17001));have NB17002_17003:=zk ((by rw [hg];exact Nat.ne_of_lt (zl BK17002.out):gb17002 ≠ gb17003));have NB17003_17002:=zk ((by rw [hg];exact Nat.ne_of_gt (zl BK17002.out):gb17003 ≠ gb17002));replace BK17001:=zk (zb BK17001.out hb);replace BK17002:=zk (zb BK17002.out hb);replace HB:=zk (below_step za3 hb);clear hb hbox hg))
 replace BK17001:=zk (blk_drew BK17001.out)
 replace BK17002:=zk (blk_drew BK17002.out)
 replace BK17003:=zk (blk_drew BK17003.out)
 replace HB:=zk (below_drew1 HB.out)
 refine start_ (n:=17) (S:=fun w'=>w'.cell? ⟨gb17001,0,none⟩=some (.string a0_0)∧w'.cell? ⟨gb17001,1,none⟩=some (.string a0_1)∧w'.cell? ⟨gb17002,0,none⟩=some (.int .u8 a1_0)∧w'.cell? ⟨gb17002,1,none⟩=some (.string a1_1)) (ds:=[]) #[false,false,false,false,false,false,false,false,false,false,false,false,false,false,false,false,false] (by kernel_rfl) rfl rfl ⟨(blk_cell BK17001.out 0).trans rfl,(blk_cell BK17001.out 1).trans rfl,(blk_cell BK17002.out 0).trans rfl,(blk_cell BK17002.out 1).trans rfl⟩ (fun hHeld=>?_);refine with_tabW spec_ApplyMove.tab1 spec_ApplyMove.bits1 (fun HT_ HW_=>?_)
 generalize w8.drew=w9 at BK17001 BK17002 BK17003 HB hHeld ⊢
 refine zy 0 (some 5) HT_.out ?_
 refine zy 2 (some 7) HT_.out ?_
 refine zy 4 (some 9) HT_.out ?_
 refine zy 7 (some 12) HT_.out ?_
 refine zy 9 (some 14) HT_.out ?_
 refine zy 11 (some 16) HT_.out ?_
 refine ztk 1 (some 6) HT_.out HW_.out hHeld ?_
 refine ztk 3 (some 8) HT_.out HW_.out hHeld ?_
 refine ztk 5 (some 10) HT_.out HW_.out hHeld ?_
 refine ztk 8 (some 13) HT_.out HW_.out hHeld ?_
 refine ztk 10 (some 15) HT_.out HW_.out hHeld ?_
 refine ztk 12 (some 17) HT_.out HW_.out hHeld ?_
 refine zon 6 (some 11) HT_.out (fun K hK=>?_)
 refine goes_ Try.func35 (by kernel_rfl) rfl #[.string a0_0,.int .u8 a1_0,.string a1_1] (by rfl) rfl rfl za4 ?_
 with_reducible refine (spec_ReplaceVar.calls k a0_0 a1_0 a1_1 t17004 _ A3.out).mono ?_
 rintro e w' ⟨rfl,⟨nd,rfl⟩⟩
 refine ⟨_,rfl,?_⟩
 refine hK.out _ _ ⟨(blk_cell BK17001.out 0).trans rfl,(blk_cell BK17001.out 1).trans rfl,(blk_cell BK17002.out 0).trans rfl,(blk_cell BK17002.out 1).trans rfl⟩ (fun hHeld=>?_)
 clear hK K
 refine zno (some 11) ?_
 refine zon 13 (some 18) HT_.out (fun K hK=>?_)
 refine goes_ Try.func35 (by kernel_rfl) rfl #[.string a0_1,.int .u8 a1_0,.string a1_1] (by rfl) rfl rfl za4 ?_
 with_reducible refine (spec_ReplaceVar.calls k a0_1 a1_0 a1_1 t17005 _ A4.out).mono ?_
 rintro e w' ⟨rfl,⟨nd,rfl⟩⟩
 refine ⟨_,rfl,?_⟩
 refine hK.out _ _ ⟨(blk_cell BK17001.out 0).trans rfl,(blk_cell BK17001.out 1).trans rfl,(blk_cell BK17002.out 0).trans rfl,(blk_cell BK17002.out 1).trans rfl⟩ (fun hHeld=>?_)
 clear hK K
 refine zno (some 18) ?_
 refine zy 14 (some 19) HT_.out ?_
 refine zon 15 (some 20) HT_.out (fun K hK=>?_)
 refine goes_ Try.func9 (by kernel_rfl) rfl #[.agg #[.string t17004,.string t17005]] (by rfl) rfl rfl za4 ?_
 with_reducible refine (spec_StripEquation.calls k t17004 t17005 t17006 t17007 _ A5.out).mono ?_
 rintro e w10 ⟨rfl,hb⟩
 refine ⟨_,rfl,?_⟩
 replace BK17001:=zk (zb BK17001.out hb)
 replace BK17002:=zk (zb BK17002.out hb)
 replace BK17003:=zk (zb BK17003.out hb)
 replace HB:=zk (below_step za3 hb)
 (try clear hb)
 (try clear hb2)
 (try clear hk)
 (try clear hi)
 refine hK.out _ _ ⟨(blk_cell BK17001.out 0).trans rfl,(blk_cell BK17001.out 1).trans rfl,(blk_cell BK17002.out 0).trans rfl,(blk_cell BK17002.out 1).trans rfl⟩ (fun hHeld=>?_)
 clear hK K
 refine zno (some 20) ?_
 refine zon 16 none HT_.out (fun K hK=>?_)
 have hs11:w10.cell? ⟨gb17003,0,none⟩=some (.string (⟨#[]⟩:ByteArray)):=(blk_cell BK17003.out 0).trans rfl
 have hfs11:=blk_frozen BK17003.out 0
 have hns11_0:=NB17001_17003.out
 have hns11_1:=NB17002_17003.out
 have hms11_0:=NB17003_17001.out
 have hms11_1:=NB17003_17002.out
 have hs12:w10.cell? ⟨gb17003,1,none⟩=some (.string (⟨#[]⟩:ByteArray)):=(blk_cell BK17003.out 1).trans rfl
 have hfs12:=blk_frozen BK17003.out 1
 have hns12_0:=NB17001_17003.out
 have hns12_1:=NB17002_17003.out
 have hms12_0:=NB17003_17001.out
 have hms12_1:=NB17003_17002.out
 refine skip_ (w1:=?_) (by rfl) rfl ?_ ?_
 rotate_left
 ·go_simp
  rfl
 refine hK.out _ _ ⟨((cell_far (p:=⟨gb17003,_,none⟩) NB17001_17003.out _).trans (((cell_far (p:=⟨gb17003,_,none⟩) NB17001_17003.out _).trans (hHeld.1)))),((cell_far (p:=⟨gb17003,_,none⟩) NB17001_17003.out _).trans (((cell_far (p:=⟨gb17003,_,none⟩) NB17001_17003.out _).trans (hHeld.2.1)))),((cell_far (p:=⟨gb17003,_,none⟩) NB17002_17003.out _).trans (((cell_far (p:=⟨gb17003,_,none⟩) NB17002_17003.out _).trans (hHeld.2.2.1)))),((cell_far (p:=⟨gb17003,_,none⟩) NB17002_17003.out _).trans (((cell_far (p:=⟨gb17003,_,none⟩) NB17002_17003.out _).trans (hHeld.2.2.2))))⟩ (fun hHeld=>?_)
 clear hK K
 refine done_ (done_of HT_.out (by kernel_rfl)) ?_
 try go_wp2
 refine bodyPost_ret (results_cell_row rfl _ _ gb17003 25 #[.string t17006,.string t17007] (0,0) _ rfl (zpu BK17003.out) Try.underlying25 rfl (by kernel_rfl)) rfl ?_
 exact ⟨za9,za3⟩
def spec_JoinEquations.l0:Nat→List ByteArray→List ByteArray→Int→List (S61)→Option (ByteArray × ByteArray × Bool)
 | 0,_,_,_,_=>none
 | k+1,x4,x5,x6,x21002000=>if x6 < (x21002000.length:Int) then (if 0≤x6 then (if ((rd_T61 x21002000 x6).f0)=1 then (if x4.length < 8796093022208 then (if x5.length < 8796093022208 then (spec_JoinEquations.l0 k (x4 ++ [(rd_T61 x21002000 x6).f1]) (x5 ++ [(rd_T61 x21002000 x6).f2]) (wrap64 (x6+1)) x21002000) else (none)) else (none)) else (spec_JoinEquations.l0 k x4 x5 (wrap64 (x6+1)) x21002000)) else (none)) else ((spec_Join.f k x4 (⟨#[35]⟩:ByteArray)).bind fun t21018=>((spec_Join.f k x5 (⟨#[35]⟩:ByteArray)).bind fun t21019=>((spec_IsValidProblem.f k x21002000).bind fun t21021=>(if t21021=true then ((spec_IsEquation.f k t21018 t21019).bind fun t21022=>(if t21022=true then (some (t21018,t21019,true)) else (some ((⟨#[]⟩:ByteArray),(⟨#[]⟩:ByteArray),false)))) else (some ((⟨#[]⟩:ByteArray),(⟨#[]⟩:ByteArray),false))))))
def spec_JoinEquations.f (k:Nat) (l0_0:List (S61)):Option (ByteArray × ByteArray × Bool):=spec_JoinEquations.l0 k (([]:List ByteArray)) (([]:List ByteArray)) 0 l0_0
theorem spec_JoinEquations.calls (k:Nat) (A0_0:Option Addr) (c0_0:Nat) (l0_0:List (S61)) (r1:ByteArray) (r2:ByteArray) (r3:Bool) (w:World) (hr0_0:Kd.C k61 w A0_0 l0_0.length l0_0) (hc0_0:l0_0.length≤c0_0) (h:spec_JoinEquations.f k l0_0=some (r1,r2,r3)) :
   Calls Try.prog 21 #[.agg #[.slice A0_0 l0_0.length c0_0]] w fun e w'=>e = .returned (.tuple #[.agg #[.string r1,.string r2],.bool r3])∧Below w.heap.size w w':=by
 have hu37:=Try.underlying37
 have hu25:=Try.underlying25
 have HR0_0:=zk hr0_0
 have HC0_0:=zk hc0_0
 clear hr0_0 hc0_0
 have HB:=zk (Below.refl w.heap.size w)
 have H:=h
 unfold spec_JoinEquations.f at H
 clear h
 obtain ⟨y21003,hy21003⟩:∃ y_:List ByteArray,y_=(([]:List ByteArray)):=⟨_,rfl⟩
 replace H:(spec_JoinEquations.l0 k y21003 (([]:List ByteArray)) 0 l0_0)=some (r1,r2,r3):=by first|(rw [hy21003];with_reducible exact H)|(have H2_:=(Option.bind_some _ _).symm.trans H;rw [hy21003];with_reducible exact H2_)|(have H2_:=(Option.bind_some _ _).symm.trans H;with_reducible exact H2_)|with_reducible exact H|(rw [hy21003];exact H)|exact H
 have Ny21003:=zk hy21003
 clear hy21003
 obtain ⟨y21006,hy21006⟩:∃ y_:List ByteArray,y_=(([]:List ByteArray)):=⟨_,rfl⟩
 replace H:(spec_JoinEquations.l0 k y21003 y21006 0 l0_0)=some (r1,r2,r3):=by first|(rw [hy21006];with_reducible exact H)|(have H2_:=(Option.bind_some _ _).symm.trans H;rw [hy21006];with_reducible exact H2_)|(have H2_:=(Option.bind_some _ _).symm.trans H;with_reducible exact H2_)|with_reducible exact H|(rw [hy21006];exact H)|exact H
 have Ny21006:=zk hy21006
 clear hy21006
 have H':=zk H
 clear H
 go_enter Try.func21,Try.ntmps21
 go_wp2_with (first|((with_reducible refine gate_dst (N:=1) rfl ?_);refine zE (N:=1) (cs:=#[.slice A0_0 l0_0.length c0_0]) (t:=37) ?_;intro gb21001 hg w2 hbox hb;have BK21001:=zk (hbox);have GW21001:=zk (zs (w:=w) hg za3);have GE21001:=zk (zs (w:=w) hg za3);replace HB:=zk (below_step za3 hb);clear hb hbox hg)|((with_reducible refine gate_dst (N:=2) rfl ?_);refine zE (N:=2) (cs:=#[.string (⟨#[]⟩:ByteArray),.string (⟨#[]⟩:ByteArray)]) (t:=25) ?_;intro gb21002 hg w3 hbox hb;have BK21002:=zk (hbox);have GW21002:=zk (zs (w:=w) hg za3);have GE21002:=zk (zs (w:=w) hg za3);have NB21001_21002:=zk ((by rw [hg];exact Nat.ne_of_lt (zl BK21001.out):gb21001 ≠ gb21002));have NB21002_21001:=zk ((by rw [hg];exact Nat.ne_of_gt (zl BK21001.out):gb21002 ≠ gb21001));replace BK21001:=zk (zb BK21001.out hb);replace HB:=zk (below_step za3 hb);clear hb hbox hg)|((with_reducible refine gate_dst (N:=8) rfl ?_);refine Kd.R_lit Kd.string _ 9 ?hg (N:=8) ?hd (xs:=([]:List ByteArray)) (inner:=[]) (ok:=fun _=>True) (okp:=fun _=>True) ?hr ?hp (fun _ hk=>hk) trivial (Below.refl _ _) (Nat.le_refl _) (by simp) ?_;(case hd=>rfl);(case hg=>rfl);(case hr=>first|(go_simp;done)|(go_simp;rfl));(case hp=>exact (Reps.none _ _));intro v21004 w4 ho5 hb hg_ hnew_;clear hg_ hnew_;(first|rw [← Ny21003.out] at ho5|(simp only [Int.reduceToNat] at ho5;rw [← Ny21003.out] at ho5));have HO21005:=zk (Kd.R_lower ho5 (below_size za3));replace BK21001:=zk (zb BK21001.out hb);replace BK21002:=zk (zb BK21002.out hb);replace HB:=zk (below_step za3 hb);clear hb ho5)|((with_reducible refine gate_dst (N:=9) rfl ?_);refine Kd.R_lit Kd.string _ 9 ?hg (N:=9) ?hd (xs:=([]:List ByteArray)) (inner:=[]) (ok:=fun _=>True) (okp:=fun _=>True) ?hr ?hp (fun _ hk=>hk) trivial (Below.refl _ _) (Nat.le_refl _) (by simp) ?_;(case hd=>rfl);(case hg=>rfl);(case hr=>first|(go_simp;done)|(go_simp;rfl));(case hp=>exact (Reps.none _ _));intro v21007 w6 ho7 hb hg_ hnew_;clear hg_ hnew_;(first|rw [← Ny21006.out] at ho7|(simp only [Int.reduceToNat] at ho7;rw [← Ny21006.out] at ho7));have HO21008:=zk (Kd.R_lower (Kd.R_new' ho7 (Kd.R_lt (za0 HO21005.out))) (below_size za3));replace BK21001:=zk (zb BK21001.out hb);replace BK21002:=zk (zb BK21002.out hb);replace HO21005:=zk (Kd.R_elder' (za0 HO21005.out) (Kd.R_base ho7) hb);replace HB:=zk (below_step za3 hb);clear hb ho7))
 try simp only [Act.put,zt,zv,zu]
 go_loopg [4,5,6] k (fun kq v4 v5 v6 w'=>∃ (x4_1:List ByteArray) (x5_1:List ByteArray) (x6_1:Int),v6 = .int .i64 x6_1∧Aside0 (spec_JoinEquations.l0 kq x4_1 x5_1 x6_1 l0_0=some (r1,r2,r3))∧Aside0 (kq≤k)∧Aside0 (Kd.R Kd.string 9 w' w.heap.size (fun k_=>some k_ ≠ (v5:Value).ownBlock) v4 x4_1)∧Aside0 (Kd.R Kd.string 9 w' w.heap.size (fun k_=>some k_ ≠ (v4:Value).ownBlock) v5 x5_1)∧Aside0 (w'.heap[gb21001]? = some (.cells #[(.slice A0_0 l0_0.length c0_0)] 37 (0,0)))∧Aside0 (w'.heap[gb21002]? = some (.cells #[.string (⟨#[]⟩:ByteArray),.string (⟨#[]⟩:ByteArray)] 25 (0,0)))∧Aside0 (Below w.heap.size w w'))
 case atStart=>exact ⟨(y21003),(y21006),(0),za8,H',⟨Nat.le_refl _⟩,⟨by (with_reducible repeat (first|apply Kd.R_alloc|apply Kd.R_drewN|apply Kd.R_drew));exact Kd.R_mono HO21005.out (fun _ hk=>hk.2)⟩,⟨by (with_reducible repeat (first|apply Kd.R_alloc|apply Kd.R_drewN|apply Kd.R_drew));exact Kd.R_mono HO21008.out (fun _ hk=>hk.2)⟩,⟨za1 BK21001.out⟩,⟨za1 BK21002.out⟩,⟨za3⟩⟩
 case round =>
  clear H'
  obtain ⟨x4_1,x5_1,x6_1,rfl,HA,HK1,HO_4,HO_5,BK21001,BK21002,HB⟩:=hrel
  cases gk with
  | zero=>exact absurd HA.out (by simp [spec_JoinEquations.l0])
  | succ k1 =>
   have H:=HA.out
   clear HA
   simp only [spec_JoinEquations.l0] at H
   by_cases c8:x6_1 < (l0_0.length:Int)
   rw [if_pos c8] at H
   have c8b0:=zdl c8
   clear c8
   by_cases c9:0≤x6_1
   rw [if_pos c9] at H
   have c9b0:=zdle c9
   clear c9
   by_cases c10:((rd_T61 l0_0 x6_1).f0)=1
   rw [if_pos c10] at H
   have c10b0:=zbt c10
   have c10b1:=zqn c10
   clear c10
   by_cases c11:x4_1.length < 8796093022208
   rw [if_pos c11] at H
   have LMc11:=zk c11
   clear c11
   obtain ⟨y21011,hy21011⟩:∃ y_:List ByteArray,y_=(x4_1 ++ [(rd_T61 l0_0 x6_1).f1]):=⟨_,rfl⟩
   replace H:(if x5_1.length < 8796093022208 then (spec_JoinEquations.l0 k1 y21011 (x5_1 ++ [(rd_T61 l0_0 x6_1).f2]) (wrap64 (x6_1+1)) l0_0) else (none))=some (r1,r2,r3):=by first|(rw [hy21011];with_reducible exact H)|(have H2_:=(Option.bind_some _ _).symm.trans H;rw [hy21011];with_reducible exact H2_)|(have H2_:=(Option.bind_some _ _).symm.trans H;with_reducible exact H2_)|with_reducible exact H|(rw [hy21011];exact H)|exact H
   have Ny21011:=zk hy21011
   clear hy21011
   by_cases c12:x5_1.length < 8796093022208
   rw [if_pos c12] at H
   have LMc12:=zk c12
   clear c12
   obtain ⟨y21015,hy21015⟩:∃ y_:List ByteArray,y_=(x5_1 ++ [(rd_T61 l0_0 x6_1).f2]):=⟨_,rfl⟩
   replace H:(spec_JoinEquations.l0 k1 y21011 y21015 (wrap64 (x6_1+1)) l0_0)=some (r1,r2,r3):=by first|(rw [hy21015];with_reducible exact H)|(have H2_:=(Option.bind_some _ _).symm.trans H;rw [hy21015];with_reducible exact H2_)|(have H2_:=(Option.bind_some _ _).symm.trans H;with_reducible exact H2_)|with_reducible exact H|(rw [hy21015];exact H)|exact H
   have Ny21015:=zk hy21015
   clear hy21015
   have H':=zk H
   clear H
   have hnb13:=NB21001_21002.out
   have hnc13:=NB21002_21001.out
   obtain ⟨hcz14_0,hfz14_0⟩:=blk1 BK21001.out
   have p21009:0≤(x6_1:Int):=of_decide_eq_true za7
   have q21009:x6_1 < (l0_0.length:Int):=of_decide_eq_true za7
   obtain ⟨ad21009,A21009_5,c21009_5,A21009_6,c21009_6,e21009,hx21009_0,hx21009_1,hx21009_2,hx21009_3,hx21009_4,hx21009_5,hx21009_6,hx21009_7,hl21009_5,hi21009_5,hl21009_6,hi21009_6⟩:=at_T61 HR0_0.out x6_1 p21009 q21009
   cases e21009
   replace hx21009_0:=zx HB.out hx21009_0
   replace hx21009_1:=zx HB.out hx21009_1
   replace hx21009_2:=zx HB.out hx21009_2
   replace hx21009_3:=zx HB.out hx21009_3
   replace hx21009_4:=zx HB.out hx21009_4
   replace hx21009_5:=zx HB.out hx21009_5
   replace hx21009_6:=zx HB.out hx21009_6
   replace hx21009_7:=zx HB.out hx21009_7
   have HR21009_5:=zk hi21009_5
   have HC21009_5:=zk hl21009_5
   clear hi21009_5 hl21009_5
   have HR21009_6:=zk hi21009_6
   have HC21009_6:=zk hl21009_6
   clear hi21009_6 hl21009_6
   replace p21009:=eq_true p21009
   replace q21009:=eq_true q21009
   have p21010:0≤(x6_1:Int):=of_decide_eq_true za7
   have q21010:x6_1 < (l0_0.length:Int):=of_decide_eq_true za7
   obtain ⟨ad21010,A21010_5,c21010_5,A21010_6,c21010_6,e21010,hx21010_0,hx21010_1,hx21010_2,hx21010_3,hx21010_4,hx21010_5,hx21010_6,hx21010_7,hl21010_5,hi21010_5,hl21010_6,hi21010_6⟩:=at_T61 HR0_0.out x6_1 p21010 q21010
   obtain rfl:ad21009=ad21010:=(by injection e21010)
   replace hx21010_0:=zx HB.out hx21010_0
   replace hx21010_1:=zx HB.out hx21010_1
   replace hx21010_2:=zx HB.out hx21010_2
   replace hx21010_3:=zx HB.out hx21010_3
   replace hx21010_4:=zx HB.out hx21010_4
   replace hx21010_5:=zx HB.out hx21010_5
   replace hx21010_6:=zx HB.out hx21010_6
   replace hx21010_7:=zx HB.out hx21010_7
   have HR21010_5:=zk hi21010_5
   have HC21010_5:=zk hl21010_5
   clear hi21010_5 hl21010_5
   have HR21010_6:=zk hi21010_6
   have HC21010_6:=zk hl21010_6
   clear hi21010_6 hl21010_6
   replace p21010:=eq_true p21010
   replace q21010:=eq_true q21010
   have ea_:=zi (hx21009_5.symm.trans hx21010_5)
   injection ea_ with ea_ en_ ec_
   subst ea_
   subst ec_
   clear en_
   have ea_:=zi (hx21009_6.symm.trans hx21010_6)
   injection ea_ with ea_ en_ ec_
   subst ea_
   subst ec_
   clear en_
   have fin1_:=zk trivial
   rotate_left
   · rw [if_neg c12] at H
     exact absurd H (by simp)
   · rw [if_neg c11] at H
     exact absurd H (by simp)
   rw [if_neg c10] at H
   have c10b0:=zbn c10
   have c10b1:=zqt c10
   have H':=zk H
   clear H
   have hnb18:=NB21001_21002.out
   have hnc18:=NB21002_21001.out
   obtain ⟨hcz19_0,hfz19_0⟩:=blk1 BK21001.out
   have p21009:0≤(x6_1:Int):=of_decide_eq_true za7
   have q21009:x6_1 < (l0_0.length:Int):=of_decide_eq_true za7
   obtain ⟨ad21009,A21009_5,c21009_5,A21009_6,c21009_6,e21009,hx21009_0,hx21009_1,hx21009_2,hx21009_3,hx21009_4,hx21009_5,hx21009_6,hx21009_7,hl21009_5,hi21009_5,hl21009_6,hi21009_6⟩:=at_T61 HR0_0.out x6_1 p21009 q21009
   cases e21009
   replace hx21009_0:=zx HB.out hx21009_0
   replace hx21009_1:=zx HB.out hx21009_1
   replace hx21009_2:=zx HB.out hx21009_2
   replace hx21009_3:=zx HB.out hx21009_3
   replace hx21009_4:=zx HB.out hx21009_4
   replace hx21009_5:=zx HB.out hx21009_5
   replace hx21009_6:=zx HB.out hx21009_6
   replace hx21009_7:=zx HB.out hx21009_7
   have HR21009_5:=zk hi21009_5
   have HC21009_5:=zk hl21009_5
   clear hi21009_5 hl21009_5
   have HR21009_6:=zk hi21009_6
   have HC21009_6:=zk hl21009_6
   clear hi21009_6 hl21009_6
   replace p21009:=eq_true p21009
   replace q21009:=eq_true q21009
   have fin2_:=zk trivial
   rotate_left
   · rw [if_neg c9] at H
     exact absurd H (by simp)
   rw [if_neg c8] at H
   have c8b0:=zdnl c8
   clear c8
   replace H:=zo H
   obtain ⟨t21018,A200,H⟩:=H
   try dsimp only at H
   have A20:=zk A200
   clear A200
   replace H:=zo H
   obtain ⟨t21019,A210,H⟩:=H
   try dsimp only at H
   have A21:=zk A210
   clear A210
   replace H:=zo H
   obtain ⟨t21021,A220,H⟩:=H
   try dsimp only at H
   have A22:=zk A220
   clear A220
   by_cases c23:t21021=true
   subst c23
   rw [if_pos rfl] at H
   try dsimp only at H
   replace H:=zo H
   obtain ⟨t21022,A240,H⟩:=H
   try dsimp only at H
   have A24:=zk A240
   clear A240
   by_cases c25:t21022=true
   subst c25
   rw [if_pos rfl] at H
   try dsimp only at H
   simp only [Option.some.injEq,Prod.mk.injEq] at H
   obtain ⟨rfl,rfl,rfl⟩:=H
   have hnb26:=NB21001_21002.out
   have hnc26:=NB21002_21001.out
   obtain ⟨hcz27_0,hfz27_0⟩:=blk1 BK21001.out
   obtain ⟨Ao28,co28,eo28⟩:=Kd.R_slice HO_4.out
   subst eo28
   have fin0_:=zk trivial
   rotate_left
   · replace c25:=Bool.eq_false_iff.mpr c25
     subst c25
     rw [if_neg (show ¬ (false=true) by decide)] at H
     try dsimp only at H
     simp only [Option.some.injEq,Prod.mk.injEq] at H
     obtain ⟨rfl,rfl,rfl⟩:=H
     have hnb42:=NB21001_21002.out
     have hnc42:=NB21002_21001.out
     obtain ⟨hcz43_0,hfz43_0⟩:=blk1 BK21001.out
     obtain ⟨Ao44,co44,eo44⟩:=Kd.R_slice HO_4.out
     subst eo44
     go_wp2_with (first|((with_reducible refine gate_callee (f:=39) rfl ?_);refine goesL_ (some 43) rfl rfl Try.func39 (by kernel_rfl) rfl #[.slice Ao44 x4_1.length co44,.string (⟨#[35]⟩:ByteArray)] rfl za4 ?_;(with_reducible refine (spec_Join.calls k1 _ _ x4_1 (⟨#[35]⟩:ByteArray) t21018 _ ?side1 ?side2 A20.out).mono ?_);(case side1=>repeat (first|exact (Kd.R_reads' HO_4.out).2.2|(with_reducible refine Kd.C_alloc ?_ _)|(with_reducible refine Kd.C_drewN ?_ _)|(with_reducible refine Kd.C_drew ?_)));(case side2=>exact (Kd.R_reads' HO_4.out).2.1);rintro e w45 ⟨rfl,hb⟩;refine ⟨_,rfl,?_⟩;replace HO_4:=zk (Kd.R_below (za0 HO_4.out) hb);replace HO_5:=zk (Kd.R_below (za0 HO_5.out) hb);replace BK21001:=zk (zb BK21001.out hb);replace BK21002:=zk (zb BK21002.out hb);replace HB:=zk (below_step za3 hb);(try clear hb);(try clear hb2);(try clear hk);(try clear hi);obtain ⟨Ao46,co46,eo46⟩:=Kd.R_slice HO_5.out;subst eo46)|((with_reducible refine gate_callee (f:=39) rfl ?_);refine goesL_ (some 45) rfl rfl Try.func39 (by kernel_rfl) rfl #[.slice Ao46 x5_1.length co46,.string (⟨#[35]⟩:ByteArray)] rfl za4 ?_;(with_reducible refine (spec_Join.calls k1 _ _ x5_1 (⟨#[35]⟩:ByteArray) t21019 _ ?side1 ?side2 A21.out).mono ?_);(case side1=>repeat (first|exact (Kd.R_reads' HO_5.out).2.2|(with_reducible refine Kd.C_alloc ?_ _)|(with_reducible refine Kd.C_drewN ?_ _)|(with_reducible refine Kd.C_drew ?_)));(case side2=>exact (Kd.R_reads' HO_5.out).2.1);rintro e w47 ⟨rfl,hb⟩;refine ⟨_,rfl,?_⟩;replace HO_4:=zk (Kd.R_below (za0 HO_4.out) hb);replace HO_5:=zk (Kd.R_below (za0 HO_5.out) hb);replace BK21001:=zk (zb BK21001.out hb);replace BK21002:=zk (zb BK21002.out hb);replace HB:=zk (below_step za3 hb);(try clear hb);(try clear hb2);(try clear hk);(try clear hi))|((with_reducible refine gate_dst (N:=7) rfl ?_);refine zE (N:=7) (cs:=#[.string (⟨#[]⟩:ByteArray),.string (⟨#[]⟩:ByteArray)]) (t:=25) ?_;intro gb21020 hg w48 hbox hb;replace HO_4:=zk (Kd.R_below (za0 HO_4.out) hb);replace HO_5:=zk (Kd.R_below (za0 HO_5.out) hb);have BK21020:=zk (hbox);have GW21020:=zk (zs (w:=w) hg za3);have GE21020:=zk (zs (w:=w) hg za3);have NB21001_21020:=zk ((by rw [hg];exact Nat.ne_of_lt (zl BK21001.out):gb21001 ≠ gb21020));have NB21020_21001:=zk ((by rw [hg];exact Nat.ne_of_gt (zl BK21001.out):gb21020 ≠ gb21001));have NB21002_21020:=zk ((by rw [hg];exact Nat.ne_of_lt (zl BK21002.out):gb21002 ≠ gb21020));have NB21020_21002:=zk ((by rw [hg];exact Nat.ne_of_gt (zl BK21002.out):gb21020 ≠ gb21002));replace BK21001:=zk (zb BK21001.out hb);replace BK21002:=zk (zb BK21002.out hb);replace HB:=zk (below_step za3 hb);clear hb hbox hg;have hnb49:=NB21020_21001.out;have hnc49:=NB21001_21020.out;have hnb50:=NB21020_21002.out;have hnc50:=NB21002_21020.out;obtain ⟨hcz51_0,hcz51_1,hfz51_0,hfz51_1⟩:=blk2 BK21020.out;obtain ⟨hcz52_0,hfz52_0⟩:=blk1 BK21001.out)|((with_reducible refine gate_callee (f:=40) rfl ?_);refine goesL_ (some 48) rfl rfl Try.func40 (by kernel_rfl) rfl #[.agg #[.slice A0_0 l0_0.length c0_0]] rfl za4 ?_;(with_reducible refine (spec_IsValidProblem.calls k1 _ _ l0_0 _ _ ?side1 ?side2 A22.out).mono ?_);(case side1=>exact Kd.C_below HR0_0.out za3);(case side2=>exact HC0_0.out);rintro e w53 ⟨rfl,hb⟩;refine ⟨_,rfl,?_⟩;replace HO_4:=zk (Kd.R_below za90 hb);replace HO_5:=zk (Kd.R_below za89 hb);replace BK21001:=zk (blk_below (g:=gb21001) (o:=.cells #[.slice A0_0 l0_0.length c0_0] 37 (0,0)) za70 hb);replace BK21002:=zk (blk_below (g:=gb21002) (o:=.cells #[.string (⟨#[]⟩:ByteArray),.string (⟨#[]⟩:ByteArray)] 25 (0,0)) za69 hb);replace HB:=zk (below_step za3 hb);replace BK21020:=zk (blk_below (g:=gb21020) (o:=.cells #[.string t21018,.string t21019] 25 (0,0)) (zpu BK21020.out) hb);(try clear hb);(try clear hb2);(try clear hk);(try clear hi);obtain ⟨hcz54_0,hcz54_1,hfz54_0,hfz54_1⟩:=blk2 BK21020.out)|(go_at_call 15;(with_reducible refine (spec_IsEquation.calls k1 t21018 t21019 _ _ A24.out).mono ?_);rintro e w55 ⟨rfl,hb⟩;replace HO_4:=zk (Kd.R_below (za0 HO_4.out) hb);replace HO_5:=zk (Kd.R_below (za0 HO_5.out) hb);replace BK21001:=zk (zb BK21001.out hb);replace BK21002:=zk (zb BK21002.out hb);replace BK21020:=zk (zb BK21020.out hb);replace HB:=zk (below_step za3 hb);(try clear hb);(try clear hb2);(try clear hk);(try clear hi);obtain ⟨hcz56_0,hcz56_1,hfz56_0,hfz56_1⟩:=blk2 BK21002.out))
     refine bodyPost_ret (results_ct rfl _ _ gb21002 25 #[.string (⟨#[]⟩:ByteArray),.string (⟨#[]⟩:ByteArray)] (0,0) _ rfl (zpu BK21002.out) Try.underlying25 rfl (by kernel_rfl)) rfl ?_
     exact ⟨za9,za3⟩
   · replace c23:=Bool.eq_false_iff.mpr c23
     subst c23
     rw [if_neg (show ¬ (false=true) by decide)] at H
     try dsimp only at H
     simp only [Option.some.injEq,Prod.mk.injEq] at H
     obtain ⟨rfl,rfl,rfl⟩:=H
     have hnb57:=NB21001_21002.out
     have hnc57:=NB21002_21001.out
     obtain ⟨hcz58_0,hfz58_0⟩:=blk1 BK21001.out
     obtain ⟨Ao59,co59,eo59⟩:=Kd.R_slice HO_4.out
     subst eo59
     go_wp2_with (first|((with_reducible refine gate_callee (f:=39) rfl ?_);refine goesL_ (some 43) rfl rfl Try.func39 (by kernel_rfl) rfl #[.slice Ao59 x4_1.length co59,.string (⟨#[35]⟩:ByteArray)] rfl za4 ?_;(with_reducible refine (spec_Join.calls k1 _ _ x4_1 (⟨#[35]⟩:ByteArray) t21018 _ ?side1 ?side2 A20.out).mono ?_);(case side1=>repeat (first|exact (Kd.R_reads' HO_4.out).2.2|(with_reducible refine Kd.C_alloc ?_ _)|(with_reducible refine Kd.C_drewN ?_ _)|(with_reducible refine Kd.C_drew ?_)));(case side2=>exact (Kd.R_reads' HO_4.out).2.1);rintro e w60 ⟨rfl,hb⟩;refine ⟨_,rfl,?_⟩;replace HO_4:=zk (Kd.R_below (za0 HO_4.out) hb);replace HO_5:=zk (Kd.R_below (za0 HO_5.out) hb);replace BK21001:=zk (zb BK21001.out hb);replace BK21002:=zk (zb BK21002.out hb);replace HB:=zk (below_step za3 hb);(try clear hb);(try clear hb2);(try clear hk);(try clear hi);obtain ⟨Ao61,co61,eo61⟩:=Kd.R_slice HO_5.out;subst eo61)|((with_reducible refine gate_callee (f:=39) rfl ?_);refine goesL_ (some 45) rfl rfl Try.func39 (by kernel_rfl) rfl #[.slice Ao61 x5_1.length co61,.string (⟨#[35]⟩:ByteArray)] rfl za4 ?_;(with_reducible refine (spec_Join.calls k1 _ _ x5_1 (⟨#[35]⟩:ByteArray) t21019 _ ?side1 ?side2 A21.out).mono ?_);(case side1=>repeat (first|exact (Kd.R_reads' HO_5.out).2.2|(with_reducible refine Kd.C_alloc ?_ _)|(with_reducible refine Kd.C_drewN ?_ _)|(with_reducible refine Kd.C_drew ?_)));(case side2=>exact (Kd.R_reads' HO_5.out).2.1);rintro e w62 ⟨rfl,hb⟩;refine ⟨_,rfl,?_⟩;replace HO_4:=zk (Kd.R_below (za0 HO_4.out) hb);replace HO_5:=zk (Kd.R_below (za0 HO_5.out) hb);replace BK21001:=zk (zb BK21001.out hb);replace BK21002:=zk (zb BK21002.out hb);replace HB:=zk (below_step za3 hb);(try clear hb);(try clear hb2);(try clear hk);(try clear hi))|((with_reducible refine gate_dst (N:=7) rfl ?_);refine zE (N:=7) (cs:=#[.string (⟨#[]⟩:ByteArray),.string (⟨#[]⟩:ByteArray)]) (t:=25) ?_;intro gb21020 hg w63 hbox hb;replace HO_4:=zk (Kd.R_below (za0 HO_4.out) hb);replace HO_5:=zk (Kd.R_below (za0 HO_5.out) hb);have BK21020:=zk (hbox);have GW21020:=zk (zs (w:=w) hg za3);have GE21020:=zk (zs (w:=w) hg za3);have NB21001_21020:=zk ((by rw [hg];exact Nat.ne_of_lt (zl BK21001.out):gb21001 ≠ gb21020));have NB21020_21001:=zk ((by rw [hg];exact Nat.ne_of_gt (zl BK21001.out):gb21020 ≠ gb21001));have NB21002_21020:=zk ((by rw [hg];exact Nat.ne_of_lt (zl BK21002.out):gb21002 ≠ gb21020));have NB21020_21002:=zk ((by rw [hg];exact Nat.ne_of_gt (zl BK21002.out):gb21020 ≠ gb21002));replace BK21001:=zk (zb BK21001.out hb);replace BK21002:=zk (zb BK21002.out hb);replace HB:=zk (below_step za3 hb);clear hb hbox hg;have hnb64:=NB21020_21001.out;have hnc64:=NB21001_21020.out;have hnb65:=NB21020_21002.out;have hnc65:=NB21002_21020.out;obtain ⟨hcz66_0,hcz66_1,hfz66_0,hfz66_1⟩:=blk2 BK21020.out;obtain ⟨hcz67_0,hfz67_0⟩:=blk1 BK21001.out)|((with_reducible refine gate_callee (f:=40) rfl ?_);refine goesL_ (some 48) rfl rfl Try.func40 (by kernel_rfl) rfl #[.agg #[.slice A0_0 l0_0.length c0_0]] rfl za4 ?_;(with_reducible refine (spec_IsValidProblem.calls k1 _ _ l0_0 _ _ ?side1 ?side2 A22.out).mono ?_);(case side1=>exact Kd.C_below HR0_0.out za3);(case side2=>exact HC0_0.out);rintro e w68 ⟨rfl,hb⟩;refine ⟨_,rfl,?_⟩;replace HO_4:=zk (Kd.R_below za90 hb);replace HO_5:=zk (Kd.R_below za89 hb);replace BK21001:=zk (blk_below (g:=gb21001) (o:=.cells #[.slice A0_0 l0_0.length c0_0] 37 (0,0)) za70 hb);replace BK21002:=zk (blk_below (g:=gb21002) (o:=.cells #[.string (⟨#[]⟩:ByteArray),.string (⟨#[]⟩:ByteArray)] 25 (0,0)) za69 hb);replace HB:=zk (below_step za3 hb);replace BK21020:=zk (blk_below (g:=gb21020) (o:=.cells #[.string t21018,.string t21019] 25 (0,0)) (zpu BK21020.out) hb);(try clear hb);(try clear hb2);(try clear hk);(try clear hi);obtain ⟨hcz69_0,hcz69_1,hfz69_0,hfz69_1⟩:=blk2 BK21002.out))
     refine bodyPost_ret (results_ct rfl _ _ gb21002 25 #[.string (⟨#[]⟩:ByteArray),.string (⟨#[]⟩:ByteArray)] (0,0) _ rfl (zpu BK21002.out) Try.underlying25 rfl (by kernel_rfl)) rfl ?_
     exact ⟨za9,za3⟩
   all_goals
    go_wp2_with (first|((with_reducible refine gate_callee (f:=39) rfl ?_);refine goesL_ (some 43) rfl rfl Try.func39 (by kernel_rfl) rfl #[.slice Ao28 x4_1.length co28,.string (⟨#[35]⟩:ByteArray)] rfl za4 ?_;(with_reducible refine (spec_Join.calls k1 _ _ x4_1 (⟨#[35]⟩:ByteArray) t21018 _ ?side1 ?side2 A20.out).mono ?_);(case side1=>repeat (first|exact (Kd.R_reads' HO_4.out).2.2|(with_reducible refine Kd.C_alloc ?_ _)|(with_reducible refine Kd.C_drewN ?_ _)|(with_reducible refine Kd.C_drew ?_)));(case side2=>exact (Kd.R_reads' HO_4.out).2.1);rintro e w29 ⟨rfl,hb⟩;refine ⟨_,rfl,?_⟩;replace HO_4:=zk (Kd.R_below (za0 HO_4.out) hb);replace HO_5:=zk (Kd.R_below (za0 HO_5.out) hb);replace BK21001:=zk (zb BK21001.out hb);replace BK21002:=zk (zb BK21002.out hb);replace HB:=zk (below_step za3 hb);(try clear hb);(try clear hb2);(try clear hk);(try clear hi);obtain ⟨Ao30,co30,eo30⟩:=Kd.R_slice HO_5.out;subst eo30)|((with_reducible refine gate_callee (f:=39) rfl ?_);refine goesL_ (some 45) rfl rfl Try.func39 (by kernel_rfl) rfl #[.slice Ao30 x5_1.length co30,.string (⟨#[35]⟩:ByteArray)] rfl za4 ?_;(with_reducible refine (spec_Join.calls k1 _ _ x5_1 (⟨#[35]⟩:ByteArray) t21019 _ ?side1 ?side2 A21.out).mono ?_);(case side1=>repeat (first|exact (Kd.R_reads' HO_5.out).2.2|(with_reducible refine Kd.C_alloc ?_ _)|(with_reducible refine Kd.C_drewN ?_ _)|(with_reducible refine Kd.C_drew ?_)));(case side2=>exact (Kd.R_reads' HO_5.out).2.1);rintro e w31 ⟨rfl,hb⟩;refine ⟨_,rfl,?_⟩;replace HO_4:=zk (Kd.R_below (za0 HO_4.out) hb);replace HO_5:=zk (Kd.R_below (za0 HO_5.out) hb);replace BK21001:=zk (zb BK21001.out hb);replace BK21002:=zk (zb BK21002.out hb);replace HB:=zk (below_step za3 hb);(try clear hb);(try clear hb2);(try clear hk);(try clear hi))|((with_reducible refine gate_dst (N:=7) rfl ?_);refine zE (N:=7) (cs:=#[.string (⟨#[]⟩:ByteArray),.string (⟨#[]⟩:ByteArray)]) (t:=25) ?_;intro gb21020 hg w32 hbox hb;replace HO_4:=zk (Kd.R_below (za0 HO_4.out) hb);replace HO_5:=zk (Kd.R_below (za0 HO_5.out) hb);have BK21020:=zk (hbox);have GW21020:=zk (zs (w:=w) hg za3);have GE21020:=zk (zs (w:=w) hg za3);have NB21001_21020:=zk ((by rw [hg];exact Nat.ne_of_lt (zl BK21001.out):gb21001 ≠ gb21020));have NB21020_21001:=zk ((by rw [hg];exact Nat.ne_of_gt (zl BK21001.out):gb21020 ≠ gb21001));have NB21002_21020:=zk ((by rw [hg];exact Nat.ne_of_lt (zl BK21002.out):gb21002 ≠ gb21020));have NB21020_21002:=zk ((by rw [hg];exact Nat.ne_of_gt (zl BK21002.out):gb21020 ≠ gb21002));replace BK21001:=zk (zb BK21001.out hb);replace BK21002:=zk (zb BK21002.out hb);replace HB:=zk (below_step za3 hb);clear hb hbox hg;have hnb33:=NB21020_21001.out;have hnc33:=NB21001_21020.out;have hnb34:=NB21020_21002.out;have hnc34:=NB21002_21020.out;obtain ⟨hcz35_0,hcz35_1,hfz35_0,hfz35_1⟩:=blk2 BK21020.out;obtain ⟨hcz36_0,hfz36_0⟩:=blk1 BK21001.out)|((with_reducible refine gate_callee (f:=40) rfl ?_);refine goesL_ (some 48) rfl rfl Try.func40 (by kernel_rfl) rfl #[.agg #[.slice A0_0 l0_0.length c0_0]] rfl za4 ?_;(with_reducible refine (spec_IsValidProblem.calls k1 _ _ l0_0 _ _ ?side1 ?side2 A22.out).mono ?_);(case side1=>exact Kd.C_below HR0_0.out za3);(case side2=>exact HC0_0.out);rintro e w37 ⟨rfl,hb⟩;refine ⟨_,rfl,?_⟩;replace HO_4:=zk (Kd.R_below za90 hb);replace HO_5:=zk (Kd.R_below za89 hb);replace BK21001:=zk (blk_below (g:=gb21001) (o:=.cells #[.slice A0_0 l0_0.length c0_0] 37 (0,0)) za70 hb);replace BK21002:=zk (blk_below (g:=gb21002) (o:=.cells #[.string (⟨#[]⟩:ByteArray),.string (⟨#[]⟩:ByteArray)] 25 (0,0)) za69 hb);replace HB:=zk (below_step za3 hb);replace BK21020:=zk (blk_below (g:=gb21020) (o:=.cells #[.string t21018,.string t21019] 25 (0,0)) (zpu BK21020.out) hb);(try clear hb);(try clear hb2);(try clear hk);(try clear hi);obtain ⟨hcz38_0,hcz38_1,hfz38_0,hfz38_1⟩:=blk2 BK21020.out)|(go_at_call 15;(with_reducible refine (spec_IsEquation.calls k1 t21018 t21019 _ _ A24.out).mono ?_);rintro e w39 ⟨rfl,hb⟩;replace HO_4:=zk (Kd.R_below (za0 HO_4.out) hb);replace HO_5:=zk (Kd.R_below (za0 HO_5.out) hb);replace BK21001:=zk (zb BK21001.out hb);replace BK21002:=zk (zb BK21002.out hb);replace BK21020:=zk (zb BK21020.out hb);replace HB:=zk (below_step za3 hb);(try clear hb);(try clear hb2);(try clear hk);(try clear hi);obtain ⟨hcz40_0,hcz40_1,hfz40_0,hfz40_1⟩:=blk2 BK21020.out;obtain ⟨hcz41_0,hcz41_1,hfz41_0,hfz41_1⟩:=blk2 BK21002.out)|((with_reducible refine gate_builtin (b:=.append) (xs:=#[.tmp 24,.tmp 31]) rfl ?_);at_builtin;refine Kd.R_append Kd.string (w0:=w) w.heap.size rfl (.tmp 24) (.tmp 31) 55 9 (.string ⟨#[]⟩) 16 rfl Try.underlying55 info9 rfl (by decide) (by omega) u4 x4_1 ((rd_T61 l0_0 x6_1).f1) [.string ((rd_T61 l0_0 x6_1).f1)] (fun k_=>some k_ ≠ (u5:Value).ownBlock) (fun _=>False) rfl rfl ?aP (fun _ hk=>hk.elim) ?aF ?aO ?aB ?aS ?aL ?_;(case aP=>exact rfl);(case aB=>exact za3);(case aF=>exact (fun k_ hk=>Kd.fresh' (Kd.R_lt (za0 HO_5.out)) k_ hk));(case aO=>exact (za0 HO_4.out));(case aS=>exact (below_size za3));(case aL=>have:=LMc11.out;omega);intro v21012 w15 ho hb hg hat;rw [← Ny21011.out] at ho;replace HO_5:=zk (Kd.R_after (ok:=(fun _=>True)) (by (with_reducible repeat (first|apply Kd.R_alloc|apply Kd.R_drewN|apply Kd.R_drew));exact Kd.R_mono HO_5.out (fun _ hk=>⟨trivial,hk⟩)) hg hat);replace BK21001:=zk (blk_grown (g:=gb21001) (o:=.cells #[.slice (some ad21009) l0_0.length c0_0] 37 (0,0)) (za1 BK21001.out) hg (Kd.R_ne HO_4.out BK21001.out (by decide)));replace BK21002:=zk (blk_grown (g:=gb21002) (o:=.cells #[.string (⟨#[]⟩:ByteArray),.string (⟨#[]⟩:ByteArray)] 25 (0,0)) (za1 BK21002.out) hg (Kd.R_ne HO_4.out BK21002.out (by decide)));replace HB:=zk (hb);have HO21013:=zk (ho);clear HO_4;clear ho hb hg hat;obtain ⟨hcz16_0,hfz16_0⟩:=blk1 BK21001.out;have p21014:0≤(x6_1:Int):=of_decide_eq_true za7;have q21014:x6_1 < (l0_0.length:Int):=of_decide_eq_true za7;obtain ⟨ad21014,A21014_5,c21014_5,A21014_6,c21014_6,e21014,hx21014_0,hx21014_1,hx21014_2,hx21014_3,hx21014_4,hx21014_5,hx21014_6,hx21014_7,hl21014_5,hi21014_5,hl21014_6,hi21014_6⟩:=at_T61 HR0_0.out x6_1 p21014 q21014;obtain rfl:ad21009=ad21014:=(by injection e21014);replace hx21014_0:=zx HB.out hx21014_0;replace hx21014_1:=zx HB.out hx21014_1;replace hx21014_2:=zx HB.out hx21014_2;replace hx21014_3:=zx HB.out hx21014_3;replace hx21014_4:=zx HB.out hx21014_4;replace hx21014_5:=zx HB.out hx21014_5;replace hx21014_6:=zx HB.out hx21014_6;replace hx21014_7:=zx HB.out hx21014_7;have HR21014_5:=zk hi21014_5;have HC21014_5:=zk hl21014_5;clear hi21014_5 hl21014_5;have HR21014_6:=zk hi21014_6;have HC21014_6:=zk hl21014_6;clear hi21014_6 hl21014_6;replace p21014:=eq_true p21014;replace q21014:=eq_true q21014)|((with_reducible refine gate_builtin (b:=.append) (xs:=#[.tmp 33,.tmp 40]) rfl ?_);at_builtin;refine Kd.R_append Kd.string (w0:=w) w.heap.size rfl (.tmp 33) (.tmp 40) 55 9 (.string ⟨#[]⟩) 16 rfl Try.underlying55 info9 rfl (by decide) (by omega) u5 x5_1 ((rd_T61 l0_0 x6_1).f2) [.string ((rd_T61 l0_0 x6_1).f2)] (fun k_=>some k_ ≠ (v21012:Value).ownBlock) (fun _=>False) rfl rfl ?aP (fun _ hk=>hk.elim) ?aF ?aO ?aB ?aS ?aL ?_;(case aP=>exact rfl);(case aB=>exact za3);(case aF=>exact (fun k_ hk=>Kd.fresh' (Kd.R_lt (za0 HO21013.out)) k_ hk));(case aO=>exact (by (with_reducible repeat (first|apply Kd.R_alloc|apply Kd.R_drewN|apply Kd.R_drew));exact Kd.R_mono HO_5.out (fun _ hk=>hk.2)));(case aS=>exact (below_size za3));(case aL=>have:=LMc12.out;omega);intro v21016 w17 ho hb hg hat;rw [← Ny21015.out] at ho;replace BK21001:=zk (blk_grown (g:=gb21001) (o:=.cells #[.slice (some ad21009) l0_0.length c0_0] 37 (0,0)) (za1 BK21001.out) hg (Kd.R_ne HO_5.out BK21001.out (by decide)));replace BK21002:=zk (blk_grown (g:=gb21002) (o:=.cells #[.string (⟨#[]⟩:ByteArray),.string (⟨#[]⟩:ByteArray)] 25 (0,0)) (za1 BK21002.out) hg (Kd.R_ne HO_5.out BK21002.out (by decide)));replace HO21013:=zk (Kd.R_after (ok:=(fun _=>True)) (by (with_reducible repeat (first|apply Kd.R_alloc|apply Kd.R_drewN|apply Kd.R_drew));exact Kd.R_mono HO21013.out (fun _ hk=>⟨trivial,hk⟩)) hg hat);replace HB:=zk (hb);have HO21017:=zk (ho);clear HO_5;clear ho hb hg hat))
    first
    | (
      clear fin0_
      refine bodyPost_ret (results_ct rfl _ _ gb21002 25 #[.string t21018,.string t21019] (0,0) _ rfl (zpu BK21002.out) Try.underlying25 rfl (by kernel_rfl)) rfl ?_
      exact ⟨za9,za3⟩)
    | (
      clear fin1_
      go_roundg k1
      case measure=>have:=HK1.out;omega
      case rel=>exact ⟨(y21011),(y21015),(wrap64 (x6_1+1)),za8,H',⟨za60⟩,⟨by (with_reducible repeat (first|apply Kd.R_alloc|apply Kd.R_drewN|apply Kd.R_drew));exact Kd.R_mono HO21013.out (fun _ hk=>hk.2)⟩,⟨za0 HO21017.out⟩,⟨za1 BK21001.out⟩,⟨za1 BK21002.out⟩,⟨za3⟩⟩)
    | (
      clear fin2_
      go_roundg k1
      case measure=>have:=HK1.out;omega
      case rel=>exact ⟨(x4_1),(x5_1),(wrap64 (x6_1+1)),za8,H',⟨za60⟩,⟨za0 HO_4.out⟩,⟨za0 HO_5.out⟩,⟨za1 BK21001.out⟩,⟨za1 BK21002.out⟩,⟨za3⟩⟩)
end Go.Proofs.Ytgajchjnljekgaa.A
