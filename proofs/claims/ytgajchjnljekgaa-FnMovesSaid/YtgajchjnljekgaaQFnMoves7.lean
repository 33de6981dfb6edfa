/- FnMoves: what its proof needs, put together by this session's program wip/merge.py out of the texts that wip/xp.py printed and of this session's own. -/
import Derived.Test.YtgajchjnljekgaaQFnMoves6
set_option linter.unusedVariables false
set_option linter.unusedSimpArgs false
set_option linter.unusedSectionVars false
set_option maxHeartbeats 8000000
set_option maxRecDepth 100000
namespace Go.Proofs.Ytgajchjnljekgaa.A
open Go.RowKit Ytgajchjnljekgaa.Ext YtgajchjnljekgaaW.PrintWords YtgajchjnljekgaaW.PrintLast YtgajchjnljekgaaW.PrintMore
attribute [local go_sem] max2_int min2_int max_two min_two max_three min_three max_four min_four
def impl_isSide.l0:Nat→ByteArray→Int→Option (Bool)
 | 0,_,_=>none
 | k+1,x0,x3=>if x3 < (x0.size:Int) then (if 0≤x3 then (if (bt x0 x3)=35 then (impl_isSide.l0 k x0 (wrap64 (x3+1))) else ((impl_LetterIndex.f (bt x0 x3)).bind fun t32001=>(if t32001 < 0 then ((impl_isVariable.f (bt x0 x3)).bind fun t32002=>(if t32002=true then (impl_isSide.l0 k x0 (wrap64 (x3+1))) else (some false))) else (impl_isSide.l0 k x0 (wrap64 (x3+1)))))) else (none)) else (some true)
def impl_isSide.f (k:Nat) (a0:ByteArray):Option (Bool):=impl_isSide.l0 k a0 0
theorem impl_isSide.calls (k:Nat) (a0:ByteArray) (r:Bool) (w:World) (h:impl_isSide.f k a0=some r) :
   Calls Try.prog 32 #[.string a0] w fun e w'=>e = .returned (.bool r)∧Drawn0 w w':=by
 have H:=h
 unfold impl_isSide.f at H
 clear h
 have H':=zk H
 clear H
 go_enter Try.func32,Try.ntmps32
 go_wp2
 try simp only [Act.put,zt,zv,zu]
 go_loopg [3] k (fun kq v3 w'=>∃ (x3_1:Int),v3 = .int .i64 x3_1∧Aside0 (impl_isSide.l0 kq a0 x3_1=some r)∧Aside0 (kq≤k)∧Drawn0 w w')
 case atStart=>exact ⟨(0),za8,H',⟨Nat.le_refl _⟩,za20⟩
 case round =>
  clear H'
  obtain ⟨x3_1,rfl,HA,HK1,⟨m1,rfl⟩⟩:=hrel
  cases gk with
  | zero=>exact absurd HA.out (by simp [impl_isSide.l0])
  | succ k1 =>
   have H:=HA.out
   clear HA
   simp only [impl_isSide.l0] at H
   by_cases c2:x3_1 < (a0.size:Int)
   rw [if_pos c2] at H
   have c2b0:=zdl c2
   clear c2
   by_cases c3:0≤x3_1
   rw [if_pos c3] at H
   have c3b0:=zdle c3
   clear c3
   by_cases c5:(bt a0 x3_1)=35
   · rw [if_pos c5] at H
     have c5b0:=zbt c5
     have c5b1:=zqn c5
     clear c5
     have H':=zk H
     clear H
     have p4:0≤(x3_1:Int):=of_decide_eq_true za7
     have q4:x3_1 < (a0.size:Int):=of_decide_eq_true za7
     have hx4:=bt_at a0 x3_1
     replace p4:=eq_true p4
     replace q4:=eq_true q4
     go_wp2
     go_roundg k1
     case measure=>have:=HK1.out;omega
     case rel=>exact ⟨(wrap64 (x3_1+1)),za8,H',⟨za60⟩,za20⟩
   rw [if_neg c5] at H
   have c5b0:=zbn c5
   have c5b1:=zqt c5
   replace H:=zo H
   obtain ⟨t32001,A70,H⟩:=H
   try dsimp only at H
   have A7:=zk A70
   clear A70
   by_cases c8:t32001 < 0
   rw [if_pos c8] at H
   have c8b0:=zdl c8
   clear c8
   replace H:=zo H
   obtain ⟨t32002,A100,H⟩:=H
   try dsimp only at H
   have A10:=zk A100
   clear A100
   by_cases c11:t32002=true
   subst c11
   rw [if_pos rfl] at H
   try dsimp only at H
   have H':=zk H
   clear H
   have fin0_:=zk trivial
   rotate_left
   replace c11:=Bool.eq_false_iff.mpr c11
   subst c11
   rw [if_neg (show ¬ (false=true) by decide)] at H
   try dsimp only at H
   obtain rfl:=zi H
   have fin1_:=zk trivial
   rotate_left
   · rw [if_neg c8] at H
     have c8b0:=zdnl c8
     clear c8
     have H':=zk H
     clear H
     have p4:0≤(x3_1:Int):=of_decide_eq_true za7
     have q4:x3_1 < (a0.size:Int):=of_decide_eq_true za7
     have hx4:=bt_at a0 x3_1
     replace p4:=eq_true p4
     replace q4:=eq_true q4
     have p6:0≤(x3_1:Int):=of_decide_eq_true za7
     have q6:x3_1 < (a0.size:Int):=of_decide_eq_true za7
     have hx6:=bt_at a0 x3_1
     replace p6:=eq_true p6
     replace q6:=eq_true q6
     go_wp2_with (first|(go_at_call 26;(with_reducible refine (impl_LetterIndex.calls (bt a0 x3_1) t32001 _ A7.out).mono ?_);rintro e w' ⟨rfl,⟨nd,rfl⟩⟩))
     go_roundg k1
     case measure=>have:=HK1.out;omega
     case rel=>exact ⟨(wrap64 (x3_1+1)),za8,H',⟨za60⟩,za20⟩
   · rw [if_neg c3] at H
     exact absurd H (by simp)
   · rw [if_neg c2] at H
     have c2b0:=zdnl c2
     clear c2
     obtain rfl:=zi H
     go_wp2
     go_ret
     exact ⟨za8,za20⟩
   all_goals
    have p4:0≤(x3_1:Int):=of_decide_eq_true za7
    have q4:x3_1 < (a0.size:Int):=of_decide_eq_true za7
    have hx4:=bt_at a0 x3_1
    replace p4:=eq_true p4
    replace q4:=eq_true q4
    have p6:0≤(x3_1:Int):=of_decide_eq_true za7
    have q6:x3_1 < (a0.size:Int):=of_decide_eq_true za7
    have hx6:=bt_at a0 x3_1
    replace p6:=eq_true p6
    replace q6:=eq_true q6
    go_wp2_with (first|(go_at_call 26;(with_reducible refine (impl_LetterIndex.calls (bt a0 x3_1) t32001 _ A7.out).mono ?_);rintro e w' ⟨rfl,⟨nd,rfl⟩⟩;have p9:0≤(x3_1:Int):=of_decide_eq_true za7;have q9:x3_1 < (a0.size:Int):=of_decide_eq_true za7;have hx9:=bt_at a0 x3_1;replace p9:=eq_true p9;replace q9:=eq_true q9)|(go_at_call 25;(with_reducible refine (impl_isVariable.calls (bt a0 x3_1) _ _ A10.out).mono ?_);rintro e w' ⟨rfl,⟨nd,rfl⟩⟩))
    first
    | (
      clear fin0_
      go_roundg k1
      case measure=>have:=HK1.out;omega
      case rel=>exact ⟨(wrap64 (x3_1+1)),za8,H',⟨za60⟩,za20⟩)
    | (
      clear fin1_
      go_ret
      exact ⟨za8,za20⟩)
def impl_IsEquation.f (k:Nat) (a0_0:ByteArray) (a0_1:ByteArray):Option (Bool):=(impl_isSide.f k a0_0).bind fun t14002=>(if t14002=true then ((impl_isSide.f k a0_1).bind fun t14003=>(if t14003=true then (if (a0_0.size:Int)≤24 then (some (decide ((a0_1.size:Int)≤24))) else (some false)) else (some false))) else (some false))
theorem impl_IsEquation.calls (k:Nat) (a0_0:ByteArray) (a0_1:ByteArray) (r:Bool) (w:World) (h:impl_IsEquation.f k a0_0 a0_1=some r) :
   Calls Try.prog 14 #[.agg #[.string a0_0,.string a0_1]] w fun e w'=>e = .returned (.bool r)∧Below w.heap.size w w':=by
 have hu25:=Try.underlying25
 have HB:=zk (Below.refl w.heap.size w)
 have H:=h
 unfold impl_IsEquation.f at H
 clear h
 replace H:=zo H
 obtain ⟨t14002,A20,H⟩:=H
 try dsimp only at H
 have A2:=zk A20
 clear A20
 by_cases c3:t14002=true
 subst c3
 rw [if_pos rfl] at H
 try dsimp only at H
 replace H:=zo H
 obtain ⟨t14003,A40,H⟩:=H
 try dsimp only at H
 have A4:=zk A40
 clear A40
 by_cases c5:t14003=true
 subst c5
 rw [if_pos rfl] at H
 try dsimp only at H
 by_cases c6:(a0_0.size:Int)≤24
 rw [if_pos c6] at H
 have c6b0:=zdle c6
 have c6b1:decide (a0_0.size≤24)=true:=decide_eq_true (by omega)
 clear c6
 rotate_left
 rw [if_neg c6] at H
 have c6b0:=zdnle c6
 have c6b1:decide (a0_0.size≤24)=false:=decide_eq_false (by omega)
 clear c6
 rotate_left
 replace c5:=Bool.eq_false_iff.mpr c5
 subst c5
 rw [if_neg (show ¬ (false=true) by decide)] at H
 try dsimp only at H
 rotate_left
 replace c3:=Bool.eq_false_iff.mpr c3
 subst c3
 rw [if_neg (show ¬ (false=true) by decide)] at H
 try dsimp only at H
 rotate_left
 all_goals
  obtain rfl:=zi H
  go_enter Try.func14,Try.ntmps14
  go_wp2_with (first|((with_reducible refine gate_dst (N:=1) rfl ?_);(try (refine gate_guard (by rfl) ?_;dsimp only));refine zE (N:=1) (cs:=#[.string a0_0,.string a0_1]) (t:=25) ?_;intro gb14001 hg w11 hbox hb;have BK14001:=zk (hbox);have GW14001:=zk (zs (w:=w) hg za3);have GE14001:=zk (zs (w:=w) hg za3);replace HB:=zk (below_step za3 hb);clear hb hbox hg;obtain ⟨hcz12_0,hcz12_1,hfz12_0,hfz12_1⟩:=blk2 BK14001.out)|((with_reducible refine gate_callee (f:=32) rfl ?_);refine goesL_ (some 5) rfl rfl Try.func32 (by kernel_rfl) rfl #[.string a0_0] rfl za4 ?_;(with_reducible refine (impl_isSide.calls k a0_0 _ _ A2.out).mono ?_);rintro e w' ⟨rfl,⟨nd,rfl⟩⟩;refine ⟨_,rfl,?_⟩)|(go_at_call 32;(with_reducible refine (impl_isSide.calls k a0_1 _ _ A4.out).mono ?_);rintro e w' ⟨rfl,⟨nd,rfl⟩⟩))
  go_ret
  exact ⟨za9,za3⟩
def impl_IsQuadratic.l0:Nat→Int→ByteArray→ByteArray→Option (Bool)
 | 0,_,_,_=>none
 | k+1,x7,x12002000,x12002001=>if x7 < 3 then (if x12002000.size+x12002001.size≤9223372036854775807 then (if 0≤x7 then ((impl_CountByte.f k (x12002000 ++ x12002001) (bt (⟨#[88,89,90]⟩:ByteArray) x7)).bind fun t12003=>(if t12003 > 2 then (some false) else (impl_IsQuadratic.l0 k (wrap64 (x7+1)) x12002000 x12002001))) else (none)) else (none)) else (some true)
def impl_IsQuadratic.f (k:Nat) (a0_0:ByteArray) (a0_1:ByteArray):Option (Bool):=(impl_IsEquation.f k a0_0 a0_1).bind fun t12002=>(if t12002=true then (impl_IsQuadratic.l0 k 0 a0_0 a0_1) else (some false))
theorem impl_IsQuadratic.calls (k:Nat) (a0_0:ByteArray) (a0_1:ByteArray) (r:Bool) (w:World) (h:impl_IsQuadratic.f k a0_0 a0_1=some r) :
  Calls Try.prog 12 #[.agg #[.string a0_0,.string a0_1]] w fun e w'=>e = .returned (.bool r)∧Below w.heap.size w w':=by
 have hu25:=Try.underlying25
 have HB:=zk (Below.refl w.heap.size w)
 have H:=h
 unfold impl_IsQuadratic.f at H
 clear h
 replace H:=zo H
 obtain ⟨t12002,A20,H⟩:=H
 try dsimp only at H
 have A2:=zk A20
 clear A20
 by_cases c3:t12002=true
 ·subst c3
  rw [if_pos rfl] at H
  try dsimp only at H
  have H':=zk H
  clear H
  go_enter Try.func12,Try.ntmps12
  go_wp2_with (first|((with_reducible refine gate_dst (N:=1) rfl ?_);refine zE (N:=1) (cs:=#[.string a0_0,.string a0_1]) (t:=25) ?_;intro gb12001 hg w4 hbox hb;have BK12001:=zk (hbox);have GW12001:=zk (zs (w:=w) hg za3);have GE12001:=zk (zs (w:=w) hg za3);replace HB:=zk (below_step za3 hb);clear hb hbox hg;obtain ⟨hcz5_0,hcz5_1,hfz5_0,hfz5_1⟩:=blk2 BK12001.out)|(go_at_call 14;(with_reducible refine (impl_IsEquation.calls k a0_0 a0_1 _ _ A2.out).mono ?_);rintro e w6 ⟨rfl,hb⟩;replace BK12001:=zk (zb BK12001.out hb);replace HB:=zk (below_step za3 hb);(try clear hb);(try clear hb2);(try clear hk);(try clear hi)))
  repeat (go_quiet (first|((with_reducible refine gate_dst (N:=1) rfl ?_);refine zE (N:=1) (cs:=#[.string a0_0,.string a0_1]) (t:=25) ?_;intro gb12001 hg w4 hbox hb;have BK12001:=zk (hbox);have GW12001:=zk (zs (w:=w) hg za3);have GE12001:=zk (zs (w:=w) hg za3);replace HB:=zk (below_step za3 hb);clear hb hbox hg;obtain ⟨hcz5_0,hcz5_1,hfz5_0,hfz5_1⟩:=blk2 BK12001.out)|(go_at_call 14;(with_reducible refine (impl_IsEquation.calls k a0_0 a0_1 _ _ A2.out).mono ?_);rintro e w6 ⟨rfl,hb⟩;replace BK12001:=zk (zb BK12001.out hb);replace HB:=zk (below_step za3 hb);(try clear hb);(try clear hb2);(try clear hk);(try clear hi)));try go_wp2_with (first|((with_reducible refine gate_dst (N:=1) rfl ?_);refine zE (N:=1) (cs:=#[.string a0_0,.string a0_1]) (t:=25) ?_;intro gb12001 hg w4 hbox hb;have BK12001:=zk (hbox);have GW12001:=zk (zs (w:=w) hg za3);have GE12001:=zk (zs (w:=w) hg za3);replace HB:=zk (below_step za3 hb);clear hb hbox hg;obtain ⟨hcz5_0,hcz5_1,hfz5_0,hfz5_1⟩:=blk2 BK12001.out)|(go_at_call 14;(with_reducible refine (impl_IsEquation.calls k a0_0 a0_1 _ _ A2.out).mono ?_);rintro e w6 ⟨rfl,hb⟩;replace BK12001:=zk (zb BK12001.out hb);replace HB:=zk (below_step za3 hb);(try clear hb);(try clear hb2);(try clear hk);(try clear hi))))
  try simp only [Act.put,zt,zv,zu]
  go_loopg [7] k (fun kq v7 w'=>∃ (x7_1:Int),v7 = .int .i64 x7_1∧Aside0 (impl_IsQuadratic.l0 kq x7_1 a0_0 a0_1=some r)∧Aside0 (kq≤k)∧Aside0 (w'.heap[gb12001]? = some (.cells #[.string a0_0,.string a0_1] 25 (0,0)))∧Aside0 (Below w.heap.size w w'))
  case atStart=>exact ⟨(0),za8,H',⟨Nat.le_refl _⟩,⟨za1 BK12001.out⟩,⟨za3⟩⟩
  case round =>
   clear H'
   try clear c3
   try clear hcz5_0
   try clear hcz5_1
   try clear hfz5_0
   try clear hfz5_1
   obtain ⟨x7_1,rfl,HA,HK1,BK12001,HB⟩:=hrel
   cases gk with
   | zero=>exact absurd HA.out (by simp [impl_IsQuadratic.l0])
   | succ k1 =>
    have H:=HA.out
    clear HA
    simp only [impl_IsQuadratic.l0] at H
    by_cases c7:x7_1 < 3
    rw [if_pos c7] at H
    have c7b0:=zdl c7
    clear c7
    by_cases c8:a0_0.size+a0_1.size≤9223372036854775807
    rw [if_pos c8] at H
    have c8z:=c8
    try simp at c8z
    try replace c8z:=eq_false (Nat.not_lt.2 c8z)
    have c8b0:=eq_true c8
    have c8b1:=zdle c8
    try have c8b2:(9223372036854775807 < a0_0.size+a0_1.size)=False:=eq_false (Nat.not_lt.2 c8)
    by_cases c9:0≤x7_1
    rw [if_pos c9] at H
    have c9b0:=zdle c9
    clear c9
    replace H:=zo H
    obtain ⟨t12003,A110,H⟩:=H
    try dsimp only at H
    have A11:=zk A110
    clear A110
    by_cases c12:t12003 > 2
    rw [if_pos c12] at H
    have c12b0:=zdl c12
    clear c12
    obtain rfl:=zi H
    have fin0_:=zk trivial
    rotate_left
    rw [if_neg c12] at H
    have c12b0:=zdnl c12
    clear c12
    have H':=zk H
    clear H
    have fin1_:=zk trivial
    rotate_left
    · rw [if_neg c9] at H
      exact absurd H (by simp)
    · rw [if_neg c8] at H
      exact absurd H (by simp)
    · rw [if_neg c7] at H
      have c7b0:=zdnl c7
      clear c7
      obtain rfl:=zi H
      go_wp2
      repeat (go_quiet (fail);try go_wp2)
      go_ret
      exact ⟨za9,za3⟩
    all_goals
     obtain ⟨hcz13_0,hcz13_1,hfz13_0,hfz13_1⟩:=blk2 BK12001.out
     have p10:0≤(x7_1:Int):=of_decide_eq_true za7
     have q10:x7_1 < (3:Int):=of_decide_eq_true za7
     have hx10:=bt_at (⟨#[88,89,90]⟩:ByteArray) x7_1
     replace p10:=eq_true p10
     replace q10:=eq_true q10
     go_wp2_with ((go_at_call 31;(with_reducible refine (impl_CountByte.calls k1 (a0_0 ++ a0_1) (bt (⟨#[88,89,90]⟩:ByteArray) x7_1) t12003 _ A11.out).mono ?_);rintro e w' ⟨rfl,⟨nd,rfl⟩⟩;(try first|exact ⟨rfl,_,World.drewN_drewN _ _ _⟩|exact ⟨rfl,_,Eq.trans (World.drewN_drewN _ _ _) (congrArg (World.drewN _) (Nat.add_assoc _ _ _))⟩)))
     repeat (go_quiet ((go_at_call 31;(with_reducible refine (impl_CountByte.calls k1 (a0_0 ++ a0_1) (bt (⟨#[88,89,90]⟩:ByteArray) x7_1) t12003 _ A11.out).mono ?_);rintro e w' ⟨rfl,⟨nd,rfl⟩⟩;(try first|exact ⟨rfl,_,World.drewN_drewN _ _ _⟩|exact ⟨rfl,_,Eq.trans (World.drewN_drewN _ _ _) (congrArg (World.drewN _) (Nat.add_assoc _ _ _))⟩)));try go_wp2_with ((go_at_call 31;(with_reducible refine (impl_CountByte.calls k1 (a0_0 ++ a0_1) (bt (⟨#[88,89,90]⟩:ByteArray) x7_1) t12003 _ A11.out).mono ?_);rintro e w' ⟨rfl,⟨nd,rfl⟩⟩;(try first|exact ⟨rfl,_,World.drewN_drewN _ _ _⟩|exact ⟨rfl,_,Eq.trans (World.drewN_drewN _ _ _) (congrArg (World.drewN _) (Nat.add_assoc _ _ _))⟩))))
     first
     | (
       clear fin0_
       go_ret
       exact ⟨za9,za3⟩)
     | (
       clear fin1_
       go_roundg k1
       case measure=>have:=HK1.out;omega
       case rel=>exact ⟨(wrap64 (x7_1+1)),za8,H',⟨za60⟩,⟨za1 BK12001.out⟩,⟨za3⟩⟩)
 ·replace c3:=Bool.eq_false_iff.mpr c3
  subst c3
  rw [if_neg (show ¬ (false=true) by decide)] at H
  try dsimp only at H
  obtain rfl:=zi H
  go_enter Try.func12,Try.ntmps12
  go_wp2_with (first|((with_reducible refine gate_dst (N:=1) rfl ?_);refine zE (N:=1) (cs:=#[.string a0_0,.string a0_1]) (t:=25) ?_;intro gb12001 hg w15 hbox hb;have BK12001:=zk (hbox);have GW12001:=zk (zs (w:=w) hg za3);have GE12001:=zk (zs (w:=w) hg za3);replace HB:=zk (below_step za3 hb);clear hb hbox hg;obtain ⟨hcz16_0,hcz16_1,hfz16_0,hfz16_1⟩:=blk2 BK12001.out)|(go_at_call 14;(with_reducible refine (impl_IsEquation.calls k a0_0 a0_1 _ _ A2.out).mono ?_);rintro e w17 ⟨rfl,hb⟩;replace BK12001:=zk (zb BK12001.out hb);replace HB:=zk (below_step za3 hb);(try clear hb);(try clear hb2);(try clear hk);(try clear hi)))
  repeat (go_quiet (first|((with_reducible refine gate_dst (N:=1) rfl ?_);refine zE (N:=1) (cs:=#[.string a0_0,.string a0_1]) (t:=25) ?_;intro gb12001 hg w15 hbox hb;have BK12001:=zk (hbox);have GW12001:=zk (zs (w:=w) hg za3);have GE12001:=zk (zs (w:=w) hg za3);replace HB:=zk (below_step za3 hb);clear hb hbox hg;obtain ⟨hcz16_0,hcz16_1,hfz16_0,hfz16_1⟩:=blk2 BK12001.out)|(go_at_call 14;(with_reducible refine (impl_IsEquation.calls k a0_0 a0_1 _ _ A2.out).mono ?_);rintro e w17 ⟨rfl,hb⟩;replace BK12001:=zk (zb BK12001.out hb);replace HB:=zk (below_step za3 hb);(try clear hb);(try clear hb2);(try clear hk);(try clear hi)));try go_wp2_with (first|((with_reducible refine gate_dst (N:=1) rfl ?_);refine zE (N:=1) (cs:=#[.string a0_0,.string a0_1]) (t:=25) ?_;intro gb12001 hg w15 hbox hb;have BK12001:=zk (hbox);have GW12001:=zk (zs (w:=w) hg za3);have GE12001:=zk (zs (w:=w) hg za3);replace HB:=zk (below_step za3 hb);clear hb hbox hg;obtain ⟨hcz16_0,hcz16_1,hfz16_0,hfz16_1⟩:=blk2 BK12001.out)|(go_at_call 14;(with_reducible refine (impl_IsEquation.calls k a0_0 a0_1 _ _ A2.out).mono ?_);rintro e w17 ⟨rfl,hb⟩;replace BK12001:=zk (zb BK12001.out hb);replace HB:=zk (below_step za3 hb);(try clear hb);(try clear hb2);(try clear hk);(try clear hi))))
  go_ret
  exact ⟨za9,za3⟩
def impl_ApplyMove.f (k:Nat) (a0_0:ByteArray) (a0_1:ByteArray) (a1_0:Int) (a1_1:ByteArray):Option (ByteArray × ByteArray):=(impl_ReplaceVar.f a0_0 a1_0 a1_1).bind fun t16004=>((impl_ReplaceVar.f a0_1 a1_0 a1_1).bind fun t16005=>((impl_StripEquation.f k t16004 t16005).bind fun bt16006=>(some (bt16006.1,bt16006.2))))
def impl_ApplyMove.T1:Bool × List (List Nat × List Nat):=(true,[([],[]),([0],[0]),([],[]),([2],[2]),([],[]),([4],[4]),([1,3,5],[1,3,5]),([],[]),([7],[7]),([],[]),([9],[9]),([],[]),([11],[11]),([8,10,12,6],[8,10,12]),([6,13],[6,13]),([14,13],[14]),([15,15,0,1,2,3,4,5,6,7,8,9,10,11,12,13,14,15],[15])])
def impl_ApplyMove.B1:List Nat:=[0,1,0,4,0,16,63,0,128,0,512,0,2048,8191,16383,32767,65535]
theorem impl_ApplyMove.tab1:rtab .any (opsOf Try.f16 1)=impl_ApplyMove.T1:=by kernel_rfl
theorem impl_ApplyMove.bits1:waitsOk impl_ApplyMove.T1.2 impl_ApplyMove.B1=true:=by kernel_rfl
theorem impl_ApplyMove.calls (k:Nat) (a0_0:ByteArray) (a0_1:ByteArray) (a1_0:Int) (a1_1:ByteArray) (r1:ByteArray) (r2:ByteArray) (w:World) (h:impl_ApplyMove.f k a0_0 a0_1 a1_0 a1_1=some (r1,r2)) :
  Calls Try.prog 16 #[.agg #[.string a0_0,.string a0_1],.agg #[.int .u8 a1_0,.string a1_1]] w fun e w'=>e = .returned (.agg #[.string r1,.string r2])∧Below w.heap.size w w':=by
 have hu25:=Try.underlying25
 have hu33:=Try.underlying33
 have HB:=zk (Below.refl w.heap.size w)
 have H:=h
 unfold impl_ApplyMove.f at H
 clear h
 replace H:=zo H
 obtain ⟨t16004,A30,H⟩:=H
 try dsimp only at H
 have A3:=zk A30
 clear A30
 replace H:=zo H
 obtain ⟨t16005,A40,H⟩:=H
 try dsimp only at H
 have A4:=zk A40
 clear A40
 replace H:=zo H
 obtain ⟨⟨t16006,t16007⟩,A50,H⟩:=H
 try dsimp only at H
 have A5:=zk A50
 clear A50
 simp only [Option.some.injEq,Prod.mk.injEq] at H
 obtain ⟨rfl,rfl⟩:=H
 go_enter Try.func16,Try.ntmps16
 try go_wp2_with (first|((with_reducible refine gate_dst (N:=2) rfl ?_);refine zE (N:=2) (cs:=#[.string a0_0,.string a0_1]) (t:=25) ?_;intro gb16001 hg w6 hbox hb;have BK16001:=zk (hbox);have GW16001:=zk (zs (w:=w) hg za3);have GE16001:=zk (zs (w:=w) hg za3);replace HB:=zk (below_step za3 hb);clear hb hbox hg)|((with_reducible refine gate_dst (N:=3) rfl ?_);refine zE (N:=3) (cs:=#[.int .u8 a1_0,.string a1_1]) (t:=33) ?_;intro gb16002 hg w7 hbox hb;have BK16002:=zk (hbox);have GW16002:=zk (zs (w:=w) hg za3);have GE16002:=zk (zs (w:=w) hg za3);have NB16001_16002:=zk ((by rw [hg];exact Nat.ne_of_lt (zl BK16001.out):gb16001 ≠ gb16002));have NB16002_16001:=zk ((by rw [hg];exact Nat.ne_of_gt (zl BK16001.out):gb16002 ≠ gb16001));replace BK16001:=zk (zb BK16001.out hb);replace HB:=zk (below_step za3 hb);clear hb hbox hg)|((with_reducible refine gate_dst (N:=4) rfl ?_);refine zE (N:=4) (cs:=#[.string (⟨#[]⟩:ByteArray),.string (⟨#[]⟩:ByteArray)]) (t:=25) ?_;intro gb16003 hg w8 hbox hb;have BK16003:=zk (hbox);have GW16003:=zk (zs (w:=w) hg za3);have GE16003:=zk (zs (w:=w) hg za3);have NB16001_16003:=zk ((by rw [hg];exact Nat.ne_of_lt (zl BK16001.out):gb16001 ≠ gb16003));have NB16003_16001:=zk ((by rw [hg];exact Nat.ne_of_gt (zl BK16001.out):gb16003 ≠ gb16001));have NB16002_16003:=zk ((by rw [hg];exact Nat.ne_of_lt (zl BK16002.out):gb16002 ≠ gb16003));have NB16003_16002:=zk ((by rw [hg];exact Nat.ne_of_gt (zl BK16002.out):gb16003 ≠ gb16002));replace BK16001:=zk (zb BK16001.out hb);replace BK16002:=zk (zb BK16002.out hb);replace HB:=zk (below_step za3 hb);clear hb hbox hg))
 replace BK16001:=zk (blk_drew BK16001.out)
 replace BK16002:=zk (blk_drew BK16002.out)
 replace BK16003:=zk (blk_drew BK16003.out)
 replace HB:=zk (below_drew1 HB.out)
 refine start_ (n:=17) (S:=fun w'=>w'.cell? ⟨gb16001,0,none⟩=some (.string a0_0)∧w'.cell? ⟨gb16001,1,none⟩=some (.string a0_1)∧w'.cell? ⟨gb16002,0,none⟩=some (.int .u8 a1_0)∧w'.cell? ⟨gb16002,1,none⟩=some (.string a1_1)) (ds:=[]) #[false,false,false,false,false,false,false,false,false,false,false,false,false,false,false,false,false] (by kernel_rfl) rfl rfl ⟨(blk_cell BK16001.out 0).trans rfl,(blk_cell BK16001.out 1).trans rfl,(blk_cell BK16002.out 0).trans rfl,(blk_cell BK16002.out 1).trans rfl⟩ (fun hHeld=>?_);refine with_tabW impl_ApplyMove.tab1 impl_ApplyMove.bits1 (fun HT_ HW_=>?_)
 generalize w8.drew=w9 at BK16001 BK16002 BK16003 HB hHeld ⊢
 refine zy 0 (some 5) HT_.out ?_
 refine zy 2 (some 7) HT_.out ?_
 refine zy 4 (some 9) HT_.out ?_
 refine zy 7 (some 12) HT_.out ?_
 refine zy 9 (some 14) HT_.out ?_
 refine zy 11 (some 16) HT_.out ?_
 refine ztk 1 (some 6) HT_.out HW_.out hHeld ?_
 refine ztk 3 (some 8) HT_.out HW_.out hHeld ?_
 refine ztk 5 (some 10) HT_.out HW_.out hHeld ?_
 refine ztk 8 (some 13) HT_.out HW_.out hHeld ?_
 refine ztk 10 (some 15) HT_.out HW_.out hHeld ?_
 refine ztk 12 (some 17) HT_.out HW_.out hHeld ?_
 refine zon 6 (some 11) HT_.out (fun K hK=>?_)
 refine goes_ Try.func34 (by kernel_rfl) rfl #[.string a0_0,.int .u8 a1_0,.string a1_1] (by rfl) rfl rfl za4 ?_
 with_reducible refine (impl_ReplaceVar.calls a0_0 a1_0 a1_1 t16004 _ A3.out).mono ?_
 rintro e w10 ⟨rfl,hb⟩
 refine ⟨_,rfl,?_⟩
 replace BK16001:=zk (zb BK16001.out hb)
 replace BK16002:=zk (zb BK16002.out hb)
 replace BK16003:=zk (zb BK16003.out hb)
 replace HB:=zk (below_step za3 hb)
 (try clear hb)
 (try clear hb2)
 (try clear hk)
 (try clear hi)
 refine hK.out _ _ ⟨(blk_cell BK16001.out 0).trans rfl,(blk_cell BK16001.out 1).trans rfl,(blk_cell BK16002.out 0).trans rfl,(blk_cell BK16002.out 1).trans rfl⟩ (fun hHeld=>?_)
 clear hK K
 refine zno (some 11) ?_
 refine zon 13 (some 18) HT_.out (fun K hK=>?_)
 refine goes_ Try.func34 (by kernel_rfl) rfl #[.string a0_1,.int .u8 a1_0,.string a1_1] (by rfl) rfl rfl za4 ?_
 with_reducible refine (impl_ReplaceVar.calls a0_1 a1_0 a1_1 t16005 _ A4.out).mono ?_
 rintro e w11 ⟨rfl,hb⟩
 refine ⟨_,rfl,?_⟩
 replace BK16001:=zk (zb BK16001.out hb)
 replace BK16002:=zk (zb BK16002.out hb)
 replace BK16003:=zk (zb BK16003.out hb)
 replace HB:=zk (below_step za3 hb)
 (try clear hb)
 (try clear hb2)
 (try clear hk)
 (try clear hi)
 refine hK.out _ _ ⟨(blk_cell BK16001.out 0).trans rfl,(blk_cell BK16001.out 1).trans rfl,(blk_cell BK16002.out 0).trans rfl,(blk_cell BK16002.out 1).trans rfl⟩ (fun hHeld=>?_)
 clear hK K
 refine zno (some 18) ?_
 refine zy 14 (some 19) HT_.out ?_
 refine zon 15 (some 20) HT_.out (fun K hK=>?_)
 refine goes_ Try.func8 (by kernel_rfl) rfl #[.agg #[.string t16004,.string t16005]] (by rfl) rfl rfl za4 ?_
 with_reducible refine (impl_StripEquation.calls k t16004 t16005 t16006 t16007 _ A5.out).mono ?_
 rintro e w12 ⟨rfl,hb⟩
 refine ⟨_,rfl,?_⟩
 replace BK16001:=zk (zb BK16001.out hb)
 replace BK16002:=zk (zb BK16002.out hb)
 replace BK16003:=zk (zb BK16003.out hb)
 replace HB:=zk (below_step za3 hb)
 (try clear hb)
 (try clear hb2)
 (try clear hk)
 (try clear hi)
 refine hK.out _ _ ⟨(blk_cell BK16001.out 0).trans rfl,(blk_cell BK16001.out 1).trans rfl,(blk_cell BK16002.out 0).trans rfl,(blk_cell BK16002.out 1).trans rfl⟩ (fun hHeld=>?_)
 clear hK K
 refine zno (some 20) ?_
 refine zon 16 none HT_.out (fun K hK=>?_)
 have hs13:w12.cell? ⟨gb16003,0,none⟩=some (.string (⟨#[]⟩:ByteArray)):=(blk_cell BK16003.out 0).trans rfl
 have hfs13:=blk_frozen BK16003.out 0
 have hns13_0:=NB16001_16003.out
 have hns13_1:=NB16002_16003.out
 have hms13_0:=NB16003_16001.out
 have hms13_1:=NB16003_16002.out
 have hs14:w12.cell? ⟨gb16003,1,none⟩=some (.string (⟨#[]⟩:ByteArray)):=(blk_cell BK16003.out 1).trans rfl
 have hfs14:=blk_frozen BK16003.out 1
 have hns14_0:=NB16001_16003.out
 have hns14_1:=NB16002_16003.out
 have hms14_0:=NB16003_16001.out
 have hms14_1:=NB16003_16002.out
 refine skip_ (w1:=?_) (by rfl) rfl ?_ ?_
 rotate_left
 ·go_simp
  rfl
 refine hK.out _ _ ⟨((cell_far (p:=⟨gb16003,_,none⟩) NB16001_16003.out _).trans (((cell_far (p:=⟨gb16003,_,none⟩) NB16001_16003.out _).trans (hHeld.1)))),((cell_far (p:=⟨gb16003,_,none⟩) NB16001_16003.out _).trans (((cell_far (p:=⟨gb16003,_,none⟩) NB16001_16003.out _).trans (hHeld.2.1)))),((cell_far (p:=⟨gb16003,_,none⟩) NB16002_16003.out _).trans (((cell_far (p:=⟨gb16003,_,none⟩) NB16002_16003.out _).trans (hHeld.2.2.1)))),((cell_far (p:=⟨gb16003,_,none⟩) NB16002_16003.out _).trans (((cell_far (p:=⟨gb16003,_,none⟩) NB16002_16003.out _).trans (hHeld.2.2.2))))⟩ (fun hHeld=>?_)
 clear hK K
 refine done_ (done_of HT_.out (by kernel_rfl)) ?_
 try go_wp2
 refine bodyPost_ret (results_cell_row rfl _ _ gb16003 25 #[.string t16006,.string t16007] (0,0) _ rfl (zpu BK16003.out) Try.underlying25 rfl (by kernel_rfl)) rfl ?_
 exact ⟨za9,za3⟩
def impl_JoinEquations.l0:Nat→List ByteArray→List ByteArray→List (S61)→Int→Int→Option (ByteArray × ByteArray × Bool)
 | 0,_,_,_,_,_=>none
 | k+1,x4,x5,x16,x17,x18=>if x18 < x17 then (if 0≤x18 then (if x18 < (x16.length:Int) then (if ((rd_T61 x16 x18).f0)=1 then (if x4.length < 8796093022208 then (if x5.length < 8796093022208 then (impl_JoinEquations.l0 k (x4 ++ [(rd_T61 x16 x18).f1]) (x5 ++ [(rd_T61 x16 x18).f2]) x16 x17 (wrap64 (x18+1))) else (none)) else (none)) else (impl_JoinEquations.l0 k x4 x5 x16 x17 (wrap64 (x18+1)))) else (none)) else (none)) else ((impl_Join.f k x4 (⟨#[35]⟩:ByteArray)).bind fun t20018=>((impl_Join.f k x5 (⟨#[35]⟩:ByteArray)).bind fun t20019=>((impl_IsEquation.f k t20018 t20019).bind fun t20021=>(if t20021=true then (some (t20018,t20019,true)) else (some ((⟨#[]⟩:ByteArray),(⟨#[]⟩:ByteArray),false))))))
def impl_JoinEquations.f (k:Nat) (l0_0:List (S61)):Option (ByteArray × ByteArray × Bool):=(impl_IsValidProblem.f k l0_0).bind fun t20003=>(if t20003=true then (impl_JoinEquations.l0 k (([]:List ByteArray)) (([]:List ByteArray)) l0_0 (l0_0.length:Int) 0) else (some ((⟨#[]⟩:ByteArray),(⟨#[]⟩:ByteArray),false)))
theorem impl_JoinEquations.calls (k:Nat) (A0_0:Option Addr) (c0_0:Nat) (l0_0:List (S61)) (r1:ByteArray) (r2:ByteArray) (r3:Bool) (w:World) (hr0_0:Kd.C k61 w A0_0 l0_0.length l0_0) (hc0_0:l0_0.length≤c0_0) (h:impl_JoinEquations.f k l0_0=some (r1,r2,r3)) :
  Calls Try.prog 20 #[.agg #[.slice A0_0 l0_0.length c0_0]] w fun e w'=>e = .returned (.tuple #[.agg #[.string r1,.string r2],.bool r3])∧Below w.heap.size w w':=by
 have hu37:=Try.underlying37
 have hu25:=Try.underlying25
 have hu61:=Try.underlying61
 have HR0_0:=zk hr0_0
 have HC0_0:=zk hc0_0
 clear hr0_0 hc0_0
 have HB:=zk (Below.refl w.heap.size w)
 have H:=h
 unfold impl_JoinEquations.f at H
 clear h
 replace H:=zo H
 obtain ⟨t20003,A20,H⟩:=H
 try dsimp only at H
 have A2:=zk A20
 clear A20
 by_cases c3:t20003=true
 ·subst c3
  rw [if_pos rfl] at H
  try dsimp only at H
  obtain ⟨y20004,hy20004⟩:∃ y_:List ByteArray,y_=(([]:List ByteArray)):=⟨_,rfl⟩
  replace H:(impl_JoinEquations.l0 k y20004 (([]:List ByteArray)) l0_0 (l0_0.length:Int) 0)=some (r1,r2,r3):=by first|(rw [hy20004];with_reducible exact H)|(have H2_:=(Option.bind_some _ _).symm.trans H;rw [hy20004];with_reducible exact H2_)|(have H2_:=(Option.bind_some _ _).symm.trans H;with_reducible exact H2_)|with_reducible exact H|(rw [hy20004];exact H)|exact H
  have Ny20004:=zk hy20004
  clear hy20004
  obtain ⟨y20007,hy20007⟩:∃ y_:List ByteArray,y_=(([]:List ByteArray)):=⟨_,rfl⟩
  replace H:(impl_JoinEquations.l0 k y20004 y20007 l0_0 (l0_0.length:Int) 0)=some (r1,r2,r3):=by first|(rw [hy20007];with_reducible exact H)|(have H2_:=(Option.bind_some _ _).symm.trans H;rw [hy20007];with_reducible exact H2_)|(have H2_:=(Option.bind_some _ _).symm.trans H;with_reducible exact H2_)|with_reducible exact H|(rw [hy20007];exact H)|exact H
  have Ny20007:=zk hy20007
  clear hy20007
  have H':=zk H
  clear H
  go_enter Try.func20,Try.ntmps20
  go_wp2_with (first|((with_reducible refine gate_dst (N:=1) rfl ?_);refine zE (N:=1) (cs:=#[.slice A0_0 l0_0.length c0_0]) (t:=37) ?_;intro gb20001 hg w4 hbox hb;have BK20001:=zk (hbox);have GW20001:=zk (zs (w:=w) hg za3);have GE20001:=zk (zs (w:=w) hg za3);replace HB:=zk (below_step za3 hb);clear hb hbox hg)|((with_reducible refine gate_dst (N:=2) rfl ?_);refine zE (N:=2) (cs:=#[.string (⟨#[]⟩:ByteArray),.string (⟨#[]⟩:ByteArray)]) (t:=25) ?_;intro gb20002 hg w5 hbox hb;have BK20002:=zk (hbox);have GW20002:=zk (zs (w:=w) hg za3);have GE20002:=zk (zs (w:=w) hg za3);have NB20001_20002:=zk ((by rw [hg];exact Nat.ne_of_lt (zl BK20001.out):gb20001 ≠ gb20002));have NB20002_20001:=zk ((by rw [hg];exact Nat.ne_of_gt (zl BK20001.out):gb20002 ≠ gb20001));replace BK20001:=zk (zb BK20001.out hb);replace HB:=zk (below_step za3 hb);clear hb hbox hg;have hnb6:=NB20001_20002.out;have hnc6:=NB20002_20001.out;obtain ⟨hcz7_0,hfz7_0⟩:=blk1 BK20001.out)|((with_reducible refine gate_callee (f:=37) rfl ?_);refine goesL_ (some 10) rfl rfl Try.func37 (by kernel_rfl) rfl #[.agg #[.slice A0_0 l0_0.length c0_0]] rfl za4 ?_;(with_reducible refine (impl_IsValidProblem.calls k _ _ l0_0 _ _ ?side1 ?side2 A2.out).mono ?_);(case side1=>repeat (first|exact (Kd.C_below HR0_0.out HB.out)|(with_reducible refine Kd.C_alloc ?_ _)|(with_reducible refine Kd.C_drewN ?_ _)|(with_reducible refine Kd.C_drew ?_)));(case side2=>exact HC0_0.out);rintro e w8 ⟨rfl,hb⟩;refine ⟨_,rfl,?_⟩;replace BK20001:=zk (zb BK20001.out hb);replace BK20002:=zk (zb BK20002.out hb);replace HB:=zk (below_step za3 hb);(try clear hb);(try clear hb2);(try clear hk);(try clear hi))|((with_reducible refine gate_dst (N:=13) rfl ?_);refine Kd.R_lit Kd.string _ 9 ?hg (N:=13) ?hd (xs:=([]:List ByteArray)) (inner:=[]) (ok:=fun _=>True) (okp:=fun _=>True) ?hr ?hp (fun _ hk=>hk) trivial (Below.refl _ _) (Nat.le_refl _) (by simp) ?_;(case hd=>rfl);(case hg=>rfl);(case hr=>first|(go_simp;done)|(go_simp;rfl));(case hp=>exact (Reps.none _ _));intro v20005 w9 ho10 hb hg_ hnew_;clear hg_ hnew_;(first|rw [← Ny20004.out] at ho10|(simp only [Int.reduceToNat] at ho10;rw [← Ny20004.out] at ho10));have HO20006:=zk (Kd.R_lower ho10 (below_size za3));replace BK20001:=zk (zb BK20001.out hb);replace BK20002:=zk (zb BK20002.out hb);replace HB:=zk (below_step za3 hb);clear hb ho10)|((with_reducible refine gate_dst (N:=14) rfl ?_);refine Kd.R_lit Kd.string _ 9 ?hg (N:=14) ?hd (xs:=([]:List ByteArray)) (inner:=[]) (ok:=fun _=>True) (okp:=fun _=>True) ?hr ?hp (fun _ hk=>hk) trivial (Below.refl _ _) (Nat.le_refl _) (by simp) ?_;(case hd=>rfl);(case hg=>rfl);(case hr=>first|(go_simp;done)|(go_simp;rfl));(case hp=>exact (Reps.none _ _));intro v20008 w11 ho12 hb hg_ hnew_;clear hg_ hnew_;(first|rw [← Ny20007.out] at ho12|(simp only [Int.reduceToNat] at ho12;rw [← Ny20007.out] at ho12));have HO20009:=zk (Kd.R_lower (Kd.R_new' ho12 (Kd.R_lt (za0 HO20006.out))) (below_size za3));replace BK20001:=zk (zb BK20001.out hb);replace BK20002:=zk (zb BK20002.out hb);replace HO20006:=zk (Kd.R_elder' (za0 HO20006.out) (Kd.R_base ho12) hb);replace HB:=zk (below_step za3 hb);clear hb ho12;obtain ⟨hcz13_0,hfz13_0⟩:=blk1 BK20001.out))
  try simp only [Act.put,zt,zv,zu]
  go_loopg [4,5,18] k (fun kq v4 v5 v18 w'=>∃ (x4_1:List ByteArray) (x5_1:List ByteArray) (x18_1:Int),v18 = .int .i64 x18_1∧Aside0 (impl_JoinEquations.l0 kq x4_1 x5_1 l0_0 (l0_0.length:Int) x18_1=some (r1,r2,r3))∧Aside0 (kq≤k)∧Aside0 (Kd.R Kd.string 9 w' w.heap.size (fun k_=>some k_ ≠ (v5:Value).ownBlock) v4 x4_1)∧Aside0 (Kd.R Kd.string 9 w' w.heap.size (fun k_=>some k_ ≠ (v4:Value).ownBlock) v5 x5_1)∧Aside0 (w'.heap[gb20001]? = some (.cells #[(.slice A0_0 l0_0.length c0_0)] 37 (0,0)))∧Aside0 (w'.heap[gb20002]? = some (.cells #[.string (⟨#[]⟩:ByteArray),.string (⟨#[]⟩:ByteArray)] 25 (0,0)))∧Aside0 (Below w.heap.size w w'))
  case atStart=>exact ⟨(y20004),(y20007),(0),za8,H',⟨Nat.le_refl _⟩,⟨by (with_reducible repeat (first|apply Kd.R_alloc|apply Kd.R_drewN|apply Kd.R_drew));exact Kd.R_mono HO20006.out (fun _ hk=>hk.2)⟩,⟨by (with_reducible repeat (first|apply Kd.R_alloc|apply Kd.R_drewN|apply Kd.R_drew));exact Kd.R_mono HO20009.out (fun _ hk=>hk.2)⟩,⟨za1 BK20001.out⟩,⟨za1 BK20002.out⟩,⟨za3⟩⟩
  case round =>
   clear H'
   try clear c3
   try clear hcz13_0
   try clear hcz7_0
   try clear hfz13_0
   try clear hfz7_0
   obtain ⟨x4_1,x5_1,x18_1,rfl,HA,HK1,HO_4,HO_5,BK20001,BK20002,HB⟩:=hrel
   cases gk with
   | zero=>exact absurd HA.out (by simp [impl_JoinEquations.l0])
   | succ k1 =>
    have H:=HA.out
    clear HA
    simp only [impl_JoinEquations.l0] at H
    by_cases c14:x18_1 < (l0_0.length:Int)
    rw [if_pos c14] at H
    have c14b0:=zdl c14
    clear c14
    by_cases c15:0≤x18_1
    rw [if_pos c15] at H
    have c15b0:=zdle c15
    clear c15
    by_cases c16:x18_1 < (l0_0.length:Int)
    rw [if_pos c16] at H
    have c16b0:=zdl c16
    clear c16
    by_cases c17:((rd_T61 l0_0 x18_1).f0)=1
    rw [if_pos c17] at H
    have c17b0:=zbt c17
    have c17b1:=zqn c17
    clear c17
    by_cases c18:x4_1.length < 8796093022208
    rw [if_pos c18] at H
    have LMc18:=zk c18
    clear c18
    obtain ⟨y20012,hy20012⟩:∃ y_:List ByteArray,y_=(x4_1 ++ [(rd_T61 l0_0 x18_1).f1]):=⟨_,rfl⟩
    replace H:(if x5_1.length < 8796093022208 then (impl_JoinEquations.l0 k1 y20012 (x5_1 ++ [(rd_T61 l0_0 x18_1).f2]) l0_0 (l0_0.length:Int) (wrap64 (x18_1+1))) else (none))=some (r1,r2,r3):=by first|(rw [hy20012];with_reducible exact H)|(have H2_:=(Option.bind_some _ _).symm.trans H;rw [hy20012];with_reducible exact H2_)|(have H2_:=(Option.bind_some _ _).symm.trans H;with_reducible exact H2_)|with_reducible exact H|(rw [hy20012];exact H)|exact H
    have Ny20012:=zk hy20012
    clear hy20012
    by_cases c19:x5_1.length < 8796093022208
    rw [if_pos c19] at H
    have LMc19:=zk c19
    clear c19
    obtain ⟨y20015,hy20015⟩:∃ y_:List ByteArray,y_=(x5_1 ++ [(rd_T61 l0_0 x18_1).f2]):=⟨_,rfl⟩
    replace H:(impl_JoinEquations.l0 k1 y20012 y20015 l0_0 (l0_0.length:Int) (wrap64 (x18_1+1)))=some (r1,r2,r3):=by first|(rw [hy20015];with_reducible exact H)|(have H2_:=(Option.bind_some _ _).symm.trans H;rw [hy20015];with_reducible exact H2_)|(have H2_:=(Option.bind_some _ _).symm.trans H;with_reducible exact H2_)|with_reducible exact H|(rw [hy20015];exact H)|exact H
    have Ny20015:=zk hy20015
    clear hy20015
    have H':=zk H
    clear H
    have p20010:0≤(x18_1:Int):=of_decide_eq_true za7
    have q20010:x18_1 < (l0_0.length:Int):=of_decide_eq_true za7
    obtain ⟨ad20010,A20010_5,c20010_5,A20010_6,c20010_6,e20010,hx20010_0,hx20010_1,hx20010_2,hx20010_3,hx20010_4,hx20010_5,hx20010_6,hx20010_7,hl20010_5,hi20010_5,hl20010_6,hi20010_6⟩:=at_T61 HR0_0.out x18_1 p20010 q20010
    cases e20010
    replace hx20010_0:=zx HB.out hx20010_0
    replace hx20010_1:=zx HB.out hx20010_1
    replace hx20010_2:=zx HB.out hx20010_2
    replace hx20010_3:=zx HB.out hx20010_3
    replace hx20010_4:=zx HB.out hx20010_4
    replace hx20010_5:=zx HB.out hx20010_5
    replace hx20010_6:=zx HB.out hx20010_6
    replace hx20010_7:=zx HB.out hx20010_7
    have HR20010_5:=zk hi20010_5
    have HC20010_5:=zk hl20010_5
    clear hi20010_5 hl20010_5
    have HR20010_6:=zk hi20010_6
    have HC20010_6:=zk hl20010_6
    clear hi20010_6 hl20010_6
    replace p20010:=eq_true p20010
    replace q20010:=eq_true q20010
    have fin0_:=zk trivial
    rotate_left
    · rw [if_neg c19] at H
      exact absurd H (by simp)
    · rw [if_neg c18] at H
      exact absurd H (by simp)
    rw [if_neg c17] at H
    have c17b0:=zbn c17
    have c17b1:=zqt c17
    have H':=zk H
    clear H
    have p20010:0≤(x18_1:Int):=of_decide_eq_true za7
    have q20010:x18_1 < (l0_0.length:Int):=of_decide_eq_true za7
    obtain ⟨ad20010,A20010_5,c20010_5,A20010_6,c20010_6,e20010,hx20010_0,hx20010_1,hx20010_2,hx20010_3,hx20010_4,hx20010_5,hx20010_6,hx20010_7,hl20010_5,hi20010_5,hl20010_6,hi20010_6⟩:=at_T61 HR0_0.out x18_1 p20010 q20010
    cases e20010
    replace hx20010_0:=zx HB.out hx20010_0
    replace hx20010_1:=zx HB.out hx20010_1
    replace hx20010_2:=zx HB.out hx20010_2
    replace hx20010_3:=zx HB.out hx20010_3
    replace hx20010_4:=zx HB.out hx20010_4
    replace hx20010_5:=zx HB.out hx20010_5
    replace hx20010_6:=zx HB.out hx20010_6
    replace hx20010_7:=zx HB.out hx20010_7
    have HR20010_5:=zk hi20010_5
    have HC20010_5:=zk hl20010_5
    clear hi20010_5 hl20010_5
    have HR20010_6:=zk hi20010_6
    have HC20010_6:=zk hl20010_6
    clear hi20010_6 hl20010_6
    replace p20010:=eq_true p20010
    replace q20010:=eq_true q20010
    have fin2_:=zk trivial
    rotate_left
    · rw [if_neg c16] at H
      exact absurd H (by simp)
    · rw [if_neg c15] at H
      exact absurd H (by simp)
    rw [if_neg c14] at H
    have c14b0:=zdnl c14
    clear c14
    replace H:=zo H
    obtain ⟨t20018,A310,H⟩:=H
    try dsimp only at H
    have A31:=zk A310
    clear A310
    replace H:=zo H
    obtain ⟨t20019,A320,H⟩:=H
    try dsimp only at H
    have A32:=zk A320
    clear A320
    replace H:=zo H
    obtain ⟨t20021,A330,H⟩:=H
    try dsimp only at H
    have A33:=zk A330
    clear A330
    by_cases c34:t20021=true
    subst c34
    rw [if_pos rfl] at H
    try dsimp only at H
    simp only [Option.some.injEq,Prod.mk.injEq] at H
    obtain ⟨rfl,rfl,rfl⟩:=H
    obtain ⟨Ao35,co35,eo35⟩:=Kd.R_slice HO_4.out
    subst eo35
    have fin1_:=zk trivial
    rotate_left
    · replace c34:=Bool.eq_false_iff.mpr c34
      subst c34
      rw [if_neg (show ¬ (false=true) by decide)] at H
      try dsimp only at H
      simp only [Option.some.injEq,Prod.mk.injEq] at H
      obtain ⟨rfl,rfl,rfl⟩:=H
      obtain ⟨Ao47,co47,eo47⟩:=Kd.R_slice HO_4.out
      subst eo47
      go_wp2_with (first|((with_reducible refine gate_callee (f:=38) rfl ?_);refine goesL_ (some 37) rfl rfl Try.func38 (by kernel_rfl) rfl #[.slice Ao47 x4_1.length co47,.string (⟨#[35]⟩:ByteArray)] rfl za4 ?_;(with_reducible refine (impl_Join.calls k1 _ _ x4_1 (⟨#[35]⟩:ByteArray) t20018 _ ?side1 ?side2 A31.out).mono ?_);(case side1=>repeat (first|exact (Kd.R_reads' HO_4.out).2.2|(with_reducible refine Kd.C_alloc ?_ _)|(with_reducible refine Kd.C_drewN ?_ _)|(with_reducible refine Kd.C_drew ?_)));(case side2=>exact (Kd.R_reads' HO_4.out).2.1);rintro e w48 ⟨rfl,hb⟩;refine ⟨_,rfl,?_⟩;replace HO_4:=zk (Kd.R_below (za0 HO_4.out) hb);replace HO_5:=zk (Kd.R_below (za0 HO_5.out) hb);replace BK20001:=zk (zb BK20001.out hb);replace BK20002:=zk (zb BK20002.out hb);replace HB:=zk (below_step za3 hb);(try clear hb);(try clear hb2);(try clear hk);(try clear hi);obtain ⟨Ao49,co49,eo49⟩:=Kd.R_slice HO_5.out;subst eo49)|((with_reducible refine gate_callee (f:=38) rfl ?_);refine goesL_ (some 39) rfl rfl Try.func38 (by kernel_rfl) rfl #[.slice Ao49 x5_1.length co49,.string (⟨#[35]⟩:ByteArray)] rfl za4 ?_;(with_reducible refine (impl_Join.calls k1 _ _ x5_1 (⟨#[35]⟩:ByteArray) t20019 _ ?side1 ?side2 A32.out).mono ?_);(case side1=>repeat (first|exact (Kd.R_reads' HO_5.out).2.2|(with_reducible refine Kd.C_alloc ?_ _)|(with_reducible refine Kd.C_drewN ?_ _)|(with_reducible refine Kd.C_drew ?_)));(case side2=>exact (Kd.R_reads' HO_5.out).2.1);rintro e w50 ⟨rfl,hb⟩;refine ⟨_,rfl,?_⟩;replace HO_4:=zk (Kd.R_below (za0 HO_4.out) hb);replace HO_5:=zk (Kd.R_below (za0 HO_5.out) hb);replace BK20001:=zk (zb BK20001.out hb);replace BK20002:=zk (zb BK20002.out hb);replace HB:=zk (below_step za3 hb);(try clear hb);(try clear hb2);(try clear hk);(try clear hi))|((with_reducible refine gate_dst (N:=8) rfl ?_);refine zE (N:=8) (cs:=#[.string (⟨#[]⟩:ByteArray),.string (⟨#[]⟩:ByteArray)]) (t:=25) ?_;intro gb20020 hg w51 hbox hb;replace HO_4:=zk (Kd.R_below (za0 HO_4.out) hb);replace HO_5:=zk (Kd.R_below (za0 HO_5.out) hb);have BK20020:=zk (hbox);have GW20020:=zk (zs (w:=w) hg za3);have GE20020:=zk (zs (w:=w) hg za3);have NB20001_20020:=zk ((by rw [hg];exact Nat.ne_of_lt (zl BK20001.out):gb20001 ≠ gb20020));have NB20020_20001:=zk ((by rw [hg];exact Nat.ne_of_gt (zl BK20001.out):gb20020 ≠ gb20001));have NB20002_20020:=zk ((by rw [hg];exact Nat.ne_of_lt (zl BK20002.out):gb20002 ≠ gb20020));have NB20020_20002:=zk ((by rw [hg];exact Nat.ne_of_gt (zl BK20002.out):gb20020 ≠ gb20002));replace BK20001:=zk (zb BK20001.out hb);replace BK20002:=zk (zb BK20002.out hb);replace HB:=zk (below_step za3 hb);clear hb hbox hg;have hnb52:=NB20020_20001.out;have hnc52:=NB20001_20020.out;have hnb53:=NB20020_20002.out;have hnc53:=NB20002_20020.out;obtain ⟨hcz54_0,hcz54_1,hfz54_0,hfz54_1⟩:=blk2 BK20020.out)|((with_reducible refine gate_callee (f:=14) rfl ?_);refine goesL_ (some 42) rfl rfl Try.func14 (by kernel_rfl) rfl #[.agg #[.string t20018,.string t20019]] rfl za4 ?_;(with_reducible refine (impl_IsEquation.calls k1 t20018 t20019 _ _ A33.out).mono ?_);rintro e w55 ⟨rfl,hb⟩;refine ⟨_,rfl,?_⟩;replace HO_4:=zk (Kd.R_below za107 hb);replace HO_5:=zk (Kd.R_below za106 hb);replace BK20001:=zk (blk_below (g:=gb20001) (o:=.cells #[.slice A0_0 l0_0.length c0_0] 37 (0,0)) za87 hb);replace BK20002:=zk (blk_below (g:=gb20002) (o:=.cells #[.string (⟨#[]⟩:ByteArray),.string (⟨#[]⟩:ByteArray)] 25 (0,0)) za86 hb);replace HB:=zk (below_step za3 hb);replace BK20020:=zk (blk_below (g:=gb20020) (o:=.cells #[.string t20018,.string t20019] 25 (0,0)) (zpu BK20020.out) hb);(try clear hb);(try clear hb2);(try clear hk);(try clear hi);have hnb56:=NB20002_20001.out;have hnc56:=NB20001_20002.out;obtain ⟨hcz57_0,hcz57_1,hfz57_0,hfz57_1⟩:=blk2 BK20002.out))
      refine bodyPost_ret (results_ct rfl _ _ gb20002 25 #[.string (⟨#[]⟩:ByteArray),.string (⟨#[]⟩:ByteArray)] (0,0) _ rfl (zpu BK20002.out) Try.underlying25 rfl (by kernel_rfl)) rfl ?_
      exact ⟨za9,za3⟩
    all_goals
     go_wp2_with (first|((with_reducible refine gate_dst (N:=7) rfl ?_);refine zE (N:=7) (cs:=#[.int .i64 0,.string (⟨#[]⟩:ByteArray),.string (⟨#[]⟩:ByteArray),.int .i64 0,.string (⟨#[]⟩:ByteArray),.slice none 0 0,.slice none 0 0,.int .i64 0]) (t:=61) ?_;intro gb20011 hg w20 hbox hb;replace HO_4:=zk (Kd.R_below (za0 HO_4.out) hb);replace HO_5:=zk (Kd.R_below (za0 HO_5.out) hb);have BK20011:=zk (hbox);have GW20011:=zk (zs (w:=w) hg za3);have GE20011:=zk (zs (w:=w) hg za3);have NB20001_20011:=zk ((by rw [hg];exact Nat.ne_of_lt (zl BK20001.out):gb20001 ≠ gb20011));have NB20011_20001:=zk ((by rw [hg];exact Nat.ne_of_gt (zl BK20001.out):gb20011 ≠ gb20001));have NB20002_20011:=zk ((by rw [hg];exact Nat.ne_of_lt (zl BK20002.out):gb20002 ≠ gb20011));have NB20011_20002:=zk ((by rw [hg];exact Nat.ne_of_gt (zl BK20002.out):gb20011 ≠ gb20002));replace BK20001:=zk (zb BK20001.out hb);replace BK20002:=zk (zb BK20002.out hb);replace HB:=zk (below_step za3 hb);clear hb hbox hg;have hnb21:=NB20011_20001.out;have hnc21:=NB20001_20011.out;have hnb22:=NB20011_20002.out;have hnc22:=NB20002_20011.out;obtain ⟨hcz23_0,hcz23_1,hcz23_2,hcz23_3,hcz23_4,hcz23_5,hcz23_6,hcz23_7,hfz23_0,hfz23_1,hfz23_2,hfz23_3,hfz23_4,hfz23_5,hfz23_6,hfz23_7⟩:=blk8 BK20011.out)|((with_reducible refine gate_builtin (b:=.append) (xs:=#[.tmp 25,.tmp 28]) rfl ?_);at_builtin;refine Kd.R_append Kd.string (w0:=w) w.heap.size rfl (.tmp 25) (.tmp 28) 55 9 (.string ⟨#[]⟩) 16 rfl Try.underlying55 info9 rfl (by decide) (by omega) u4 x4_1 ((rd_T61 l0_0 x18_1).f1) [.string ((rd_T61 l0_0 x18_1).f1)] (fun k_=>some k_ ≠ (u5:Value).ownBlock) (fun _=>False) rfl (by first|(go_simp;done)|(go_simp;rfl)) ?aP (fun _ hk=>hk.elim) ?aF ?aO ?aB ?aS ?aL ?_;(case aP=>exact rfl);(case aB=>exact za3);(case aF=>exact (fun k_ hk=>Kd.fresh' (Kd.R_lt (by (with_reducible repeat (first|apply Kd.R_alloc|apply Kd.R_drewN|apply Kd.R_drew));exact (Kd.R_mono (zfR (zfR (zfR (zfR (zfR (zfR (zfR (zfR (Kd.R_types HO_5.out BK20011.out (by decide)))))))))) (fun _ h_=>h_.1)))) k_ hk));(case aO=>exact za102);(case aS=>exact (below_size za3));(case aL=>have:=LMc18.out;omega);intro v20013 w24 ho hb hg hat;rw [← Ny20012.out] at ho;replace HO_5:=zk (Kd.R_after (ok:=(fun _=>True)) (by (with_reducible repeat (first|apply Kd.R_alloc|apply Kd.R_drewN|apply Kd.R_drew));exact Kd.R_mono (zfR (zfR (zfR (zfR (zfR (zfR (zfR (zfR (Kd.R_types HO_5.out BK20011.out (by decide)))))))))) (fun _ hk=>⟨trivial,hk.1⟩)) hg hat);replace BK20001:=zk (blk_grown (g:=gb20001) (o:=.cells #[.slice (some ad20010) l0_0.length c0_0] 37 (0,0)) za56 hg (Kd.R_ne HO_4.out BK20001.out (by decide)));replace BK20002:=zk (blk_grown (g:=gb20002) (o:=.cells #[.string (⟨#[]⟩:ByteArray),.string (⟨#[]⟩:ByteArray)] 25 (0,0)) za55 hg (Kd.R_ne HO_4.out BK20002.out (by decide)));replace HB:=zk (hb);have HO20014:=zk (ho);replace BK20011:=zk (blk_grown (g:=gb20011) (o:=.cells #[.int .i64 ((rd_T61 l0_0 x18_1).f0),.string ((rd_T61 l0_0 x18_1).f1),.string ((rd_T61 l0_0 x18_1).f2),.int .i64 ((rd_T61 l0_0 x18_1).f3.f0),.string ((rd_T61 l0_0 x18_1).f3.f1),.slice A20010_5 ((rd_T61 l0_0 x18_1).f3.f2).length c20010_5,.slice A20010_6 ((rd_T61 l0_0 x18_1).f4).length c20010_6,.int .i64 ((rd_T61 l0_0 x18_1).f5)] 61 (0,0)) (zpu BK20011.out) hg (Kd.R_ne HO_4.out BK20011.out (by decide)));clear HO_4;clear ho hb hg hat;obtain ⟨hcz25_0,hcz25_1,hcz25_2,hcz25_3,hcz25_4,hcz25_5,hcz25_6,hcz25_7,hfz25_0,hfz25_1,hfz25_2,hfz25_3,hfz25_4,hfz25_5,hfz25_6,hfz25_7⟩:=blk8 BK20011.out)|((with_reducible refine gate_builtin (b:=.append) (xs:=#[.tmp 30,.tmp 33]) rfl ?_);at_builtin;refine Kd.R_append Kd.string (w0:=w) w.heap.size rfl (.tmp 30) (.tmp 33) 55 9 (.string ⟨#[]⟩) 16 rfl Try.underlying55 info9 rfl (by decide) (by omega) u5 x5_1 ((rd_T61 l0_0 x18_1).f2) [.string ((rd_T61 l0_0 x18_1).f2)] (fun k_=>some k_ ≠ (v20013:Value).ownBlock) (fun _=>False) rfl rfl ?aP (fun _ hk=>hk.elim) ?aF ?aO ?aB ?aS ?aL ?_;(case aP=>exact rfl);(case aB=>exact za3);(case aF=>exact (fun k_ hk=>Kd.fresh' (Kd.R_lt (za0 HO20014.out)) k_ hk));(case aO=>exact (by (with_reducible repeat (first|apply Kd.R_alloc|apply Kd.R_drewN|apply Kd.R_drew));exact Kd.R_mono HO_5.out (fun _ hk=>hk.2)));(case aS=>exact (below_size za3));(case aL=>have:=LMc19.out;omega);intro v20016 w26 ho hb hg hat;rw [← Ny20015.out] at ho;replace BK20001:=zk (blk_grown (g:=gb20001) (o:=.cells #[.slice (some ad20010) l0_0.length c0_0] 37 (0,0)) (za1 BK20001.out) hg (Kd.R_ne HO_5.out BK20001.out (by decide)));replace BK20002:=zk (blk_grown (g:=gb20002) (o:=.cells #[.string (⟨#[]⟩:ByteArray),.string (⟨#[]⟩:ByteArray)] 25 (0,0)) (za1 BK20002.out) hg (Kd.R_ne HO_5.out BK20002.out (by decide)));replace BK20011:=zk (blk_grown (g:=gb20011) (o:=.cells #[.int .i64 ((rd_T61 l0_0 x18_1).f0),.string ((rd_T61 l0_0 x18_1).f1),.string ((rd_T61 l0_0 x18_1).f2),.int .i64 ((rd_T61 l0_0 x18_1).f3.f0),.string ((rd_T61 l0_0 x18_1).f3.f1),.slice A20010_5 ((rd_T61 l0_0 x18_1).f3.f2).length c20010_5,.slice A20010_6 ((rd_T61 l0_0 x18_1).f4).length c20010_6,.int .i64 ((rd_T61 l0_0 x18_1).f5)] 61 (0,0)) (za1 BK20011.out) hg (Kd.R_ne HO_5.out BK20011.out (by decide)));replace HO20014:=zk (Kd.R_after (ok:=(fun _=>True)) (by (with_reducible repeat (first|apply Kd.R_alloc|apply Kd.R_drewN|apply Kd.R_drew));exact Kd.R_mono HO20014.out (fun _ hk=>⟨trivial,hk⟩)) hg hat);replace HB:=zk (hb);have HO20017:=zk (ho);clear HO_5;clear ho hb hg hat)|((with_reducible refine gate_callee (f:=38) rfl ?_);refine goesL_ (some 37) rfl rfl Try.func38 (by kernel_rfl) rfl #[.slice Ao35 x4_1.length co35,.string (⟨#[35]⟩:ByteArray)] rfl za4 ?_;(with_reducible refine (impl_Join.calls k1 _ _ x4_1 (⟨#[35]⟩:ByteArray) t20018 _ ?side1 ?side2 A31.out).mono ?_);(case side1=>repeat (first|exact (Kd.R_reads' HO_4.out).2.2|(with_reducible refine Kd.C_alloc ?_ _)|(with_reducible refine Kd.C_drewN ?_ _)|(with_reducible refine Kd.C_drew ?_)));(case side2=>exact (Kd.R_reads' HO_4.out).2.1);rintro e w36 ⟨rfl,hb⟩;refine ⟨_,rfl,?_⟩;replace HO_4:=zk (Kd.R_below (za0 HO_4.out) hb);replace HO_5:=zk (Kd.R_below (za0 HO_5.out) hb);replace BK20001:=zk (zb BK20001.out hb);replace BK20002:=zk (zb BK20002.out hb);replace HB:=zk (below_step za3 hb);(try clear hb);(try clear hb2);(try clear hk);(try clear hi);obtain ⟨Ao37,co37,eo37⟩:=Kd.R_slice HO_5.out;subst eo37)|((with_reducible refine gate_callee (f:=38) rfl ?_);refine goesL_ (some 39) rfl rfl Try.func38 (by kernel_rfl) rfl #[.slice Ao37 x5_1.length co37,.string (⟨#[35]⟩:ByteArray)] rfl za4 ?_;(with_reducible refine (impl_Join.calls k1 _ _ x5_1 (⟨#[35]⟩:ByteArray) t20019 _ ?side1 ?side2 A32.out).mono ?_);(case side1=>repeat (first|exact (Kd.R_reads' HO_5.out).2.2|(with_reducible refine Kd.C_alloc ?_ _)|(with_reducible refine Kd.C_drewN ?_ _)|(with_reducible refine Kd.C_drew ?_)));(case side2=>exact (Kd.R_reads' HO_5.out).2.1);rintro e w38 ⟨rfl,hb⟩;refine ⟨_,rfl,?_⟩;replace HO_4:=zk (Kd.R_below (za0 HO_4.out) hb);replace HO_5:=zk (Kd.R_below (za0 HO_5.out) hb);replace BK20001:=zk (zb BK20001.out hb);replace BK20002:=zk (zb BK20002.out hb);replace HB:=zk (below_step za3 hb);(try clear hb);(try clear hb2);(try clear hk);(try clear hi))|((with_reducible refine gate_dst (N:=8) rfl ?_);refine zE (N:=8) (cs:=#[.string (⟨#[]⟩:ByteArray),.string (⟨#[]⟩:ByteArray)]) (t:=25) ?_;intro gb20020 hg w39 hbox hb;replace HO_4:=zk (Kd.R_below (za0 HO_4.out) hb);replace HO_5:=zk (Kd.R_below (za0 HO_5.out) hb);have BK20020:=zk (hbox);have GW20020:=zk (zs (w:=w) hg za3);have GE20020:=zk (zs (w:=w) hg za3);have NB20001_20020:=zk ((by rw [hg];exact Nat.ne_of_lt (zl BK20001.out):gb20001 ≠ gb20020));have NB20020_20001:=zk ((by rw [hg];exact Nat.ne_of_gt (zl BK20001.out):gb20020 ≠ gb20001));have NB20002_20020:=zk ((by rw [hg];exact Nat.ne_of_lt (zl BK20002.out):gb20002 ≠ gb20020));have NB20020_20002:=zk ((by rw [hg];exact Nat.ne_of_gt (zl BK20002.out):gb20020 ≠ gb20002));replace BK20001:=zk (zb BK20001.out hb);replace BK20002:=zk (zb BK20002.out hb);replace HB:=zk (below_step za3 hb);clear hb hbox hg;have hnb40:=NB20020_20001.out;have hnc40:=NB20001_20020.out;have hnb41:=NB20020_20002.out;have hnc41:=NB20002_20020.out;obtain ⟨hcz42_0,hcz42_1,hfz42_0,hfz42_1⟩:=blk2 BK20020.out)|((with_reducible refine gate_callee (f:=14) rfl ?_);refine goesL_ (some 42) rfl rfl Try.func14 (by kernel_rfl) rfl #[.agg #[.string t20018,.string t20019]] rfl za4 ?_;(with_reducible refine (impl_IsEquation.calls k1 t20018 t20019 _ _ A33.out).mono ?_);rintro e w43 ⟨rfl,hb⟩;refine ⟨_,rfl,?_⟩;replace HO_4:=zk (Kd.R_below za107 hb);replace HO_5:=zk (Kd.R_below za106 hb);replace BK20001:=zk (blk_below (g:=gb20001) (o:=.cells #[.slice A0_0 l0_0.length c0_0] 37 (0,0)) za87 hb);replace BK20002:=zk (blk_below (g:=gb20002) (o:=.cells #[.string (⟨#[]⟩:ByteArray),.string (⟨#[]⟩:ByteArray)] 25 (0,0)) za86 hb);replace HB:=zk (below_step za3 hb);replace BK20020:=zk (blk_below (g:=gb20020) (o:=.cells #[.string t20018,.string t20019] 25 (0,0)) (zpu BK20020.out) hb);(try clear hb);(try clear hb2);(try clear hk);(try clear hi);obtain ⟨hcz44_0,hcz44_1,hfz44_0,hfz44_1⟩:=blk2 BK20020.out;have hnb45:=NB20002_20001.out;have hnc45:=NB20001_20002.out;obtain ⟨hcz46_0,hcz46_1,hfz46_0,hfz46_1⟩:=blk2 BK20002.out))
     first
     | (
       clear fin0_
       go_roundg k1
       case measure=>have:=HK1.out;omega
       case rel=>exact ⟨(y20012),(y20015),(wrap64 (x18_1+1)),za8,H',⟨za60⟩,⟨by (with_reducible repeat (first|apply Kd.R_alloc|apply Kd.R_drewN|apply Kd.R_drew));exact Kd.R_mono HO20014.out (fun _ hk=>hk.2)⟩,⟨za0 HO20017.out⟩,⟨za1 BK20001.out⟩,⟨za1 BK20002.out⟩,⟨za3⟩⟩)
     | (
       clear fin1_
       refine bodyPost_ret (results_ct rfl _ _ gb20002 25 #[.string t20018,.string t20019] (0,0) _ rfl (zpu BK20002.out) Try.underlying25 rfl (by kernel_rfl)) rfl ?_
       exact ⟨za9,za3⟩)
     | (
       clear fin2_
       go_roundg k1
       case measure=>have:=HK1.out;omega
       case rel=>exact ⟨(x4_1),(x5_1),(wrap64 (x18_1+1)),za8,H',⟨za60⟩,⟨za102⟩,⟨by (with_reducible repeat (first|apply Kd.R_alloc|apply Kd.R_drewN|apply Kd.R_drew));exact Kd.R_mono (zfR (zfR (zfR (zfR (zfR (zfR (zfR (zfR (Kd.R_types HO_5.out BK20011.out (by decide)))))))))) (fun _ hk=>hk.1)⟩,⟨za56⟩,⟨za55⟩,⟨za3⟩⟩)
 ·replace c3:=Bool.eq_false_iff.mpr c3
  subst c3
  rw [if_neg (show ¬ (false=true) by decide)] at H
  try dsimp only at H
  simp only [Option.some.injEq,Prod.mk.injEq] at H
  obtain ⟨rfl,rfl,rfl⟩:=H
  go_enter Try.func20,Try.ntmps20
  go_wp2_with (first|((with_reducible refine gate_dst (N:=1) rfl ?_);refine zE (N:=1) (cs:=#[.slice A0_0 l0_0.length c0_0]) (t:=37) ?_;intro gb20001 hg w58 hbox hb;have BK20001:=zk (hbox);have GW20001:=zk (zs (w:=w) hg za3);have GE20001:=zk (zs (w:=w) hg za3);replace HB:=zk (below_step za3 hb);clear hb hbox hg)|((with_reducible refine gate_dst (N:=2) rfl ?_);refine zE (N:=2) (cs:=#[.string (⟨#[]⟩:ByteArray),.string (⟨#[]⟩:ByteArray)]) (t:=25) ?_;intro gb20002 hg w59 hbox hb;have BK20002:=zk (hbox);have GW20002:=zk (zs (w:=w) hg za3);have GE20002:=zk (zs (w:=w) hg za3);have NB20001_20002:=zk ((by rw [hg];exact Nat.ne_of_lt (zl BK20001.out):gb20001 ≠ gb20002));have NB20002_20001:=zk ((by rw [hg];exact Nat.ne_of_gt (zl BK20001.out):gb20002 ≠ gb20001));replace BK20001:=zk (zb BK20001.out hb);replace HB:=zk (below_step za3 hb);clear hb hbox hg;have hnb60:=NB20001_20002.out;have hnc60:=NB20002_20001.out;obtain ⟨hcz61_0,hfz61_0⟩:=blk1 BK20001.out)|((with_reducible refine gate_callee (f:=37) rfl ?_);refine goesL_ (some 10) rfl rfl Try.func37 (by kernel_rfl) rfl #[.agg #[.slice A0_0 l0_0.length c0_0]] rfl za4 ?_;(with_reducible refine (impl_IsValidProblem.calls k _ _ l0_0 _ _ ?side1 ?side2 A2.out).mono ?_);(case side1=>repeat (first|exact (Kd.C_below HR0_0.out HB.out)|(with_reducible refine Kd.C_alloc ?_ _)|(with_reducible refine Kd.C_drewN ?_ _)|(with_reducible refine Kd.C_drew ?_)));(case side2=>exact HC0_0.out);rintro e w62 ⟨rfl,hb⟩;refine ⟨_,rfl,?_⟩;replace BK20001:=zk (zb BK20001.out hb);replace BK20002:=zk (zb BK20002.out hb);replace HB:=zk (below_step za3 hb);(try clear hb);(try clear hb2);(try clear hk);(try clear hi);obtain ⟨hcz63_0,hcz63_1,hfz63_0,hfz63_1⟩:=blk2 BK20002.out))
  refine bodyPost_ret (results_ct rfl _ _ gb20002 25 #[.string (⟨#[]⟩:ByteArray),.string (⟨#[]⟩:ByteArray)] (0,0) _ rfl (zpu BK20002.out) Try.underlying25 rfl (by kernel_rfl)) rfl ?_
  exact ⟨za9,za3⟩
theorem eqA25 (d:Nat) (w:World) (x0 y0:ByteArray) (x1 y1:ByteArray) :
  (Op.equalIn (d+2) 25 (.agg #[.string x0,.string x1]) (.agg #[.string y0,.string y1])).run Try.prog w = .ok (x0.toList == y0.toList && (x1.toList == y1.toList)) w:=by
 refine eqA_of Try.underlying25 (by kernel_rfl) ?_
 refine eqf_cons (by rfl) (by go_simp;rfl) (by go_simp;rfl) (by go_simp) ?_
 exact eqf_last (by rfl) (by go_simp;rfl) (by go_simp;rfl) (by go_simp)
theorem eqA33 (d:Nat) (w:World) (x0 y0:Int) (x1 y1:ByteArray) :
  (Op.equalIn (d+2) 33 (.agg #[.int .u8 x0,.string x1]) (.agg #[.int .u8 y0,.string y1])).run Try.prog w = .ok (x0 == y0 && (x1.toList == y1.toList)) w:=by
 refine eqA_of Try.underlying33 (by kernel_rfl) ?_
 refine eqf_cons (by rfl) (by go_simp;rfl) (by go_simp;rfl) (by go_simp) ?_
 exact eqf_last (by rfl) (by go_simp;rfl) (by go_simp;rfl) (by go_simp)
end Go.Proofs.Ytgajchjnljekgaa.A
