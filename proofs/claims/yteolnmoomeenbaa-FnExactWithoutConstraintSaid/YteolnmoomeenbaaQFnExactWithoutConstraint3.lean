/- FnExactWithoutConstraint: what its proof needs, put together by this session's program wip/merge.py out of the texts that wip/xp.py printed and of this session's own. -/
import Derived.Test.YteolnmoomeenbaaQFnExactWithoutConstraint2
set_option linter.unusedVariables false
set_option linter.unusedSimpArgs false
set_option linter.unusedSectionVars false
set_option maxHeartbeats 8000000
set_option maxRecDepth 100000
namespace Go.Proofs.Yteolnmoomeenbaa.A
open Go.RowKit Yteolnmoomeenbaa.Ext YteolnmoomeenbaaW.PrintWords YteolnmoomeenbaaW.PrintLast YteolnmoomeenbaaW.PrintMore
attribute [local go_sem] max2_int min2_int max_two min_two max_three min_three max_four min_four
mutual
def spec_l3Left.l0:Nat→Int→Int→Int→ByteArray→List (S43)→Option (Int)
 | 0,_,_,_,_,_=>none
 | k+1,x1,x5,x59002000,x59002001,x59002002=>if x5 < (x59002002.length:Int) then (if x1 ≥ 0 then (if 0≤x5 then ((spec_l3Left.f k ((rd_T43 x59002002 x5).f0) ((rd_T43 x59002002 x5).f1) ((rd_T43 x59002002 x5).f2) x1).bind fun t59003=>(spec_l3Left.l0 k t59003 (wrap64 (x5+1)) x59002000 x59002001 x59002002)) else (none)) else (some x1)) else (some x1)
def spec_l3Left.f:Nat→Int→ByteArray→List (S43)→Int→Option (Int)
 | 0,_,_,_,_=>none
 | k+1,a0_0,a0_1,l0_2,a1=>spec_l3Left.l0 k (wrap64 (a1 - 1)) 0 a0_0 a0_1 l0_2
end
theorem spec_l3Left.calls (k:Nat):∀ (a0_0:Int) (a0_1:ByteArray) (A0_2:Option Addr) (c0_2:Nat) (l0_2:List (S43)) (a1:Int) (r:Int) (w:World) (hr0_2:Kd.C k43 w A0_2 l0_2.length l0_2) (hc0_2:l0_2.length≤c0_2) (h:spec_l3Left.f k a0_0 a0_1 l0_2 a1=some r),
   Calls Try.prog 59 #[.agg #[.int .i64 a0_0,.string a0_1,.slice A0_2 l0_2.length c0_2],.int .i64 a1] w fun e w'=>e = .returned (.int .i64 r)∧Below w.heap.size w w':=by
 induction k using Nat.strongRecOn with
 | _ k ih =>
 intro a0_0 a0_1 A0_2 c0_2 l0_2 a1 r w hr0_2 hc0_2 h
 cases k with
 | zero=>exact absurd h (by simp [spec_l3Left.f])
 | succ k =>
 simp only [spec_l3Left.f] at h
 have hu43:=Try.underlying43
 have HR0_2:=zk hr0_2
 have HC0_2:=zk hc0_2
 clear hr0_2 hc0_2
 have HB:=zk (Below.refl w.heap.size w)
 have H:=h
 clear h
 have H':=zk H
 clear H
 go_enter Try.func59,Try.ntmps59
 go_wp2_with (first|((with_reducible refine gate_dst (N:=2) rfl ?_);refine zE (cs:=#[.int .i64 a0_0,.string a0_1,.slice A0_2 l0_2.length c0_2]) (t:=43) ?_;intro gb1 hg w3 hbox hb;have BK1:=zk hbox;have GW1:=zk (zs (w:=w) hg za5);have GE1:=GW1;replace HB:=yB HB hb;clear hb hbox hg))
 try simp only [Act.put,zt,zv,zu]
 go_loopg [1,5] k (fun kq v1 v5 w'=>∃ (x1_1:Int) (x5_1:Int),v1 = .int .i64 x1_1∧v5 = .int .i64 x5_1∧Aside0 (spec_l3Left.l0 kq x1_1 x5_1 a0_0 a0_1 l0_2=some r)∧Aside0 (kq≤k)∧Aside0 (w'.heap[gb1]? = some (.cells #[.int .i64 a0_0,.string a0_1,(.slice A0_2 l0_2.length c0_2)] 43 (0,0)))∧Aside0 (Below w.heap.size w w'))
 case atStart=>exact ⟨(wrap64 (a1 - 1)),(0),za9,za9,H',⟨Nat.le_refl _⟩,⟨za0 BK1.out⟩,⟨za5⟩⟩
 case round =>
  clear H'
  obtain ⟨x1_1,x5_1,rfl,rfl,HA,HK1,BK1,HB⟩:=hrel
  cases gk with
  | zero=>exact absurd HA.out (by simp [spec_l3Left.l0])
  | succ k1 =>
   have H:=HA.out
   clear HA
   simp only [spec_l3Left.l0] at H
   by_cases c4:x5_1 < (l0_2.length:Int)
   rw [if_pos c4] at H
   have c4b0:=zdl c4
   clear c4
   by_cases c5:x1_1 ≥ 0
   rw [if_pos c5] at H
   have c5b0:=zdle c5
   clear c5
   by_cases c6:0≤x5_1
   · rw [if_pos c6] at H
     have c6b0:=zdle c6
     clear c6
     obtain ⟨t3,A7,H⟩:=zO H
     try dsimp only at H
     have H':=zk H
     clear H
     obtain ⟨hcz8_0,hcz8_1,hcz8_2,hfz8_0,hfz8_1,hfz8_2⟩:=blk3 BK1.out
     have p59002:0≤(x5_1:Int):=of_decide_eq_true za7
     have q59002:x5_1 < (l0_2.length:Int):=of_decide_eq_true za7
     obtain ⟨ad59002,A59002_2,c59002_2,e59002,hx59002_0,hx59002_1,hx59002_2,hl59002_2,hi59002_2⟩:=at_T43 HR0_2.out x5_1 p59002 q59002
     cases e59002
     replace hx59002_0:=zx HB.out hx59002_0
     replace hx59002_1:=zx HB.out hx59002_1
     replace hx59002_2:=zx HB.out hx59002_2
     have HR59002_2:=zk hi59002_2
     have HC59002_2:=zk hl59002_2
     clear hi59002_2 hl59002_2
     replace p59002:=eq_true p59002
     replace q59002:=eq_true q59002
     go_wp2_with (first|((with_reducible refine gate_callee (f:=59) rfl ?_);refine zg (some 25) Try.func59 #[.agg #[.int .i64 ((rd_T43 l0_2 x5_1).f0),.string ((rd_T43 l0_2 x5_1).f1),.slice A59002_2 ((rd_T43 l0_2 x5_1).f2).length c59002_2],.int .i64 x1_1] rfl za6 ?_;(with_reducible refine (ih k1 za11 ((rd_T43 l0_2 x5_1).f0) ((rd_T43 l0_2 x5_1).f1) _ _ ((rd_T43 l0_2 x5_1).f2) x1_1 t3 _ ?side1 ?side2 A7.out).mono ?_);(case side1=>repeat (first|exact (Kd.C_below HR59002_2.out HB.out)|(with_reducible refine Kd.C_alloc ?_ _)|(with_reducible refine Kd.C_drewN ?_ _)|(with_reducible refine Kd.C_drew ?_)));(case side2=>exact HC59002_2.out);rintro e w9 ⟨rfl,hb⟩;refine ⟨_,rfl,?_⟩;replace BK1:=yb BK1 hb;replace HB:=yB HB hb;(try clear hb)))
     go_roundg k1
     case measure=>have:=HK1.out;omega
     case rel=>exact ⟨(t3),(wrap64 (x5_1+1)),za9,za9,H',⟨za11⟩,⟨za0 BK1.out⟩,⟨za5⟩⟩
   · rw [if_neg c6] at H
     exact absurd H (by simp)
   rw [if_neg c5] at H
   have c5b0:=zdnle c5
   clear c5
   rotate_left
   rw [if_neg c4] at H
   have c4b0:=zdnl c4
   clear c4
   rotate_left
   all_goals
    obtain rfl:=zi H
    obtain ⟨hcz10_0,hcz10_1,hcz10_2,hfz10_0,hfz10_1,hfz10_2⟩:=blk3 BK1.out
    go_wp2
    go_ret
    exact ⟨za8,za5⟩
mutual
def spec_l3Depth.l0:Nat→Int→Int→Int→ByteArray→List (S43)→Option (Int)
 | 0,_,_,_,_,_=>none
 | k+1,x3,x4,x60002000,x60002001,x60002002=>if x4 < (x60002002.length:Int) then (if 0≤x4 then ((spec_l3Depth.f k ((rd_T43 x60002002 x4).f0) ((rd_T43 x60002002 x4).f1) ((rd_T43 x60002002 x4).f2)).bind fun t60003=>((spec_l1Max.f x3 t60003).bind fun t60004=>(spec_l3Depth.l0 k t60004 (wrap64 (x4+1)) x60002000 x60002001 x60002002))) else (none)) else (some (wrap64 (x3+1)))
def spec_l3Depth.f:Nat→Int→ByteArray→List (S43)→Option (Int)
 | 0,_,_,_=>none
 | k+1,a0_0,a0_1,l0_2=>spec_l3Depth.l0 k 0 0 a0_0 a0_1 l0_2
end
theorem spec_l3Depth.calls (k:Nat):∀ (a0_0:Int) (a0_1:ByteArray) (A0_2:Option Addr) (c0_2:Nat) (l0_2:List (S43)) (r:Int) (w:World) (hr0_2:Kd.C k43 w A0_2 l0_2.length l0_2) (hc0_2:l0_2.length≤c0_2) (h:spec_l3Depth.f k a0_0 a0_1 l0_2=some r),
   Calls Try.prog 60 #[.agg #[.int .i64 a0_0,.string a0_1,.slice A0_2 l0_2.length c0_2]] w fun e w'=>e = .returned (.int .i64 r)∧Below w.heap.size w w':=by
 induction k using Nat.strongRecOn with
 | _ k ih =>
 intro a0_0 a0_1 A0_2 c0_2 l0_2 r w hr0_2 hc0_2 h
 cases k with
 | zero=>exact absurd h (by simp [spec_l3Depth.f])
 | succ k =>
 simp only [spec_l3Depth.f] at h
 have hu43:=Try.underlying43
 have HR0_2:=zk hr0_2
 have HC0_2:=zk hc0_2
 clear hr0_2 hc0_2
 have HB:=zk (Below.refl w.heap.size w)
 have H:=h
 clear h
 have H':=zk H
 clear H
 go_enter Try.func60,Try.ntmps60
 go_wp2_with (first|((with_reducible refine gate_dst (N:=1) rfl ?_);refine zE (cs:=#[.int .i64 a0_0,.string a0_1,.slice A0_2 l0_2.length c0_2]) (t:=43) ?_;intro gb1 hg w2 hbox hb;have BK1:=zk hbox;have GW1:=zk (zs (w:=w) hg za5);have GE1:=GW1;replace HB:=yB HB hb;clear hb hbox hg))
 try simp only [Act.put,zt,zv,zu]
 go_loopg [3,4] k (fun kq v3 v4 w'=>∃ (x3_1:Int) (x4_1:Int),v3 = .int .i64 x3_1∧v4 = .int .i64 x4_1∧Aside0 (spec_l3Depth.l0 kq x3_1 x4_1 a0_0 a0_1 l0_2=some r)∧Aside0 (kq≤k)∧Aside0 (w'.heap[gb1]? = some (.cells #[.int .i64 a0_0,.string a0_1,(.slice A0_2 l0_2.length c0_2)] 43 (0,0)))∧Aside0 (Below w.heap.size w w'))
 case atStart=>exact ⟨(0),(0),za9,za9,H',⟨Nat.le_refl _⟩,⟨za0 BK1.out⟩,⟨za5⟩⟩
 case round =>
  clear H'
  obtain ⟨x3_1,x4_1,rfl,rfl,HA,HK1,BK1,HB⟩:=hrel
  cases gk with
  | zero=>exact absurd HA.out (by simp [spec_l3Depth.l0])
  | succ k1 =>
   have H:=HA.out
   clear HA
   simp only [spec_l3Depth.l0] at H
   by_cases c3:x4_1 < (l0_2.length:Int)
   rw [if_pos c3] at H
   have c3b0:=zdl c3
   clear c3
   by_cases c4:0≤x4_1
   ·rw [if_pos c4] at H
    have c4b0:=zdle c4
    clear c4
    obtain ⟨t3,A5,H⟩:=zO H
    try dsimp only at H
    obtain ⟨t4,A6,H⟩:=zO H
    try dsimp only at H
    have H':=zk H
    clear H
    obtain ⟨hcz7_0,hcz7_1,hcz7_2,hfz7_0,hfz7_1,hfz7_2⟩:=blk3 BK1.out
    have p60002:0≤(x4_1:Int):=of_decide_eq_true za7
    have q60002:x4_1 < (l0_2.length:Int):=of_decide_eq_true za7
    obtain ⟨ad60002,A60002_2,c60002_2,e60002,hx60002_0,hx60002_1,hx60002_2,hl60002_2,hi60002_2⟩:=at_T43 HR0_2.out x4_1 p60002 q60002
    cases e60002
    replace hx60002_0:=zx HB.out hx60002_0
    replace hx60002_1:=zx HB.out hx60002_1
    replace hx60002_2:=zx HB.out hx60002_2
    have HR60002_2:=zk hi60002_2
    have HC60002_2:=zk hl60002_2
    clear hi60002_2 hl60002_2
    replace p60002:=eq_true p60002
    replace q60002:=eq_true q60002
    go_wp2_with (first|((with_reducible refine gate_callee (f:=60) rfl ?_);refine zg (some 18) Try.func60 #[.agg #[.int .i64 ((rd_T43 l0_2 x4_1).f0),.string ((rd_T43 l0_2 x4_1).f1),.slice A60002_2 ((rd_T43 l0_2 x4_1).f2).length c60002_2]] rfl za6 ?_;(with_reducible refine (ih k1 za11 ((rd_T43 l0_2 x4_1).f0) ((rd_T43 l0_2 x4_1).f1) _ _ ((rd_T43 l0_2 x4_1).f2) t3 _ ?side1 ?side2 A5.out).mono ?_);(case side1=>repeat (first|exact (Kd.C_below HR60002_2.out HB.out)|(with_reducible refine Kd.C_alloc ?_ _)|(with_reducible refine Kd.C_drewN ?_ _)|(with_reducible refine Kd.C_drew ?_)));(case side2=>exact HC60002_2.out);rintro e w8 ⟨rfl,hb⟩;refine ⟨_,rfl,?_⟩;replace BK1:=yb BK1 hb;replace HB:=yB HB hb;(try clear hb))|((with_reducible refine gate_callee (f:=68) rfl ?_);refine zg (some 19) Try.func68 #[.int .i64 x3_1,.int .i64 t3] rfl za6 ?_;(with_reducible refine (spec_l1Max.calls x3_1 t3 t4 _ A6.out).mono ?_);rintro e w' ⟨rfl,⟨nd,rfl⟩⟩;refine ⟨_,rfl,?_⟩))
    go_roundg k1
    case measure=>have:=HK1.out;omega
    case rel=>exact ⟨(t4),(wrap64 (x4_1+1)),za9,za9,H',⟨za11⟩,⟨za0 BK1.out⟩,⟨za5⟩⟩
   ·rw [if_neg c4] at H
    exact absurd H (by simp)
   ·rw [if_neg c3] at H
    have c3b0:=zdnl c3
    clear c3
    obtain rfl:=zi H
    obtain ⟨hcz9_0,hcz9_1,hcz9_2,hfz9_0,hfz9_1,hfz9_2⟩:=blk3 BK1.out
    go_wp2
    go_ret
    exact ⟨za8,za5⟩
def spec_l3Args.j0:Nat→Int→Bool→Option (Int)
 | 0,_,_=>none
 | k+1,x3,x4=>if x4=true then (some 2) else (if x3=8 then (some 1) else (if x3=9 then (some 1) else (some 0)))
def spec_l3Args.f (k:Nat) (a0:Int):Option (Int):=if a0=5 then (spec_l3Args.j0 k a0 (a0 == 5)) else (if a0=6 then (spec_l3Args.j0 k a0 (a0 == 6)) else (spec_l3Args.j0 k a0 (a0 == 7)))
theorem spec_l3Args.calls (k:Nat) (a0:Int) (r:Int) (w:World) (h:spec_l3Args.f k a0=some r) :
   Calls Try.prog 70 #[.int .i64 a0] w fun e w'=>e = .returned (.int .i64 r)∧Drawn0 w w':=by
 have H:=h
 unfold spec_l3Args.f at H
 clear h
 have HC2:=zk H
 clear H
 go_enter Try.func70,Try.ntmps70
 go_upto_if 4 with (fail)
 go_cut [4] (fun v4 wc=>∃ (kq:Nat) (x4_1:Bool),v4 = .bool x4_1∧Aside0 (spec_l3Args.j0 kq a0 x4_1=some r)∧Aside0 (kq≤k)∧Drawn0 w wc)
 case first =>
  have H:=HC2.out
  clear HC2
  by_cases c3:a0=5
  · rw [if_pos c3] at H
    have c3b0:=zbt c3
    have c3b1:=zqn c3
    clear c3
    (first|rw [c3b0]|(simp only [i64_w,i32_w];rw [c3b0])|skip)
    have H':=zk H
    clear H
    go_wp2
    go_meet
    case rel=>exact ⟨_,((a0 == 5)),za9,H',⟨za13⟩,za10⟩
  rw [if_neg c3] at H
  have c3b0:=zbn c3
  have c3b1:=zqt c3
  (first|rw [c3b0]|(simp only [i64_w,i32_w];rw [c3b0])|skip)
  by_cases c4:a0=6
  · rw [if_pos c4] at H
    have c4b0:=zbt c4
    have c4b1:=zqn c4
    clear c4
    have H':=zk H
    clear H
    go_wp2
    go_meet
    case rel=>exact ⟨_,((a0 == 6)),za9,H',⟨za13⟩,za10⟩
  · rw [if_neg c4] at H
    have c4b0:=zbn c4
    have c4b1:=zqt c4
    have H':=zk H
    clear H
    go_wp2
    go_meet
    case rel=>exact ⟨_,((a0 == 7)),za9,H',⟨za13⟩,za10⟩
 case rest =>
  clear HC2
  obtain ⟨kq,x4_1,rfl,HA,HJ1,⟨mc1,rfl⟩⟩:=hcut
  cases kq with
  | zero=>exact absurd HA.out (by simp [spec_l3Args.j0])
  | succ kj1 =>
   have H:=HA.out
   clear HA
   simp only [spec_l3Args.j0] at H
   by_cases c5:x4_1=true
   subst c5
   rw [if_pos rfl] at H
   try dsimp only at H
   rotate_left
   replace c5:=Bool.eq_false_iff.mpr c5
   subst c5
   rw [if_neg zff] at H
   try dsimp only at H
   by_cases c6:a0=8
   rw [if_pos c6] at H
   have c6b0:=zbt c6
   have c6b1:=zqn c6
   clear c6
   rotate_left
   rw [if_neg c6] at H
   have c6b0:=zbn c6
   have c6b1:=zqt c6
   by_cases c7:a0=9
   rw [if_pos c7] at H
   have c7b0:=zbt c7
   have c7b1:=zqn c7
   clear c7
   rotate_left
   rw [if_neg c7] at H
   have c7b0:=zbn c7
   have c7b1:=zqt c7
   rotate_left
   all_goals
    obtain rfl:=zi H
    go_wp2
    go_ret
    exact ⟨za9,za10⟩
mutual
def spec_l3All.l0:Nat→Int→Int→ByteArray→List (S43)→Option (Bool)
 | 0,_,_,_,_=>none
 | k+1,x3,x61002000,x61002001,x61002002=>if x3 < (x61002002.length:Int) then (if 0≤x3 then ((spec_l3All.f k ((rd_T43 x61002002 x3).f0) ((rd_T43 x61002002 x3).f1) ((rd_T43 x61002002 x3).f2)).bind fun t61003=>(if t61003=true then (spec_l3All.l0 k (wrap64 (x3+1)) x61002000 x61002001 x61002002) else (some false))) else (none)) else (if x61002000=3 then (if (x61002001.size:Int)=1 then ((spec_IsWord.f k x61002001).bind fun t61004=>(if t61004=true then (some ((x61002002.length:Int) == 0)) else (some false))) else (some false)) else ((spec_l1In.f x61002000 1 9).bind fun t61005=>(if t61005=true then (if x61002001.toList=([]:List UInt8) then ((spec_l3Args.f k x61002000).bind fun t61006=>(some ((x61002002.length:Int) == t61006))) else (some false)) else (some false))))
def spec_l3All.f:Nat→Int→ByteArray→List (S43)→Option (Bool)
 | 0,_,_,_=>none
 | k+1,a0_0,a0_1,l0_2=>spec_l3All.l0 k 0 a0_0 a0_1 l0_2
end
theorem spec_l3All.calls (k:Nat):∀ (a0_0:Int) (a0_1:ByteArray) (A0_2:Option Addr) (c0_2:Nat) (l0_2:List (S43)) (r:Bool) (w:World) (hr0_2:Kd.C k43 w A0_2 l0_2.length l0_2) (hc0_2:l0_2.length≤c0_2) (h:spec_l3All.f k a0_0 a0_1 l0_2=some r),
   Calls Try.prog 61 #[.agg #[.int .i64 a0_0,.string a0_1,.slice A0_2 l0_2.length c0_2]] w fun e w'=>e = .returned (.bool r)∧Below w.heap.size w w':=by
 induction k using Nat.strongRecOn with
 | _ k ih =>
 intro a0_0 a0_1 A0_2 c0_2 l0_2 r w hr0_2 hc0_2 h
 cases k with
 | zero=>exact absurd h (by simp [spec_l3All.f])
 | succ k =>
 simp only [spec_l3All.f] at h
 have hu43:=Try.underlying43
 have HR0_2:=zk hr0_2
 have HC0_2:=zk hc0_2
 clear hr0_2 hc0_2
 have HB:=zk (Below.refl w.heap.size w)
 have H:=h
 clear h
 have H':=zk H
 clear H
 go_enter Try.func61,Try.ntmps61
 go_wp2_with (first|((with_reducible refine gate_dst (N:=1) rfl ?_);(try (refine gate_guard (by rfl) ?_;dsimp only));refine zE (cs:=#[.int .i64 a0_0,.string a0_1,.slice A0_2 l0_2.length c0_2]) (t:=43) ?_;intro gb1 hg w2 hbox hb;have BK1:=zk hbox;have GW1:=zk (zs (w:=w) hg za5);have GE1:=GW1;replace HB:=yB HB hb;clear hb hbox hg))
 repeat (go_quiet (first|((with_reducible refine gate_dst (N:=1) rfl ?_);(try (refine gate_guard (by rfl) ?_;dsimp only));refine zE (cs:=#[.int .i64 a0_0,.string a0_1,.slice A0_2 l0_2.length c0_2]) (t:=43) ?_;intro gb1 hg w2 hbox hb;have BK1:=zk hbox;have GW1:=zk (zs (w:=w) hg za5);have GE1:=GW1;replace HB:=yB HB hb;clear hb hbox hg));try go_wp2_with (first|((with_reducible refine gate_dst (N:=1) rfl ?_);(try (refine gate_guard (by rfl) ?_;dsimp only));refine zE (cs:=#[.int .i64 a0_0,.string a0_1,.slice A0_2 l0_2.length c0_2]) (t:=43) ?_;intro gb1 hg w2 hbox hb;have BK1:=zk hbox;have GW1:=zk (zs (w:=w) hg za5);have GE1:=GW1;replace HB:=yB HB hb;clear hb hbox hg)))
 try simp only [Act.put,zt,zv,zu]
 go_loopg [3] k (fun kq v3 w'=>∃ (x3_1:Int),v3 = .int .i64 x3_1∧Aside0 (spec_l3All.l0 kq x3_1 a0_0 a0_1 l0_2=some r)∧Aside0 (kq≤k)∧Aside0 (w'.heap[gb1]? = some (.cells #[.int .i64 a0_0,.string a0_1,(.slice A0_2 l0_2.length c0_2)] 43 (0,0)))∧Aside0 (Below w.heap.size w w'))
 case atStart=>exact ⟨(0),za9,H',⟨Nat.le_refl _⟩,⟨za0 BK1.out⟩,⟨za5⟩⟩
 case round =>
  clear H'
  obtain ⟨x3_1,rfl,HA,HK1,BK1,HB⟩:=hrel
  cases gk with
  | zero=>exact absurd HA.out (by simp [spec_l3All.l0])
  | succ k1 =>
   have H:=HA.out
   clear HA
   simp only [spec_l3All.l0] at H
   by_cases c3:x3_1 < (l0_2.length:Int)
   rw [if_pos c3] at H
   have c3b0:=zdl c3
   clear c3
   by_cases c4:0≤x3_1
   rw [if_pos c4] at H
   have c4b0:=zdle c4
   clear c4
   obtain ⟨t3,A5,H⟩:=zO H
   try dsimp only at H
   by_cases c6:t3=true
   · subst c6
     rw [if_pos rfl] at H
     try dsimp only at H
     have H':=zk H
     clear H
     obtain ⟨hcz7_0,hcz7_1,hcz7_2,hfz7_0,hfz7_1,hfz7_2⟩:=blk3 BK1.out
     have p61002:0≤(x3_1:Int):=of_decide_eq_true za7
     have q61002:x3_1 < (l0_2.length:Int):=of_decide_eq_true za7
     obtain ⟨ad61002,A61002_2,c61002_2,e61002,hx61002_0,hx61002_1,hx61002_2,hl61002_2,hi61002_2⟩:=at_T43 HR0_2.out x3_1 p61002 q61002
     cases e61002
     replace hx61002_0:=zx HB.out hx61002_0
     replace hx61002_1:=zx HB.out hx61002_1
     replace hx61002_2:=zx HB.out hx61002_2
     have HR61002_2:=zk hi61002_2
     have HC61002_2:=zk hl61002_2
     clear hi61002_2 hl61002_2
     replace p61002:=eq_true p61002
     replace q61002:=eq_true q61002
     go_wp2_with (first|(go_at_call 61;(with_reducible refine (ih k1 za11 ((rd_T43 l0_2 x3_1).f0) ((rd_T43 l0_2 x3_1).f1) _ _ ((rd_T43 l0_2 x3_1).f2) true _ ?side1 ?side2 A5.out).mono ?_);(case side1=>repeat (first|exact (Kd.C_below HR61002_2.out HB.out)|(with_reducible refine Kd.C_alloc ?_ _)|(with_reducible refine Kd.C_drewN ?_ _)|(with_reducible refine Kd.C_drew ?_)));(case side2=>exact HC61002_2.out);rintro e w8 ⟨rfl,hb⟩;replace BK1:=yb BK1 hb;replace HB:=yB HB hb;(try clear hb)))
     repeat (go_quiet (first|(go_at_call 61;(with_reducible refine (ih k1 za11 ((rd_T43 l0_2 x3_1).f0) ((rd_T43 l0_2 x3_1).f1) _ _ ((rd_T43 l0_2 x3_1).f2) true _ ?side1 ?side2 A5.out).mono ?_);(case side1=>repeat (first|exact (Kd.C_below HR61002_2.out HB.out)|(with_reducible refine Kd.C_alloc ?_ _)|(with_reducible refine Kd.C_drewN ?_ _)|(with_reducible refine Kd.C_drew ?_)));(case side2=>exact HC61002_2.out);rintro e w8 ⟨rfl,hb⟩;replace BK1:=yb BK1 hb;replace HB:=yB HB hb;(try clear hb)));try go_wp2_with (first|(go_at_call 61;(with_reducible refine (ih k1 za11 ((rd_T43 l0_2 x3_1).f0) ((rd_T43 l0_2 x3_1).f1) _ _ ((rd_T43 l0_2 x3_1).f2) true _ ?side1 ?side2 A5.out).mono ?_);(case side1=>repeat (first|exact (Kd.C_below HR61002_2.out HB.out)|(with_reducible refine Kd.C_alloc ?_ _)|(with_reducible refine Kd.C_drewN ?_ _)|(with_reducible refine Kd.C_drew ?_)));(case side2=>exact HC61002_2.out);rintro e w8 ⟨rfl,hb⟩;replace BK1:=yb BK1 hb;replace HB:=yB HB hb;(try clear hb))))
     go_roundg k1
     case measure=>have:=HK1.out;omega
     case rel=>exact ⟨(wrap64 (x3_1+1)),za9,H',⟨za11⟩,⟨za0 BK1.out⟩,⟨za5⟩⟩
   replace c6:=Bool.eq_false_iff.mpr c6
   subst c6
   rw [if_neg zff] at H
   try dsimp only at H
   obtain rfl:=zi H
   obtain ⟨hcz9_0,hcz9_1,hcz9_2,hfz9_0,hfz9_1,hfz9_2⟩:=blk3 BK1.out
   have p61002:0≤(x3_1:Int):=of_decide_eq_true za7
   have q61002:x3_1 < (l0_2.length:Int):=of_decide_eq_true za7
   obtain ⟨ad61002,A61002_2,c61002_2,e61002,hx61002_0,hx61002_1,hx61002_2,hl61002_2,hi61002_2⟩:=at_T43 HR0_2.out x3_1 p61002 q61002
   cases e61002
   replace hx61002_0:=zx HB.out hx61002_0
   replace hx61002_1:=zx HB.out hx61002_1
   replace hx61002_2:=zx HB.out hx61002_2
   have HR61002_2:=zk hi61002_2
   have HC61002_2:=zk hl61002_2
   clear hi61002_2 hl61002_2
   replace p61002:=eq_true p61002
   replace q61002:=eq_true q61002
   rotate_left
   · rw [if_neg c4] at H
     exact absurd H (by simp)
   rw [if_neg c3] at H
   have c3b0:=zdnl c3
   clear c3
   by_cases c11:a0_0=3
   rw [if_pos c11] at H
   have c11b0:=zbt c11
   have c11b1:=zqn c11
   clear c11
   by_cases c12:(a0_1.size:Int)=1
   rw [if_pos c12] at H
   have c12b0:=zbt c12
   have c12b1:=zqn c12
   clear c12
   obtain ⟨t4,A13,H⟩:=zO H
   try dsimp only at H
   by_cases c14:t4=true
   subst c14
   rw [if_pos rfl] at H
   try dsimp only at H
   obtain rfl:=zi H
   obtain ⟨hcz15_0,hcz15_1,hcz15_2,hfz15_0,hfz15_1,hfz15_2⟩:=blk3 BK1.out
   rotate_left
   replace c14:=Bool.eq_false_iff.mpr c14
   subst c14
   rw [if_neg zff] at H
   try dsimp only at H
   obtain rfl:=zi H
   obtain ⟨hcz16_0,hcz16_1,hcz16_2,hfz16_0,hfz16_1,hfz16_2⟩:=blk3 BK1.out
   rotate_left
   rw [if_neg c12] at H
   have c12b0:=zbn c12
   have c12b1:=zqt c12
   obtain rfl:=zi H
   obtain ⟨hcz17_0,hcz17_1,hcz17_2,hfz17_0,hfz17_1,hfz17_2⟩:=blk3 BK1.out
   rotate_left
   rw [if_neg c11] at H
   have c11b0:=zbn c11
   have c11b1:=zqt c11
   obtain ⟨t5,A18,H⟩:=zO H
   try dsimp only at H
   by_cases c19:t5=true
   subst c19
   rw [if_pos rfl] at H
   try dsimp only at H
   by_cases c20:a0_1.toList=([]:List UInt8)
   rw [if_pos c20] at H
   have c20b0:=zbt c20
   have c20b1:=zqn c20
   clear c20
   obtain ⟨t6,A21,H⟩:=zO H
   try dsimp only at H
   obtain rfl:=zi H
   obtain ⟨hcz22_0,hcz22_1,hcz22_2,hfz22_0,hfz22_1,hfz22_2⟩:=blk3 BK1.out
   rotate_left
   rw [if_neg c20] at H
   have c20b0:=zbn c20
   have c20b1:=zqt c20
   obtain rfl:=zi H
   obtain ⟨hcz23_0,hcz23_1,hcz23_2,hfz23_0,hfz23_1,hfz23_2⟩:=blk3 BK1.out
   rotate_left
   replace c19:=Bool.eq_false_iff.mpr c19
   subst c19
   rw [if_neg zff] at H
   try dsimp only at H
   obtain rfl:=zi H
   obtain ⟨hcz24_0,hcz24_1,hcz24_2,hfz24_0,hfz24_1,hfz24_2⟩:=blk3 BK1.out
   rotate_left
   all_goals
    go_wp2_with (first|(go_at_call 61;(with_reducible refine (ih k1 za11 ((rd_T43 l0_2 x3_1).f0) ((rd_T43 l0_2 x3_1).f1) _ _ ((rd_T43 l0_2 x3_1).f2) false _ ?side1 ?side2 A5.out).mono ?_);(case side1=>repeat (first|exact (Kd.C_below HR61002_2.out HB.out)|(with_reducible refine Kd.C_alloc ?_ _)|(with_reducible refine Kd.C_drewN ?_ _)|(with_reducible refine Kd.C_drew ?_)));(case side2=>exact HC61002_2.out);rintro e w10 ⟨rfl,hb⟩;replace BK1:=yb BK1 hb;replace HB:=yB HB hb;(try clear hb))|(go_at_call 13;(with_reducible refine (spec_l1In.calls a0_0 1 9 _ _ A18.out).mono ?_);rintro e w' ⟨rfl,⟨nd,rfl⟩⟩;(try first|exact ⟨rfl,_,World.drewN_drewN _ _ _⟩|exact ⟨rfl,_,Eq.trans (World.drewN_drewN _ _ _) (congrArg (World.drewN _) (Nat.add_assoc _ _ _))⟩))|(go_at_call 70;(with_reducible refine (spec_l3Args.calls k1 a0_0 t6 _ A21.out).mono ?_);rintro e w' ⟨rfl,⟨nd,rfl⟩⟩;(try first|exact ⟨rfl,_,World.drewN_drewN _ _ _⟩|exact ⟨rfl,_,Eq.trans (World.drewN_drewN _ _ _) (congrArg (World.drewN _) (Nat.add_assoc _ _ _))⟩))|(go_at_call 69;(with_reducible refine (spec_IsWord.calls k1 a0_1 _ _ A13.out).mono ?_);rintro e w' ⟨rfl,⟨nd,rfl⟩⟩;(try first|exact ⟨rfl,_,World.drewN_drewN _ _ _⟩|exact ⟨rfl,_,Eq.trans (World.drewN_drewN _ _ _) (congrArg (World.drewN _) (Nat.add_assoc _ _ _))⟩)))
    repeat (go_quiet (first|(go_at_call 61;(with_reducible refine (ih k1 za11 ((rd_T43 l0_2 x3_1).f0) ((rd_T43 l0_2 x3_1).f1) _ _ ((rd_T43 l0_2 x3_1).f2) false _ ?side1 ?side2 A5.out).mono ?_);(case side1=>repeat (first|exact (Kd.C_below HR61002_2.out HB.out)|(with_reducible refine Kd.C_alloc ?_ _)|(with_reducible refine Kd.C_drewN ?_ _)|(with_reducible refine Kd.C_drew ?_)));(case side2=>exact HC61002_2.out);rintro e w10 ⟨rfl,hb⟩;replace BK1:=yb BK1 hb;replace HB:=yB HB hb;(try clear hb))|(go_at_call 13;(with_reducible refine (spec_l1In.calls a0_0 1 9 _ _ A18.out).mono ?_);rintro e w' ⟨rfl,⟨nd,rfl⟩⟩;(try first|exact ⟨rfl,_,World.drewN_drewN _ _ _⟩|exact ⟨rfl,_,Eq.trans (World.drewN_drewN _ _ _) (congrArg (World.drewN _) (Nat.add_assoc _ _ _))⟩))|(go_at_call 70;(with_reducible refine (spec_l3Args.calls k1 a0_0 t6 _ A21.out).mono ?_);rintro e w' ⟨rfl,⟨nd,rfl⟩⟩;(try first|exact ⟨rfl,_,World.drewN_drewN _ _ _⟩|exact ⟨rfl,_,Eq.trans (World.drewN_drewN _ _ _) (congrArg (World.drewN _) (Nat.add_assoc _ _ _))⟩))|(go_at_call 69;(with_reducible refine (spec_IsWord.calls k1 a0_1 _ _ A13.out).mono ?_);rintro e w' ⟨rfl,⟨nd,rfl⟩⟩;(try first|exact ⟨rfl,_,World.drewN_drewN _ _ _⟩|exact ⟨rfl,_,Eq.trans (World.drewN_drewN _ _ _) (congrArg (World.drewN _) (Nat.add_assoc _ _ _))⟩)));try go_wp2_with (first|(go_at_call 61;(with_reducible refine (ih k1 za11 ((rd_T43 l0_2 x3_1).f0) ((rd_T43 l0_2 x3_1).f1) _ _ ((rd_T43 l0_2 x3_1).f2) false _ ?side1 ?side2 A5.out).mono ?_);(case side1=>repeat (first|exact (Kd.C_below HR61002_2.out HB.out)|(with_reducible refine Kd.C_alloc ?_ _)|(with_reducible refine Kd.C_drewN ?_ _)|(with_reducible refine Kd.C_drew ?_)));(case side2=>exact HC61002_2.out);rintro e w10 ⟨rfl,hb⟩;replace BK1:=yb BK1 hb;replace HB:=yB HB hb;(try clear hb))|(go_at_call 13;(with_reducible refine (spec_l1In.calls a0_0 1 9 _ _ A18.out).mono ?_);rintro e w' ⟨rfl,⟨nd,rfl⟩⟩;(try first|exact ⟨rfl,_,World.drewN_drewN _ _ _⟩|exact ⟨rfl,_,Eq.trans (World.drewN_drewN _ _ _) (congrArg (World.drewN _) (Nat.add_assoc _ _ _))⟩))|(go_at_call 70;(with_reducible refine (spec_l3Args.calls k1 a0_0 t6 _ A21.out).mono ?_);rintro e w' ⟨rfl,⟨nd,rfl⟩⟩;(try first|exact ⟨rfl,_,World.drewN_drewN _ _ _⟩|exact ⟨rfl,_,Eq.trans (World.drewN_drewN _ _ _) (congrArg (World.drewN _) (Nat.add_assoc _ _ _))⟩))|(go_at_call 69;(with_reducible refine (spec_IsWord.calls k1 a0_1 _ _ A13.out).mono ?_);rintro e w' ⟨rfl,⟨nd,rfl⟩⟩;(try first|exact ⟨rfl,_,World.drewN_drewN _ _ _⟩|exact ⟨rfl,_,Eq.trans (World.drewN_drewN _ _ _) (congrArg (World.drewN _) (Nat.add_assoc _ _ _))⟩))))
    go_ret
    exact ⟨za8,za5⟩
def spec_IsValidRegex.f (k:Nat) (a0_0:Int) (a0_1:ByteArray) (l0_2:List (S43)):Option (Bool):=(spec_l3Left.f k a0_0 a0_1 l0_2 16).bind fun t41002=>(if t41002 ≥ 0 then ((spec_l3Depth.f k a0_0 a0_1 l0_2).bind fun t41003=>(if t41003≤6 then ((spec_l3All.f k a0_0 a0_1 l0_2).bind fun t41004=>(some t41004)) else (some false))) else (some false))
theorem spec_IsValidRegex.calls (k:Nat) (a0_0:Int) (a0_1:ByteArray) (A0_2:Option Addr) (c0_2:Nat) (l0_2:List (S43)) (r:Bool) (w:World) (hr0_2:Kd.C k43 w A0_2 l0_2.length l0_2) (hc0_2:l0_2.length≤c0_2) (h:spec_IsValidRegex.f k a0_0 a0_1 l0_2=some r) :
   Calls Try.prog 41 #[.agg #[.int .i64 a0_0,.string a0_1,.slice A0_2 l0_2.length c0_2]] w fun e w'=>e = .returned (.bool r)∧Below w.heap.size w w':=by
 have hu43:=Try.underlying43
 have HR0_2:=zk hr0_2
 have HC0_2:=zk hc0_2
 clear hr0_2 hc0_2
 have HB:=zk (Below.refl w.heap.size w)
 have H:=h
 unfold spec_IsValidRegex.f at H
 clear h
 obtain ⟨t2,A2,H⟩:=zO H
 try dsimp only at H
 by_cases c3:t2 ≥ 0
 rw [if_pos c3] at H
 have c3b0:=zdle c3
 clear c3
 obtain ⟨t3,A4,H⟩:=zO H
 try dsimp only at H
 by_cases c5:t3≤6
 rw [if_pos c5] at H
 have c5b0:=zdle c5
 clear c5
 obtain ⟨t4,A6,H⟩:=zO H
 try dsimp only at H
 rotate_left
 rw [if_neg c5] at H
 have c5b0:=zdnle c5
 clear c5
 rotate_left
 rw [if_neg c3] at H
 have c3b0:=zdnle c3
 clear c3
 rotate_left
 all_goals
  obtain rfl:=zi H
  go_enter Try.func41,Try.ntmps41
  go_wp2_with (first|((with_reducible refine gate_dst (N:=1) rfl ?_);refine zE (cs:=#[.int .i64 a0_0,.string a0_1,.slice A0_2 l0_2.length c0_2]) (t:=43) ?_;intro gb1 hg w14 hbox hb;have BK1:=zk hbox;have GW1:=zk (zs (w:=w) hg za5);have GE1:=GW1;replace HB:=yB HB hb;clear hb hbox hg;obtain ⟨hcz15_0,hcz15_1,hcz15_2,hfz15_0,hfz15_1,hfz15_2⟩:=blk3 BK1.out)|((with_reducible refine gate_callee (f:=59) rfl ?_);refine zg (some 4) Try.func59 #[.agg #[.int .i64 a0_0,.string a0_1,.slice A0_2 l0_2.length c0_2],.int .i64 16] rfl za6 ?_;(with_reducible refine (spec_l3Left.calls k a0_0 a0_1 _ _ l0_2 16 t2 _ ?side1 ?side2 A2.out).mono ?_);(case side1=>repeat (first|exact (Kd.C_below HR0_2.out HB.out)|(with_reducible refine Kd.C_alloc ?_ _)|(with_reducible refine Kd.C_drewN ?_ _)|(with_reducible refine Kd.C_drew ?_)));(case side2=>exact HC0_2.out);rintro e w16 ⟨rfl,hb⟩;refine ⟨_,rfl,?_⟩;replace BK1:=yb BK1 hb;replace HB:=yB HB hb;(try clear hb);obtain ⟨hcz17_0,hcz17_1,hcz17_2,hfz17_0,hfz17_1,hfz17_2⟩:=blk3 BK1.out)|(go_at_call 60;(with_reducible refine (spec_l3Depth.calls k a0_0 a0_1 _ _ l0_2 t3 _ ?side1 ?side2 A4.out).mono ?_);(case side1=>repeat (first|exact (Kd.C_below HR0_2.out HB.out)|(with_reducible refine Kd.C_alloc ?_ _)|(with_reducible refine Kd.C_drewN ?_ _)|(with_reducible refine Kd.C_drew ?_)));(case side2=>exact HC0_2.out);rintro e w11 ⟨rfl,hb⟩;replace BK1:=yb BK1 hb;replace HB:=yB HB hb;(try clear hb);obtain ⟨hcz12_0,hcz12_1,hcz12_2,hfz12_0,hfz12_1,hfz12_2⟩:=blk3 BK1.out)|(go_at_call 61;(with_reducible refine (spec_l3All.calls k a0_0 a0_1 _ _ l0_2 t4 _ ?side1 ?side2 A6.out).mono ?_);(case side1=>repeat (first|exact (Kd.C_below HR0_2.out HB.out)|(with_reducible refine Kd.C_alloc ?_ _)|(with_reducible refine Kd.C_drewN ?_ _)|(with_reducible refine Kd.C_drew ?_)));(case side2=>exact HC0_2.out);rintro e w13 ⟨rfl,hb⟩;replace BK1:=yb BK1 hb;replace HB:=yB HB hb;(try clear hb)))
  go_ret
  exact ⟨za8,za5⟩
mutual
def spec_l3Copy.l0:Nat→Int→Int→ByteArray→List (S43)→Int→ByteArray→List (S43)→Option (Int × ByteArray × (List (S43)))
 | 0,_,_,_,_,_,_,_=>none
 | k+1,x4,x43002000,x43002001,x43002002,x43004000,x43004001,x43004002=>if x4 < (x43002002.length:Int) then (if 0≤x4 then ((spec_l3Copy.f k ((rd_T43 x43002002 x4).f0) ((rd_T43 x43002002 x4).f1) ((rd_T43 x43002002 x4).f2)).bind fun bt43005=>(if x43004002.length < 2932031007402 then (spec_l3Copy.l0 k (wrap64 (x4+1)) x43002000 x43002001 x43002002 x43004000 x43004001 (x43004002 ++ [(⟨bt43005.1,bt43005.2.1,bt43005.2.2⟩:S43)])) else (none))) else (none)) else (some (x43004000,x43004001,x43004002))
def spec_l3Copy.f:Nat→Int→ByteArray→List (S43)→Option (Int × ByteArray × (List (S43)))
 | 0,_,_,_=>none
 | k+1,a0_0,a0_1,l0_2=>spec_l3Copy.l0 k 0 a0_0 a0_1 l0_2 a0_0 a0_1 ([]:List (S43))
end
def spec_l3Copy.T5:Bool × List (List Nat × List Nat):=(true,[([],[]),([0],[0]),([],[]),([2],[2]),([],[]),([3,4],[3,4]),([5],[5]),([6],[6]),([7],[7]),([1,8,7],[1,8]),([0,1,2,3,4,5,6,7,8,9],[]),([10,9,9,0,1,2,3,4,5,6,7,8,9],[9,10])])
def spec_l3Copy.B5:List Nat:=[0,1,0,4,0,28,60,124,252,511,1023,2047]
theorem spec_l3Copy.tab5:rtab .any (opsOf Try.f43 5)=spec_l3Copy.T5:=by kernel_rfl
theorem spec_l3Copy.bits5:waitsOk spec_l3Copy.T5.2 spec_l3Copy.B5=true:=by kernel_rfl
theorem spec_l3Copy.calls (k:Nat):∀ (a0_0:Int) (a0_1:ByteArray) (A0_2:Option Addr) (c0_2:Nat) (l0_2:List (S43)) (r1:Int) (r2:ByteArray) (r3:List (S43)) (w:World) (hr0_2:Kd.C k43 w A0_2 l0_2.length l0_2) (hc0_2:l0_2.length≤c0_2) (h:spec_l3Copy.f k a0_0 a0_1 l0_2=some (r1,r2,r3)),
   Calls Try.prog 43 #[.agg #[.int .i64 a0_0,.string a0_1,.slice A0_2 l0_2.length c0_2]] w fun e w'=>∃ v2_:Value,e = .returned (.agg #[.int .i64 r1,.string r2,v2_])∧Kd.R k43 43 w' w.heap.size (fun _=>True) v2_ r3∧Below w.heap.size w w':=by
 induction k using Nat.strongRecOn with
 | _ k ih =>
 intro a0_0 a0_1 A0_2 c0_2 l0_2 r1 r2 r3 w hr0_2 hc0_2 h
 cases k with
 | zero=>exact absurd h (by simp [spec_l3Copy.f])
 | succ k =>
 simp only [spec_l3Copy.f] at h
 have hu43:=Try.underlying43
 have HR0_2:=zk hr0_2
 have HC0_2:=zk hc0_2
 clear hr0_2 hc0_2
 have HB:=zk (Below.refl w.heap.size w)
 have H:=h
 clear h
 have H':=zk H
 clear H
 go_enter Try.func43,Try.ntmps43
 go_wp2_with (first|((with_reducible refine gate_dst (N:=1) rfl ?_);refine zE (cs:=#[.int .i64 a0_0,.string a0_1,.slice A0_2 l0_2.length c0_2]) (t:=43) ?_;intro gb1 hg w2 hbox hb;have BK1:=zk hbox;have GW1:=zk (zs (w:=w) hg za5);have GE1:=GW1;replace HB:=yB HB hb;clear hb hbox hg)|((with_reducible refine gate_dst (N:=2) rfl ?_);refine zE (cs:=#[.int .i64 0,.string ⟨#[]⟩,.slice none 0 0]) (t:=43) ?_;intro gb2 hg w3 hbox hb;have BK2:=zk hbox;have GW2:=zk (zs (w:=w) hg za5);have GE2:=GW2;have NB1_2:=yn hg BK1;have NB2_1:=yp hg BK1;replace BK1:=yb BK1 hb;replace HB:=yB HB hb;clear hb hbox hg;have hnb4:=NB1_2.out;have hnc4:=NB2_1.out;obtain ⟨hcz5_0,hcz5_1,hcz5_2,hfz5_0,hfz5_1,hfz5_2⟩:=blk3 BK1.out)|((with_reducible refine gate_dst (N:=3) rfl ?_);refine zE (cs:=#[.int .i64 0,.string ⟨#[]⟩,.slice none 0 0]) (t:=43) ?_;intro gb3 hg w6 hbox hb;have BK3:=zk hbox;have GW3:=zk (zs (w:=w) hg za5);have GE3:=GW3;have NB1_3:=yn hg BK1;have NB3_1:=yp hg BK1;have NB2_3:=yn hg BK2;have NB3_2:=yp hg BK2;replace BK1:=yb BK1 hb;replace BK2:=yb BK2 hb;replace HB:=yB HB hb;clear hb hbox hg;have hnb7:=NB3_1.out;have hnc7:=NB1_3.out;have hnb8:=NB3_2.out;have hnc8:=NB2_3.out;obtain ⟨hcz9_0,hcz9_1,hcz9_2,hfz9_0,hfz9_1,hfz9_2⟩:=blk3 BK3.out))
 try simp only [Act.put,zt,zv,zu]
 go_loopg [4] k (fun kq v4 w'=>∃ (x4_1:Int) (x43004002_1:List (S43)) (u43004002:Value),v4 = .int .i64 x4_1∧Aside0 (spec_l3Copy.l0 kq x4_1 a0_0 a0_1 l0_2 a0_0 a0_1 x43004002_1=some (r1,r2,r3))∧Aside0 (kq≤k)∧Aside0 (Kd.R k43 43 w' w.heap.size (fun k_=>k_ ≠ gb1∧k_ ≠ gb2∧k_ ≠ gb3) u43004002 x43004002_1)∧Aside0 (w'.heap[gb1]? = some (.cells #[.int .i64 a0_0,.string a0_1,(.slice A0_2 l0_2.length c0_2)] 43 (0,0)))∧Aside0 (w'.heap[gb2]? = some (.cells #[.int .i64 0,.string ⟨#[]⟩,(.slice none 0 0)] 43 (0,0)))∧Aside0 (w'.heap[gb3]? = some (.cells #[.int .i64 a0_0,.string a0_1,u43004002] 43 (0,0)))∧Aside0 (Below w.heap.size w w'))
 case atStart=>exact ⟨(0),(([]:List (S43))),(.slice none 0 0),za9,H',⟨Nat.le_refl _⟩,⟨za12⟩,⟨zpw BK1.out⟩,⟨zpw BK2.out⟩,⟨zpu BK3.out⟩,⟨za5⟩⟩
 case round =>
  clear H'
  try clear hcz5_0
  try clear hcz5_1
  try clear hcz5_2
  try clear hcz9_0
  try clear hcz9_1
  try clear hcz9_2
  try clear hfz5_0
  try clear hfz5_1
  try clear hfz5_2
  try clear hfz9_0
  try clear hfz9_1
  try clear hfz9_2
  obtain ⟨x4_1,x43004002_1,u43004002,rfl,HA,HK1,HO_43004002,BK1,BK2,BK3,HB⟩:=hrel
  cases gk with
  | zero=>exact absurd HA.out (by simp [spec_l3Copy.l0])
  | succ k1 =>
   have H:=HA.out
   clear HA
   simp only [spec_l3Copy.l0] at H
   by_cases c10:x4_1 < (l0_2.length:Int)
   rw [if_pos c10] at H
   have c10b0:=zdl c10
   clear c10
   by_cases c11:0≤x4_1
   rw [if_pos c11] at H
   have c11b0:=zdle c11
   clear c11
   obtain ⟨⟨t5,t6,t7⟩,A12,H⟩:=zO H
   try dsimp only at H
   by_cases c13:x43004002_1.length < 2932031007402
   ·rw [if_pos c13] at H
    have LMc13:=zk c13
    clear c13
    obtain ⟨y43010,hy43010⟩:∃ y_:List (S43),y_=(x43004002_1 ++ [(⟨t5,t6,t7⟩:S43)]):=⟨_,rfl⟩
    replace H:(spec_l3Copy.l0 k1 (wrap64 (x4_1+1)) a0_0 a0_1 l0_2 a0_0 a0_1 y43010)=some (r1,r2,r3):=by first|(rw [hy43010];with_reducible exact H)|(have H2_:=(Option.bind_some _ _).symm.trans H;rw [hy43010];with_reducible exact H2_)|(have H2_:=(Option.bind_some _ _).symm.trans H;with_reducible exact H2_)|with_reducible exact H|(rw [hy43010];exact H)|exact H
    have Ny10:=zk hy43010
    clear hy43010
    have H':=zk H
    clear H
    have hnb14:=NB1_2.out
    have hnc14:=NB2_1.out
    have hnb15:=NB1_3.out
    have hnc15:=NB3_1.out
    obtain ⟨hcz16_0,hcz16_1,hcz16_2,hfz16_0,hfz16_1,hfz16_2⟩:=blk3 BK1.out
    try go_wp2
    replace HO_43004002:=zk (Kd.R_drew HO_43004002.out)
    replace BK1:=zk (blk_drew BK1.out)
    replace BK2:=zk (blk_drew BK2.out)
    replace BK3:=zk (blk_drew BK3.out)
    replace HB:=zk (below_drew1 HB.out)
    have p43004:0≤(x4_1:Int):=of_decide_eq_true za7
    have q43004:x4_1 < (l0_2.length:Int):=of_decide_eq_true za7
    obtain ⟨ad43004,A43004_2,c43004_2,e43004,hx43004_0,hx43004_1,hx43004_2,hl43004_2,hi43004_2⟩:=at_T43 HR0_2.out x4_1 p43004 q43004
    have hw43004_2:=hx43004_2
    have hw43004_1:=hx43004_1
    have hw43004_0:=hx43004_0
    cases e43004
    replace hx43004_0:=zx HB.out hx43004_0
    replace hx43004_1:=zx HB.out hx43004_1
    replace hx43004_2:=zx HB.out hx43004_2
    have HR43004_2:=zk hi43004_2
    have HC43004_2:=zk hl43004_2
    clear hi43004_2 hl43004_2
    replace p43004:=eq_true p43004
    replace q43004:=eq_true q43004
    refine start_ (n:=12) (S:=fun w'=>w'.cell? ⟨gb3,0,none⟩=some (.int .i64 a0_0)∧w'.cell? ⟨gb3,1,none⟩=some (.string a0_1)∧w'.cell? ⟨gb3,2,none⟩=some (u43004002)∧w'.cell? ⟨gb1,0,none⟩=some (.int .i64 a0_0)∧w'.cell? ⟨gb1,1,none⟩=some (.string a0_1)∧w'.cell? ⟨gb1,2,none⟩=some (.slice (some ad43004) l0_2.length c0_2)∧w'.cell? (ad43004.add ((x4_1).toNat * 3))=some (.int .i64 ((rd_T43 l0_2 x4_1).f0))∧w'.cell? ⟨(ad43004.add ((x4_1).toNat * 3)).block,(ad43004.add ((x4_1).toNat * 3)).off+1,none⟩=some (.string ((rd_T43 l0_2 x4_1).f1))∧w'.cell? ⟨(ad43004.add ((x4_1).toNat * 3)).block,(ad43004.add ((x4_1).toNat * 3)).off+2,none⟩=some (.slice A43004_2 ((rd_T43 l0_2 x4_1).f2).length c43004_2)) (ds:=[11]) #[false,false,false,false,false,false,false,false,false,false,false,false] (by kernel_rfl) rfl rfl ⟨(blk_cell BK3.out 0).trans rfl,(blk_cell BK3.out 1).trans rfl,(blk_cell BK3.out 2).trans rfl,(blk_cell BK1.out 0).trans rfl,(blk_cell BK1.out 1).trans rfl,(blk_cell BK1.out 2).trans rfl,((HB.out.cell (World.block_lt_of_cell? w _ hw43004_0)).trans hw43004_0),((HB.out.cell (World.block_lt_of_cell? w _ hw43004_1)).trans hw43004_1),((HB.out.cell (World.block_lt_of_cell? w _ hw43004_2)).trans hw43004_2)⟩ (fun hHeld=>?_);refine with_tabW spec_l3Copy.tab5 spec_l3Copy.bits5 (fun HT_ HW_=>?_)
    generalize wr.drew=w17 at HO_43004002 BK1 BK2 BK3 HB HR43004_2 hx43004_0 hx43004_1 hx43004_2 hHeld ⊢
    refine zy 0 (some 17) HT_.out ?_
    refine zy 2 (some 19) HT_.out ?_
    refine zy 4 (some 21) HT_.out ?_
    refine ztk 1 (some 18) HT_.out HW_.out hHeld ?_
    refine ztk 3 (some 20) HT_.out HW_.out hHeld ?_
    refine zy 5 (some 22) HT_.out ?_
    refine ztk 6 (some 23) HT_.out HW_.out hHeld ?_
    refine zon 7 (some 24) HT_.out (fun K hK=>?_)
    refine goes_ Try.func43 (by kernel_rfl) rfl #[.agg #[.int .i64 ((rd_T43 l0_2 x4_1).f0),.string ((rd_T43 l0_2 x4_1).f1),.slice A43004_2 ((rd_T43 l0_2 x4_1).f2).length c43004_2]] (by rfl) rfl rfl za6 ?_
    with_reducible refine (ih k1 za11 ((rd_T43 l0_2 x4_1).f0) ((rd_T43 l0_2 x4_1).f1) _ _ ((rd_T43 l0_2 x4_1).f2) t5 t6 t7 _ ?side1 ?side2 A12.out).mono ?_
    (case side1=>repeat (first|exact (Kd.C_below HR43004_2.out HB.out)|(with_reducible refine Kd.C_alloc ?_ _)|(with_reducible refine Kd.C_drewN ?_ _)|(with_reducible refine Kd.C_drew ?_)))
    (case side2=>exact HC43004_2.out)
    rintro e w18 ⟨v8,rfl,ho0,hb⟩
    refine ⟨_,rfl,?_⟩
    have HO9:=zk (Kd.R_lower (Kd.R_newB (Kd.R_newB (Kd.R_newB (Kd.R_new' ho0 (Kd.R_lt (za2 HO_43004002.out))) (g:=gb1) (o:=.cells #[.int .i64 a0_0,.string a0_1,.slice (some ad43004) l0_2.length c0_2] 43 (0,0)) (za0 BK1.out)) (g:=gb2) (o:=.cells #[.int .i64 0,.string ⟨#[]⟩,.slice none 0 0] 43 (0,0)) (za0 BK2.out)) (g:=gb3) (o:=.cells #[.int .i64 a0_0,.string a0_1,u43004002] 43 (0,0)) (za0 BK3.out)) (below_size za5))
    replace HO_43004002:=zk (Kd.R_elder' (za2 HO_43004002.out) (Kd.R_base ho0) hb)
    replace BK1:=yb BK1 hb
    replace BK2:=yb BK2 hb
    replace BK3:=yb BK3 hb
    replace HB:=yB HB hb
    (try clear hb)
    (try clear hb2)
    (try clear hk)
    (try clear hi)
    (try clear ho0)
    obtain ⟨Ao20,co20,eo20⟩:=Kd.R_slice HO9.out
    (first|subst eo20|(injection eo20 with f1_ f2_ f3_;have f4_:=f1_.symm;have f5_:=f3_.symm;clear f1_ f2_ f3_;subst f4_;subst f5_))
    refine hK.out _ _ ⟨(blk_cell BK3.out 0).trans rfl,(blk_cell BK3.out 1).trans rfl,(blk_cell BK3.out 2).trans rfl,(blk_cell BK1.out 0).trans rfl,(blk_cell BK1.out 1).trans rfl,(blk_cell BK1.out 2).trans rfl,((HB.out.cell (World.block_lt_of_cell? w _ hw43004_0)).trans hw43004_0),((HB.out.cell (World.block_lt_of_cell? w _ hw43004_1)).trans hw43004_1),((HB.out.cell (World.block_lt_of_cell? w _ hw43004_2)).trans hw43004_2)⟩ (fun hHeld=>?_)
    clear hK K
    refine zno (some 24) ?_
    refine zon 8 (some 25) HT_.out (fun K hK=>?_)
    refine value_ (w1:=?_) (v:=?_) (by rfl) rfl ?_ ?_
    rotate_left 2
    ·go_simp
     constructor
     ·rfl
     ·rfl
    refine hK.out _ _ ⟨(blk_cell (blk_alloc BK3.out _) 0).trans rfl,(blk_cell (blk_alloc BK3.out _) 1).trans rfl,(blk_cell (blk_alloc BK3.out _) 2).trans rfl,(blk_cell (blk_alloc BK1.out _) 0).trans rfl,(blk_cell (blk_alloc BK1.out _) 1).trans rfl,(blk_cell (blk_alloc BK1.out _) 2).trans rfl,(World.cell?_alloc_lt _ _ _ (World.block_lt_of_cell? _ _ (((HB.out.cell (World.block_lt_of_cell? w _ hw43004_0)).trans hw43004_0)))).trans (((HB.out.cell (World.block_lt_of_cell? w _ hw43004_0)).trans hw43004_0)),(World.cell?_alloc_lt _ _ _ (World.block_lt_of_cell? _ _ (((HB.out.cell (World.block_lt_of_cell? w _ hw43004_1)).trans hw43004_1)))).trans (((HB.out.cell (World.block_lt_of_cell? w _ hw43004_1)).trans hw43004_1)),(World.cell?_alloc_lt _ _ _ (World.block_lt_of_cell? _ _ (((HB.out.cell (World.block_lt_of_cell? w _ hw43004_2)).trans hw43004_2)))).trans (((HB.out.cell (World.block_lt_of_cell? w _ hw43004_2)).trans hw43004_2))⟩ (fun hHeld=>?_)
    clear hK K
    refine zno (some 25) ?_
    refine zon 9 (some 26) HT_.out (fun K hK=>?_)
    refine Kd.R_append_step k43 (w0:=w) w.heap.size (by rfl) (.tmp 18) (.tmp 25) 41 43 (.agg #[(.int .i64 0),(.string ⟨#[]⟩),(.slice none 0 0)]) 48 rfl Try.underlying41 info43 rfl (by decide) (by omega) u43004002 x43004002_1 (⟨t5,t6,t7⟩:S43) [.int .i64 t5,.string t6,.slice Ao20 t7.length co20] (fun k_=>k_ ≠ gb1∧k_ ≠ gb2∧k_ ≠ gb3) (fun k_=>((fun k_=>k_ ≠ gb1∧k_ ≠ gb2∧k_ ≠ gb3)) k_∧some k_ ≠ (u43004002:Value).ownBlock) rfl rfl ?aP (fun _ hk=>hk) ?aF ?aO ?aB ?aS ?aL ?_
    (case aP=>exact k43_mkM _ _ _ (⟨t5,t6,t7⟩:S43) (Kd.R_mono (HO9.out) (fun k_ hk=>⟨⟨hk.1.1.2,⟨hk.1.2,hk.2⟩⟩,hk.1.1.1.2⟩)))
    (case aB=>exact za5)
    (case aF=>exact (fun k_ hk=>⟨zF BK1.out k_ hk,zF BK2.out k_ hk,zF BK3.out k_ hk⟩))
    (case aO=>exact (by (with_reducible repeat (first|apply Kd.R_alloc|apply Kd.R_drewN|apply Kd.R_drew));exact Kd.R_mono HO_43004002.out (fun _ hk=>⟨hk.1.1,⟨hk.1.2.1,hk.1.2.2⟩⟩)))
    (case aS=>exact (below_size za5))
    (case aL=>have:=LMc13.out;omega)
    intro v11 w19 ho hb hg hat
    rw [← Ny10.out] at ho
    replace BK1:=zk (blk_grown (g:=gb1) (o:=.cells #[.int .i64 a0_0,.string a0_1,.slice (some ad43004) l0_2.length c0_2] 43 (0,0)) (za0 BK1.out) hg (Kd.R_away HO_43004002.out (fun _ hk=>hk.1.1)))
    replace BK2:=zk (blk_grown (g:=gb2) (o:=.cells #[.int .i64 0,.string ⟨#[]⟩,.slice none 0 0] 43 (0,0)) (za0 BK2.out) hg (Kd.R_away HO_43004002.out (fun _ hk=>hk.1.2.1)))
    replace BK3:=zk (blk_grown (g:=gb3) (o:=.cells #[.int .i64 a0_0,.string a0_1,u43004002] 43 (0,0)) (za0 BK3.out) hg (Kd.R_away HO_43004002.out (fun _ hk=>hk.1.2.2)))
    replace HB:=zk hb
    have HO12:=zk ho
    clear HO_43004002
    clear HO9
    clear ho hb hg hat
    obtain ⟨Ao21,co21,eo21⟩:=Kd.R_slice HO12.out
    (first|subst eo21|(injection eo21 with f1_ f2_ f3_;have f4_:=f1_.symm;have f5_:=f3_.symm;clear f1_ f2_ f3_;subst f4_;subst f5_))
    refine hK.out _ _ ⟨(blk_cell BK3.out 0).trans rfl,(blk_cell BK3.out 1).trans rfl,(blk_cell BK3.out 2).trans rfl,(blk_cell BK1.out 0).trans rfl,(blk_cell BK1.out 1).trans rfl,(blk_cell BK1.out 2).trans rfl,((HB.out.cell (World.block_lt_of_cell? w _ hw43004_0)).trans hw43004_0),((HB.out.cell (World.block_lt_of_cell? w _ hw43004_1)).trans hw43004_1),((HB.out.cell (World.block_lt_of_cell? w _ hw43004_2)).trans hw43004_2)⟩ (fun hHeld=>?_)
    clear hK K
    refine zno (some 26) ?_
    refine zy 10 (some 27) HT_.out ?_
    refine last_ (i:=11) (N:=none) #[true,true,true,true,true,true,true,true,true,true,true,true] rfl rfl (one_of HT_.out (by kernel_rfl)) (by decide) (fun K hK=>?_)
    have hs22:w19.cell? ⟨gb3,2,none⟩=some (u43004002):=(blk_cell BK3.out 2).trans rfl
    have hfs22:=blk_frozen BK3.out 2
    have hns22_0:=NB1_3.out
    have hns22_1:=NB2_3.out
    have hms22_0:=NB3_1.out
    have hms22_1:=NB3_2.out
    refine skip_ (w1:=?_) (by rfl) rfl ?_ ?_
    rotate_left
    ·go_simp
     rfl
    refine hK.out _ _ ?_
    clear hK K
    refine done_ (done_of HT_.out (by kernel_rfl)) ?_
    try go_wp2
    go_roundg k1
    case measure=>have:=HK1.out;omega
    case rel=>exact ⟨(wrap64 (x4_1+1)),(y43010),(.slice Ao21 y43010.length co21),za9,H',⟨za11⟩,⟨by (with_reducible repeat (first|apply Kd.R_alloc|apply Kd.R_drewN|apply Kd.R_drew));exact Kd.R_mono (zfR (Kd.R_mono HO12.out (fun k_ hk=>(⟨hk,hk.2.2⟩:_∧k_ ≠ gb3)))) (fun _ hk=>⟨hk.1.1,⟨hk.1.2.1,hk.1.2.2⟩⟩)⟩,⟨zpw BK1.out⟩,⟨zpw BK2.out⟩,⟨zpu BK3.out⟩,⟨za5⟩⟩
   ·rw [if_neg c13] at H
    exact absurd H (by simp)
   ·rw [if_neg c11] at H
    exact absurd H (by simp)
   ·rw [if_neg c10] at H
    have c10b0:=zdnl c10
    clear c10
    simp only [Option.some.injEq,Prod.mk.injEq] at H
    obtain ⟨rfl,rfl,rfl⟩:=H
    have hnb23:=NB1_2.out
    have hnc23:=NB2_1.out
    have hnb24:=NB1_3.out
    have hnc24:=NB3_1.out
    obtain ⟨hcz25_0,hcz25_1,hcz25_2,hfz25_0,hfz25_1,hfz25_2⟩:=blk3 BK1.out
    have hnb26:=NB3_2.out
    have hnc26:=NB2_3.out
    obtain ⟨hcz27_0,hcz27_1,hcz27_2,hfz27_0,hfz27_1,hfz27_2⟩:=blk3 BK3.out
    obtain ⟨hcz28_0,hcz28_1,hcz28_2,hfz28_0,hfz28_1,hfz28_2⟩:=blk3 BK2.out
    obtain ⟨Ao29,co29,eo29⟩:=Kd.R_slice HO_43004002.out
    subst eo29
    go_wp2
    refine bodyPost_ret (results_cell_row rfl _ _ gb2 43 #[.int .i64 a0_0,.string a0_1,.slice Ao29 x43004002_1.length co29] (0,0) _ rfl (zpu BK2.out) Try.underlying43 rfl (by kernel_rfl)) rfl ?_
    exact ⟨_,za8,by (with_reducible repeat (first|apply Kd.R_alloc|apply Kd.R_drewN|apply Kd.R_drew));exact Kd.R_mono (zfR (zfR (zfR (Kd.R_mono HO_43004002.out (fun k_ hk=>(⟨hk,hk.2.1⟩:_∧k_ ≠ gb2)))))) (fun _ hk=>trivial),za5⟩
def spec_l9Zero.f (a0_0:Int) (a0_1:ByteArray) (l0_2:List (S43)):Option (Bool):=if a0_0=0 then (if a0_1.toList=([]:List UInt8) then (some ((l0_2.length:Int) == 0)) else (some false)) else (some false)
theorem spec_l9Zero.calls (a0_0:Int) (a0_1:ByteArray) (A0_2:Option Addr) (c0_2:Nat) (l0_2:List (S43)) (r:Bool) (w:World) (hr0_2:Kd.C k43 w A0_2 l0_2.length l0_2) (hc0_2:l0_2.length≤c0_2) (h:spec_l9Zero.f a0_0 a0_1 l0_2=some r) :
   Calls Try.prog 40 #[.agg #[.int .i64 a0_0,.string a0_1,.slice A0_2 l0_2.length c0_2]] w fun e w'=>e = .returned (.bool r)∧Below w.heap.size w w':=by
 have hu43:=Try.underlying43
 have HR0_2:=zk hr0_2
 have HC0_2:=zk hc0_2
 clear hr0_2 hc0_2
 have HB:=zk (Below.refl w.heap.size w)
 have H:=h
 unfold spec_l9Zero.f at H
 clear h
 by_cases c2:a0_0=0
 rw [if_pos c2] at H
 have c2b0:=zbt c2
 have c2b1:=zqn c2
 clear c2
 by_cases c3:a0_1.toList=([]:List UInt8)
 rw [if_pos c3] at H
 have c3b0:=zbt c3
 have c3b1:=zqn c3
 clear c3
 rotate_left
 rw [if_neg c3] at H
 have c3b0:=zbn c3
 have c3b1:=zqt c3
 rotate_left
 rw [if_neg c2] at H
 have c2b0:=zbn c2
 have c2b1:=zqt c2
 rotate_left
 all_goals
  obtain rfl:=zi H
  go_enter Try.func40,Try.ntmps40
  go_wp2_with (((with_reducible refine gate_dst (N:=1) rfl ?_);(try (refine gate_guard (by rfl) ?_;dsimp only));refine zE (cs:=#[.int .i64 a0_0,.string a0_1,.slice A0_2 l0_2.length c0_2]) (t:=43) ?_;intro gb1 hg w4 hbox hb;have BK1:=zk hbox;have GW1:=zk (zs (w:=w) hg za5);have GE1:=GW1;replace HB:=yB HB hb;clear hb hbox hg;obtain ⟨hcz5_0,hcz5_1,hcz5_2,hfz5_0,hfz5_1,hfz5_2⟩:=blk3 BK1.out))
  go_ret
  exact ⟨za8,za5⟩
def spec_l9Coeffs.l0:Nat→List Int→Int→Option (Bool)
 | 0,_,_=>none
 | k+1,x0,x3=>if x3 < (x0.length:Int) then (if 0≤x3 then ((spec_l1In.f (rd x0 x3) (-9) 9).bind fun t42002=>(if t42002=true then (spec_l9Coeffs.l0 k x0 (wrap64 (x3+1))) else (some false))) else (none)) else (some ((x0.length:Int) == 3))
def spec_l9Coeffs.f (k:Nat) (l0:List Int):Option (Bool):=spec_l9Coeffs.l0 k l0 0
theorem spec_l9Coeffs.calls (k:Nat) (A0:Option Addr) (c0:Nat) (l0:List Int) (r:Bool) (w:World) (hr0:Kd.C (Kd.int .i64) w A0 l0.length l0) (hc0:l0.length≤c0) (h:spec_l9Coeffs.f k l0=some r) :
   Calls Try.prog 42 #[.slice A0 l0.length c0] w fun e w'=>e = .returned (.bool r)∧Drawn0 w w':=by
 have HR0:=zk hr0
 have HC0:=zk hc0
 clear hr0 hc0
 have H:=h
 unfold spec_l9Coeffs.f at H
 clear h
 have H':=zk H
 clear H
 go_enter Try.func42,Try.ntmps42
 go_wp2
 try simp only [Act.put,zt,zv,zu]
 go_loopg [3] k (fun kq v3 w'=>∃ (x3_1:Int),v3 = .int .i64 x3_1∧Aside0 (spec_l9Coeffs.l0 kq l0 x3_1=some r)∧Aside0 (kq≤k)∧Drawn0 w w')
 case atStart=>exact ⟨(0),za9,H',⟨Nat.le_refl _⟩,za10⟩
 case round =>
  clear H'
  obtain ⟨x3_1,rfl,HA,HK1,⟨m1,rfl⟩⟩:=hrel
  cases gk with
  | zero=>exact absurd HA.out (by simp [spec_l9Coeffs.l0])
  | succ k1 =>
   have H:=HA.out
   clear HA
   simp only [spec_l9Coeffs.l0] at H
   by_cases c2:x3_1 < (l0.length:Int)
   rw [if_pos c2] at H
   have c2b0:=zdl c2
   clear c2
   by_cases c3:0≤x3_1
   rw [if_pos c3] at H
   have c3b0:=zdle c3
   clear c3
   obtain ⟨t2,A4,H⟩:=zO H
   try dsimp only at H
   by_cases c5:t2=true
   subst c5
   rw [if_pos rfl] at H
   try dsimp only at H
   have H':=zk H
   clear H
   have fin0_:=zk trivial
   rotate_left
   replace c5:=Bool.eq_false_iff.mpr c5
   subst c5
   rw [if_neg zff] at H
   try dsimp only at H
   obtain rfl:=zi H
   have fin1_:=zk trivial
   rotate_left
   · rw [if_neg c3] at H
     exact absurd H (by simp)
   · rw [if_neg c2] at H
     have c2b0:=zdnl c2
     clear c2
     obtain rfl:=zi H
     go_wp2
     go_ret
     exact ⟨za9,za10⟩
   all_goals
    have p42001:0≤(x3_1:Int):=of_decide_eq_true za7
    have q42001:x3_1 < (l0.length:Int):=of_decide_eq_true za7
    obtain ⟨ad42001,e42001,hx42001_0⟩:=Kd.at_int HR0.out x3_1 p42001 q42001
    cases e42001
    replace p42001:=eq_true p42001
    replace q42001:=eq_true q42001
    go_wp2_with (((with_reducible refine gate_callee (f:=13) rfl ?_);refine zg (some 14) Try.func13 #[.int .i64 (rd l0 x3_1),.int .i64 (-9),.int .i64 9] rfl za6 ?_;(with_reducible refine (spec_l1In.calls (rd l0 x3_1) (-9) 9 _ _ A4.out).mono ?_);rintro e w' ⟨rfl,⟨nd,rfl⟩⟩;refine ⟨_,rfl,?_⟩))
    first
    | (
      clear fin0_
      go_roundg k1
      case measure=>have:=HK1.out;omega
      case rel=>exact ⟨(wrap64 (x3_1+1)),za9,H',⟨za11⟩,za10⟩)
    | (
      clear fin1_
      go_ret
      exact ⟨za9,za10⟩)
mutual
def spec_IsValidConstraint.j0:Nat→Bool→Int→ByteArray→ByteArray→Int→ByteArray→List (S43)→List Int→Int→Option (Bool)
 | 0,_,_,_,_,_,_,_,_,_=>none
 | k+1,x3,x24002000,x24002001,x24002002,x24002003,x24002004,x24002005,x24002006,x24002007=>if x24002000=1 then (spec_IsValidConstraint.j1 k x3 x24002000 (x24002000 == 1) x24002000 x24002001 x24002002 x24002003 x24002004 x24002005 x24002006 x24002007) else (spec_IsValidConstraint.j1 k x3 x24002000 (x24002000 == 2) x24002000 x24002001 x24002002 x24002003 x24002004 x24002005 x24002006 x24002007)
def spec_IsValidConstraint.j1:Nat→Bool→Int→Bool→Int→ByteArray→ByteArray→Int→ByteArray→List (S43)→List Int→Int→Option (Bool)
 | 0,_,_,_,_,_,_,_,_,_,_,_=>none
 | k+1,x3,x14,x15,x24002000,x24002001,x24002002,x24002003,x24002004,x24002005,x24002006,x24002007=>if x15=true then ((spec_IsTerm.f k x24002001).bind fun t24002=>(if t24002=true then ((spec_IsTerm.f k x24002002).bind fun t24003=>(if t24003=true then ((spec_l9Zero.f x24002003 x24002004 x24002005).bind fun t24004=>(if t24004=true then (some x3) else (some false))) else (some false))) else (some false))) else (if x14=3 then (spec_IsValidConstraint.j2 k x3 x14 (x14 == 3) x24002000 x24002001 x24002002 x24002003 x24002004 x24002005 x24002006 x24002007) else (spec_IsValidConstraint.j2 k x3 x14 (x14 == 4) x24002000 x24002001 x24002002 x24002003 x24002004 x24002005 x24002006 x24002007))
def spec_IsValidConstraint.j2:Nat→Bool→Int→Bool→Int→ByteArray→ByteArray→Int→ByteArray→List (S43)→List Int→Int→Option (Bool)
 | 0,_,_,_,_,_,_,_,_,_,_,_=>none
 | k+1,x3,x14,x34,x24002000,x24002001,x24002002,x24002003,x24002004,x24002005,x24002006,x24002007=>if x34=true then ((spec_IsTerm.f k x24002001).bind fun t24005=>(if t24005=true then (if x24002002.toList=([]:List UInt8) then ((spec_IsValidRegex.f k x24002003 x24002004 x24002005).bind fun t24006=>(if t24006=true then (some x3) else (some false))) else (some false)) else (some false))) else (if x14=5 then (if x24002001.toList=([]:List UInt8) then (if x24002002.toList=([]:List UInt8) then ((spec_l9Zero.f x24002003 x24002004 x24002005).bind fun t24007=>(if t24007=true then ((spec_l9Coeffs.f k x24002006).bind fun t24008=>(if t24008=true then ((spec_l1In.f x24002007 (-99) 99).bind fun t24009=>(some t24009)) else (some false))) else (some false))) else (some false)) else (some false)) else (some false))
end
def spec_IsValidConstraint.f (k:Nat) (a0_0:Int) (a0_1:ByteArray) (a0_2:ByteArray) (a0_3:Int) (a0_4:ByteArray) (l0_5:List (S43)) (l0_6:List Int) (a0_7:Int):Option (Bool):=if (l0_6.length:Int)=0 then (spec_IsValidConstraint.j0 k (a0_7 == 0) a0_0 a0_1 a0_2 a0_3 a0_4 l0_5 l0_6 a0_7) else (spec_IsValidConstraint.j0 k false a0_0 a0_1 a0_2 a0_3 a0_4 l0_5 l0_6 a0_7)
theorem spec_IsValidConstraint.calls (k:Nat) (a0_0:Int) (a0_1:ByteArray) (a0_2:ByteArray) (a0_3:Int) (a0_4:ByteArray) (A0_5:Option Addr) (c0_5:Nat) (l0_5:List (S43)) (A0_6:Option Addr) (c0_6:Nat) (l0_6:List Int) (a0_7:Int) (r:Bool) (w:World) (hr0_5:Kd.C k43 w A0_5 l0_5.length l0_5) (hc0_5:l0_5.length≤c0_5) (hr0_6:Kd.C (Kd.int .i64) w A0_6 l0_6.length l0_6) (hc0_6:l0_6.length≤c0_6) (h:spec_IsValidConstraint.f k a0_0 a0_1 a0_2 a0_3 a0_4 l0_5 l0_6 a0_7=some r) :
   Calls Try.prog 24 #[.agg #[.int .i64 a0_0,.string a0_1,.string a0_2,.int .i64 a0_3,.string a0_4,.slice A0_5 l0_5.length c0_5,.slice A0_6 l0_6.length c0_6,.int .i64 a0_7]] w fun e w'=>e = .returned (.bool r)∧Below w.heap.size w w':=by
 have hu46:=Try.underlying46
 have hu43:=Try.underlying43
 have HR0_5:=zk hr0_5
 have HC0_5:=zk hc0_5
 clear hr0_5 hc0_5
 have HR0_6:=zk hr0_6
 have HC0_6:=zk hc0_6
 clear hr0_6 hc0_6
 have HB:=zk (Below.refl w.heap.size w)
 have H:=h
 unfold spec_IsValidConstraint.f at H
 clear h
 have HC2:=zk H
 clear H
 go_enter Try.func24,Try.ntmps24
 go_upto_region 1 with (first|((with_reducible refine gate_dst (N:=1) rfl ?_);refine zE (cs:=#[.int .i64 a0_0,.string a0_1,.string a0_2,.int .i64 a0_3,.string a0_4,.slice A0_5 l0_5.length c0_5,.slice A0_6 l0_6.length c0_6,.int .i64 a0_7]) (t:=46) ?_;intro gb1 hg w3 hbox hb;have BK1:=zk hbox;have GW1:=zk (zs (w:=w) hg za5);have GE1:=GW1;replace HB:=yB HB hb;clear hb hbox hg))
 (try simp only [Act.put,zt,zu,zv])
 go_cut [3] (fun v3 wc=>∃ (kq:Nat) (x3_1:Bool),v3 = .bool x3_1∧Aside0 (spec_IsValidConstraint.j0 kq x3_1 a0_0 a0_1 a0_2 a0_3 a0_4 l0_5 l0_6 a0_7=some r)∧Aside0 (kq≤k)∧Aside0 (wc.heap[gb1]? = some (.cells #[.int .i64 a0_0,.string a0_1,.string a0_2,.int .i64 a0_3,.string a0_4,(.slice A0_5 l0_5.length c0_5),(.slice A0_6 l0_6.length c0_6),.int .i64 a0_7] 46 (0,0)))∧Aside0 (Below w.heap.size w wc))
 case first =>
  have H:=HC2.out
  clear HC2
  by_cases c4:(l0_6.length:Int)=0
  · rw [if_pos c4] at H
    have c4b0:=zbt c4
    have c4b1:=zqn c4
    clear c4
    (first|rw [c4b0]|(simp only [i64_w,i32_w];rw [c4b0])|skip)
    have H':=zk H
    clear H
    obtain ⟨hcz5_0,hcz5_1,hcz5_2,hcz5_3,hcz5_4,hcz5_5,hcz5_6,hcz5_7,hfz5_0,hfz5_1,hfz5_2,hfz5_3,hfz5_4,hfz5_5,hfz5_6,hfz5_7⟩:=blk8 BK1.out
    go_wp2
    go_meet
    case rel=>exact ⟨_,((a0_7 == 0)),za9,H',⟨za13⟩,⟨za0 BK1.out⟩,⟨za5⟩⟩
  · rw [if_neg c4] at H
    have c4b0:=zbn c4
    have c4b1:=zqt c4
    have c4b2:¬ (l0_6 = []):=fun h_=>c4 (by rw [h_];rfl)
    (first|rw [c4b0]|(simp only [i64_w,i32_w];rw [c4b0])|skip)
    have H':=zk H
    clear H
    obtain ⟨hcz6_0,hcz6_1,hcz6_2,hcz6_3,hcz6_4,hcz6_5,hcz6_6,hcz6_7,hfz6_0,hfz6_1,hfz6_2,hfz6_3,hfz6_4,hfz6_5,hfz6_6,hfz6_7⟩:=blk8 BK1.out
    go_wp2
    go_meet
    case rel=>exact ⟨_,(false),za9,H',⟨za13⟩,⟨za0 BK1.out⟩,⟨za5⟩⟩
 case rest =>
  clear HC2
  obtain ⟨kq,x3_1,rfl,HA,HJ1,BK1,HB⟩:=hcut
  cases kq with
  | zero=>exact absurd HA.out (by simp [spec_IsValidConstraint.j0])
  | succ kj1 =>
   have H:=HA.out
   clear HA
   simp only [spec_IsValidConstraint.j0] at H
   have HC7:=zk H
   clear H
   obtain ⟨hcz8_0,hcz8_1,hcz8_2,hcz8_3,hcz8_4,hcz8_5,hcz8_6,hcz8_7,hfz8_0,hfz8_1,hfz8_2,hfz8_3,hfz8_4,hfz8_5,hfz8_6,hfz8_7⟩:=blk8 BK1.out
   go_upto_if 15 with (fail)
   go_cut [15] (fun v15 wc=>∃ (kq:Nat) (x15_6:Bool),v15 = .bool x15_6∧Aside0 (spec_IsValidConstraint.j1 kq x3_1 a0_0 x15_6 a0_0 a0_1 a0_2 a0_3 a0_4 l0_5 l0_6 a0_7=some r)∧Aside0 (kq≤kj1)∧Aside0 (wc.heap[gb1]? = some (.cells #[.int .i64 a0_0,.string a0_1,.string a0_2,.int .i64 a0_3,.string a0_4,(.slice A0_5 l0_5.length c0_5),(.slice A0_6 l0_6.length c0_6),.int .i64 a0_7] 46 (0,0)))∧Aside0 (Below w.heap.size w wc))
   case first =>
    have H:=HC7.out
    clear HC7
    by_cases c9:a0_0=1
    · rw [if_pos c9] at H
      have c9b0:=zbt c9
      have c9b1:=zqn c9
      clear c9
      (first|rw [c9b0]|(simp only [i64_w,i32_w];rw [c9b0])|skip)
      have H':=zk H
      clear H
      go_wp2
      go_meet
      case rel=>exact ⟨_,((a0_0 == 1)),za9,H',⟨za19⟩,⟨za0 BK1.out⟩,⟨za5⟩⟩
    · rw [if_neg c9] at H
      have c9b0:=zbn c9
      have c9b1:=zqt c9
      (first|rw [c9b0]|(simp only [i64_w,i32_w];rw [c9b0])|skip)
      have H':=zk H
      clear H
      go_wp2
      go_meet
      case rel=>exact ⟨_,((a0_0 == 2)),za9,H',⟨za19⟩,⟨za0 BK1.out⟩,⟨za5⟩⟩
   case rest =>
    clear HC7
    try clear hcz8_0
    try clear hcz8_1
    try clear hcz8_2
    try clear hcz8_3
    try clear hcz8_4
    try clear hcz8_5
    try clear hcz8_6
    try clear hcz8_7
    try clear hfz8_0
    try clear hfz8_1
    try clear hfz8_2
    try clear hfz8_3
    try clear hfz8_4
    try clear hfz8_5
    try clear hfz8_6
    try clear hfz8_7
    obtain ⟨kq,x15_6,rfl,HA,HJ6,BK1,HB⟩:=hcut
    cases kq with
    | zero=>exact absurd HA.out (by simp [spec_IsValidConstraint.j1])
    | succ kj6 =>
     have H:=HA.out
     clear HA
     simp only [spec_IsValidConstraint.j1] at H
     by_cases c10:x15_6=true
     subst c10
     rw [if_pos rfl] at H
     try dsimp only at H
     obtain ⟨t2,A11,H⟩:=zO H
     try dsimp only at H
     by_cases c12:t2=true
     subst c12
     rw [if_pos rfl] at H
     try dsimp only at H
     obtain ⟨t3,A13,H⟩:=zO H
     try dsimp only at H
     by_cases c14:t3=true
     subst c14
     rw [if_pos rfl] at H
     try dsimp only at H
     obtain ⟨t4,A15,H⟩:=zO H
     try dsimp only at H
     by_cases c16:t4=true
     subst c16
     have H1:(some x3_1)=some r:=by rw [if_pos rfl] at H;exact H
     rotate_left
     replace c16:=Bool.eq_false_iff.mpr c16
     subst c16
     have H1:(some false)=some r:=by rw [if_neg zff] at H;exact H
     rotate_left
     replace c14:=Bool.eq_false_iff.mpr c14
     subst c14
     have H1:(some false)=some r:=by rw [if_neg zff] at H;exact H
     rotate_left
     replace c12:=Bool.eq_false_iff.mpr c12
     subst c12
     have H1:(some false)=some r:=by rw [if_neg zff] at H;exact H
     rotate_left
     · replace c10:=Bool.eq_false_iff.mpr c10
       subst c10
       rw [if_neg zff] at H
       try dsimp only at H
       have HC23:=zk H
       clear H
       go_upto_if 34 with (fail)
       go_cut [34] (fun v34 wc=>∃ (kq:Nat) (x34_22:Bool),v34 = .bool x34_22∧Aside0 (spec_IsValidConstraint.j2 kq x3_1 a0_0 x34_22 a0_0 a0_1 a0_2 a0_3 a0_4 l0_5 l0_6 a0_7=some r)∧Aside0 (kq≤kj6)∧Aside0 (wc.heap[gb1]? = some (.cells #[.int .i64 a0_0,.string a0_1,.string a0_2,.int .i64 a0_3,.string a0_4,(.slice A0_5 l0_5.length c0_5),(.slice A0_6 l0_6.length c0_6),.int .i64 a0_7] 46 (0,0)))∧Aside0 (Below w.heap.size w wc))
       case first =>
        have H:=HC23.out
        clear HC23
        by_cases c24:a0_0=3
        · rw [if_pos c24] at H
          have c24b0:=zbt c24
          have c24b1:=zqn c24
          clear c24
          (first|rw [c24b0]|(simp only [i64_w,i32_w];rw [c24b0])|skip)
          have H':=zk H
          clear H
          go_wp2
          go_meet
          case rel=>exact ⟨_,((a0_0 == 3)),za9,H',⟨by have:=HJ1.out;have:=HJ6.out;first|omega|exact Nat.le_refl _⟩,⟨za0 BK1.out⟩,⟨za5⟩⟩
        · rw [if_neg c24] at H
          have c24b0:=zbn c24
          have c24b1:=zqt c24
          (first|rw [c24b0]|(simp only [i64_w,i32_w];rw [c24b0])|skip)
          have H':=zk H
          clear H
          go_wp2
          go_meet
          case rel=>exact ⟨_,((a0_0 == 4)),za9,H',⟨by have:=HJ1.out;have:=HJ6.out;first|omega|exact Nat.le_refl _⟩,⟨za0 BK1.out⟩,⟨za5⟩⟩
       case rest =>
        clear HC23
        try clear c10
        try clear hcz8_0
        try clear hcz8_1
        try clear hcz8_2
        try clear hcz8_3
        try clear hcz8_4
        try clear hcz8_5
        try clear hcz8_6
        try clear hcz8_7
        try clear hfz8_0
        try clear hfz8_1
        try clear hfz8_2
        try clear hfz8_3
        try clear hfz8_4
        try clear hfz8_5
        try clear hfz8_6
        try clear hfz8_7
        obtain ⟨kq,x34_22,rfl,HA,HJ22,BK1,HB⟩:=hcut
        cases kq with
        | zero=>exact absurd HA.out (by simp [spec_IsValidConstraint.j2])
        | succ kj22 =>
         have H:=HA.out
         clear HA
         simp only [spec_IsValidConstraint.j2] at H
         by_cases c25:x34_22=true
         subst c25
         rw [if_pos rfl] at H
         try dsimp only at H
         obtain ⟨t5,A26,H⟩:=zO H
         try dsimp only at H
         by_cases c27:t5=true
         subst c27
         rw [if_pos rfl] at H
         try dsimp only at H
         by_cases c28:a0_2.toList=([]:List UInt8)
         rw [if_pos c28] at H
         have c28b0:=zbt c28
         have c28b1:=zqn c28
         clear c28
         obtain ⟨t6,A29,H⟩:=zO H
         try dsimp only at H
         by_cases c30:t6=true
         subst c30
         rw [if_pos rfl] at H
         try dsimp only at H
         rotate_left
         replace c30:=Bool.eq_false_iff.mpr c30
         subst c30
         rw [if_neg zff] at H
         try dsimp only at H
         rotate_left
         rw [if_neg c28] at H
         have c28b0:=zbn c28
         have c28b1:=zqt c28
         rotate_left
         replace c27:=Bool.eq_false_iff.mpr c27
         subst c27
         rw [if_neg zff] at H
         try dsimp only at H
         rotate_left
         replace c25:=Bool.eq_false_iff.mpr c25
         subst c25
         rw [if_neg zff] at H
         try dsimp only at H
         by_cases c37:a0_0=5
         rw [if_pos c37] at H
         have c37b0:=zbt c37
         have c37b1:=zqn c37
         clear c37
         by_cases c38:a0_1.toList=([]:List UInt8)
         rw [if_pos c38] at H
         have c38b0:=zbt c38
         have c38b1:=zqn c38
         clear c38
         by_cases c39:a0_2.toList=([]:List UInt8)
         rw [if_pos c39] at H
         have c39b0:=zbt c39
         have c39b1:=zqn c39
         clear c39
         obtain ⟨t7,A40,H⟩:=zO H
         try dsimp only at H
         by_cases c41:t7=true
         subst c41
         rw [if_pos rfl] at H
         try dsimp only at H
         obtain ⟨t8,A42,H⟩:=zO H
         try dsimp only at H
         by_cases c43:t8=true
         subst c43
         rw [if_pos rfl] at H
         try dsimp only at H
         obtain ⟨t9,A44,H⟩:=zO H
         try dsimp only at H
         rotate_left
         replace c43:=Bool.eq_false_iff.mpr c43
         subst c43
         rw [if_neg zff] at H
         try dsimp only at H
         rotate_left
         replace c41:=Bool.eq_false_iff.mpr c41
         subst c41
         rw [if_neg zff] at H
         try dsimp only at H
         rotate_left
         rw [if_neg c39] at H
         have c39b0:=zbn c39
         have c39b1:=zqt c39
         rotate_left
         rw [if_neg c38] at H
         have c38b0:=zbn c38
         have c38b1:=zqt c38
         rotate_left
         · rw [if_neg c37] at H
           have c37b0:=zbn c37
           have c37b1:=zqt c37
           obtain rfl:=zi H
           go_wp2
           go_ret
           exact ⟨za8,za5⟩
         all_goals
          obtain rfl:=zi H
          obtain ⟨hcz45_0,hcz45_1,hcz45_2,hcz45_3,hcz45_4,hcz45_5,hcz45_6,hcz45_7,hfz45_0,hfz45_1,hfz45_2,hfz45_3,hfz45_4,hfz45_5,hfz45_6,hfz45_7⟩:=blk8 BK1.out
          go_wp2_with (first|(go_at_call 40;(with_reducible refine (spec_l9Zero.calls a0_3 a0_4 _ _ l0_5 _ _ ?side1 ?side2 A40.out).mono ?_);(case side1=>repeat (first|exact (Kd.C_below HR0_5.out HB.out)|(with_reducible refine Kd.C_alloc ?_ _)|(with_reducible refine Kd.C_drewN ?_ _)|(with_reducible refine Kd.C_drew ?_)));(case side2=>exact HC0_5.out);rintro e w46 ⟨rfl,hb⟩;replace BK1:=yb BK1 hb;replace HB:=yB HB hb;(try clear hb);obtain ⟨hcz47_0,hcz47_1,hcz47_2,hcz47_3,hcz47_4,hcz47_5,hcz47_6,hcz47_7,hfz47_0,hfz47_1,hfz47_2,hfz47_3,hfz47_4,hfz47_5,hfz47_6,hfz47_7⟩:=blk8 BK1.out)|(go_at_call 42;(with_reducible refine (spec_l9Coeffs.calls kj22 _ _ l0_6 _ _ ?side1 ?side2 A42.out).mono ?_);(case side1=>repeat (first|exact (Kd.C_below HR0_6.out HB.out)|(with_reducible refine Kd.C_alloc ?_ _)|(with_reducible refine Kd.C_drewN ?_ _)|(with_reducible refine Kd.C_drew ?_)));(case side2=>exact HC0_6.out);rintro e w' ⟨rfl,⟨nd,rfl⟩⟩)|(go_at_call 13;(with_reducible refine (spec_l1In.calls a0_7 (-99) 99 t9 _ A44.out).mono ?_);rintro e w' ⟨rfl,⟨nd,rfl⟩⟩)|((with_reducible refine gate_callee (f:=39) rfl ?_);refine zg (some 39) Try.func39 #[.string a0_1] rfl za6 ?_;(with_reducible refine (spec_IsTerm.calls kj22 a0_1 _ _ A26.out).mono ?_);rintro e w' ⟨rfl,⟨nd,rfl⟩⟩;refine ⟨_,rfl,?_⟩)|(go_at_call 41;(with_reducible refine (spec_IsValidRegex.calls kj22 a0_3 a0_4 _ _ l0_5 _ _ ?side1 ?side2 A29.out).mono ?_);(case side1=>repeat (first|exact (Kd.C_below HR0_5.out za5)|(with_reducible refine Kd.C_alloc ?_ _)|(with_reducible refine Kd.C_drewN ?_ _)|(with_reducible refine Kd.C_drew ?_)));(case side2=>exact HC0_5.out);rintro e w32 ⟨rfl,hb⟩;replace BK1:=yb BK1 hb;replace HB:=yB HB hb;(try clear hb)))
          go_ret
          exact ⟨za8,za5⟩
     all_goals
      clear H
      have H:=H1
      clear H1
      obtain rfl:=zi H
      obtain ⟨hcz17_0,hcz17_1,hcz17_2,hcz17_3,hcz17_4,hcz17_5,hcz17_6,hcz17_7,hfz17_0,hfz17_1,hfz17_2,hfz17_3,hfz17_4,hfz17_5,hfz17_6,hfz17_7⟩:=blk8 BK1.out
      go_wp2_with (first|((with_reducible refine gate_callee (f:=39) rfl ?_);refine zg (some 20) Try.func39 #[.string a0_1] rfl za6 ?_;(with_reducible refine (spec_IsTerm.calls kj6 a0_1 _ _ A11.out).mono ?_);rintro e w' ⟨rfl,⟨nd,rfl⟩⟩;refine ⟨_,rfl,?_⟩)|(go_at_call 39;(with_reducible refine (spec_IsTerm.calls kj6 a0_2 _ _ A13.out).mono ?_);rintro e w' ⟨rfl,⟨nd,rfl⟩⟩)|(go_at_call 40;(with_reducible refine (spec_l9Zero.calls a0_3 a0_4 _ _ l0_5 _ _ ?side1 ?side2 A15.out).mono ?_);(case side1=>repeat (first|exact (Kd.C_below HR0_5.out za5)|(with_reducible refine Kd.C_alloc ?_ _)|(with_reducible refine Kd.C_drewN ?_ _)|(with_reducible refine Kd.C_drew ?_)));(case side2=>exact HC0_5.out);rintro e w18 ⟨rfl,hb⟩;replace BK1:=yb BK1 hb;replace HB:=yB HB hb;(try clear hb)))
      go_ret
      exact ⟨za8,za5⟩
def spec_l9Copy.f (k:Nat) (a0_0:Int) (a0_1:ByteArray) (a0_2:ByteArray) (a0_3:Int) (a0_4:ByteArray) (l0_5:List (S43)) (l0_6:List Int) (a0_7:Int):Option (Int × ByteArray × ByteArray × Int × ByteArray × (List (S43)) × List Int × Int):=(spec_l3Copy.f k a0_3 a0_4 l0_5).bind fun bt25003=>((some (([]:List Int):List Int)).bind fun y25008=>(if y25008.length+l0_6.length < 17592186044416 then (some (a0_0,a0_1,a0_2,bt25003.1,bt25003.2.1,bt25003.2.2,(y25008 ++ l0_6),a0_7)) else (none)))
def spec_l9Copy.T1:Bool × List (List Nat × List Nat):=(true,[([],[]),([0],[0]),([],[]),([2],[2]),([],[]),([4],[4]),([],[]),([6],[6]),([7],[7]),([],[]),([],[]),([10],[10]),([9,11,8],[9,11]),([],[]),([13],[13]),([1,3,5,8,12,14],[1,3,5,8,12,14]),([15,12,0,1,2,3,4,5,6,7,8,9,10,11,12,13,14,15],[15])])
def spec_l9Copy.B1:List Nat:=[0,1,0,4,0,16,0,64,192,0,0,1024,4032,0,8192,32767,65535]
theorem spec_l9Copy.tab1:rtab .any (opsOf Try.f25 1)=spec_l9Copy.T1:=by kernel_rfl
theorem spec_l9Copy.bits1:waitsOk spec_l9Copy.T1.2 spec_l9Copy.B1=true:=by kernel_rfl
theorem spec_l9Copy.calls (k:Nat) (a0_0:Int) (a0_1:ByteArray) (a0_2:ByteArray) (a0_3:Int) (a0_4:ByteArray) (A0_5:Option Addr) (c0_5:Nat) (l0_5:List (S43)) (A0_6:Option Addr) (c0_6:Nat) (l0_6:List Int) (a0_7:Int) (r1:Int) (r2:ByteArray) (r3:ByteArray) (r4:Int) (r5:ByteArray) (r6:List (S43)) (r7:List Int) (r8:Int) (w:World) (hr0_5:Kd.C k43 w A0_5 l0_5.length l0_5) (hc0_5:l0_5.length≤c0_5) (hr0_6:Kd.C (Kd.int .i64) w A0_6 l0_6.length l0_6) (hc0_6:l0_6.length≤c0_6) (h:spec_l9Copy.f k a0_0 a0_1 a0_2 a0_3 a0_4 l0_5 l0_6 a0_7=some (r1,r2,r3,r4,r5,r6,r7,r8)) :
  Calls Try.prog 25 #[.agg #[.int .i64 a0_0,.string a0_1,.string a0_2,.int .i64 a0_3,.string a0_4,.slice A0_5 l0_5.length c0_5,.slice A0_6 l0_6.length c0_6,.int .i64 a0_7]] w fun e w'=>∃ v5_ v6_:Value,e = .returned (.agg #[.int .i64 r1,.string r2,.string r3,.int .i64 r4,.string r5,v5_,v6_,.int .i64 r8])∧Kd.R k43 43 w' w.heap.size (fun _=>True) v5_ r6∧Kd.R (Kd.int .i64) 3 w' w.heap.size (fun _=>True) v6_ r7∧Below w.heap.size w w':=by
 have hu46:=Try.underlying46
 have hu43:=Try.underlying43
 have HR0_5:=zk hr0_5
 have HC0_5:=zk hc0_5
 clear hr0_5 hc0_5
 have HR0_6:=zk hr0_6
 have HC0_6:=zk hc0_6
 clear hr0_6 hc0_6
 have HB:=zk (Below.refl w.heap.size w)
 have H:=h
 unfold spec_l9Copy.f at H
 clear h
 obtain ⟨⟨t3,t4,t5⟩,A2,H⟩:=zO H
 try dsimp only at H
 obtain ⟨y25008,hy25008⟩:∃ y_:List Int,y_=(([]:List Int)):=⟨_,rfl⟩
 replace H:(if y25008.length+l0_6.length < 17592186044416 then (some (a0_0,a0_1,a0_2,t3,t4,t5,(y25008 ++ l0_6),a0_7)) else (none))=some (r1,r2,r3,r4,r5,r6,r7,r8):=by first|(rw [hy25008];with_reducible exact H)|(have H2_:=(Option.bind_some _ _).symm.trans H;rw [hy25008];with_reducible exact H2_)|(have H2_:=(Option.bind_some _ _).symm.trans H;with_reducible exact H2_)|with_reducible exact H|(rw [hy25008];exact H)|exact H
 have Ny8:=zk hy25008
 clear hy25008
 by_cases c3:y25008.length+l0_6.length < 17592186044416
 ·rw [if_pos c3] at H
  have LMc3:=zk c3
  clear c3
  obtain ⟨y25011,hy25011⟩:∃ y_:List Int,y_=(y25008 ++ l0_6):=⟨_,rfl⟩
  replace H:(some (a0_0,a0_1,a0_2,t3,t4,t5,y25011,a0_7))=some (r1,r2,r3,r4,r5,r6,r7,r8):=by first|(rw [hy25011];with_reducible exact H)|(have H2_:=(Option.bind_some _ _).symm.trans H;rw [hy25011];with_reducible exact H2_)|(have H2_:=(Option.bind_some _ _).symm.trans H;with_reducible exact H2_)|with_reducible exact H|(rw [hy25011];exact H)|exact H
  have Ny11:=zk hy25011
  clear hy25011
  simp only [Option.some.injEq,Prod.mk.injEq] at H
  obtain ⟨rfl,rfl,rfl,rfl,rfl,rfl,rfl,rfl⟩:=H
  go_enter Try.func25,Try.ntmps25
  try go_wp2_with (first|((with_reducible refine gate_dst (N:=1) rfl ?_);refine zE (cs:=#[.int .i64 a0_0,.string a0_1,.string a0_2,.int .i64 a0_3,.string a0_4,.slice A0_5 l0_5.length c0_5,.slice A0_6 l0_6.length c0_6,.int .i64 a0_7]) (t:=46) ?_;intro gb1 hg w4 hbox hb;have BK1:=zk hbox;have GW1:=zk (zs (w:=w) hg za5);have GE1:=GW1;replace HB:=yB HB hb;clear hb hbox hg)|((with_reducible refine gate_dst (N:=2) rfl ?_);refine zE (cs:=#[.int .i64 0,.string ⟨#[]⟩,.string ⟨#[]⟩,.int .i64 0,.string ⟨#[]⟩,.slice none 0 0,.slice none 0 0,.int .i64 0]) (t:=46) ?_;intro gb2 hg w5 hbox hb;have BK2:=zk hbox;have GW2:=zk (zs (w:=w) hg za5);have GE2:=GW2;have NB1_2:=yn hg BK1;have NB2_1:=yp hg BK1;replace BK1:=yb BK1 hb;replace HB:=yB HB hb;clear hb hbox hg))
  replace BK1:=zk (blk_drew BK1.out)
  replace BK2:=zk (blk_drew BK2.out)
  replace HB:=zk (below_drew1 HB.out)
  refine start_ (n:=17) (S:=fun w'=>w'.cell? ⟨gb1,0,none⟩=some (.int .i64 a0_0)∧w'.cell? ⟨gb1,1,none⟩=some (.string a0_1)∧w'.cell? ⟨gb1,2,none⟩=some (.string a0_2)∧w'.cell? ⟨gb1,3,none⟩=some (.int .i64 a0_3)∧w'.cell? ⟨gb1,4,none⟩=some (.string a0_4)∧w'.cell? ⟨gb1,5,none⟩=some (.slice A0_5 l0_5.length c0_5)∧w'.cell? ⟨gb1,6,none⟩=some (.slice A0_6 l0_6.length c0_6)∧w'.cell? ⟨gb1,7,none⟩=some (.int .i64 a0_7)) (ds:=[]) #[false,false,false,false,false,false,false,false,false,false,false,false,false,false,false,false,false] (by kernel_rfl) rfl rfl ⟨(blk_cell BK1.out 0).trans rfl,(blk_cell BK1.out 1).trans rfl,(blk_cell BK1.out 2).trans rfl,(blk_cell BK1.out 3).trans rfl,(blk_cell BK1.out 4).trans rfl,(blk_cell BK1.out 5).trans rfl,(blk_cell BK1.out 6).trans rfl,(blk_cell BK1.out 7).trans rfl⟩ (fun hHeld=>?_);refine with_tabW spec_l9Copy.tab1 spec_l9Copy.bits1 (fun HT_ HW_=>?_)
  generalize w5.drew=w6 at BK1 BK2 HB hHeld ⊢
  refine zy 0 (some 3) HT_.out ?_
  refine zy 2 (some 5) HT_.out ?_
  refine zy 4 (some 7) HT_.out ?_
  refine zy 6 (some 9) HT_.out ?_
  refine zy 10 (some 13) HT_.out ?_
  refine zy 13 (some 16) HT_.out ?_
  refine ztk 1 (some 4) HT_.out HW_.out hHeld ?_
  refine ztk 3 (some 6) HT_.out HW_.out hHeld ?_
  refine ztk 5 (some 8) HT_.out HW_.out hHeld ?_
  refine ztk 7 (some 10) HT_.out HW_.out hHeld ?_
  refine ztk 11 (some 14) HT_.out HW_.out hHeld ?_
  refine ztk 14 (some 17) HT_.out HW_.out hHeld ?_
  refine join_ (σ:=Value × Value) 3 #[true,true,true,true,true,true,true,true,true,true,true,true,false,true,true,false,false] (fun s_ => [(11,.agg #[.int .i64 t3,.string t4,s_.1]),(12,s_.2)]) (fun s_ w'=>(w'.cell? ⟨gb1,0,none⟩=some (.int .i64 a0_0)∧w'.cell? ⟨gb1,1,none⟩=some (.string a0_1)∧w'.cell? ⟨gb1,2,none⟩=some (.string a0_2)∧w'.cell? ⟨gb1,3,none⟩=some (.int .i64 a0_3)∧w'.cell? ⟨gb1,4,none⟩=some (.string a0_4)∧w'.cell? ⟨gb1,5,none⟩=some (.slice A0_5 l0_5.length c0_5)∧w'.cell? ⟨gb1,6,none⟩=some (.slice A0_6 l0_6.length c0_6)∧w'.cell? ⟨gb1,7,none⟩=some (.int .i64 a0_7))∧(Kd.R k43 43 w' w.heap.size (fun _=>True) s_.1 t5)∧(Kd.R (Kd.int .i64) 3 w' w.heap.size (fun _=>True) s_.2 y25008)∧(w'.heap[gb1]? = some (.cells #[.int .i64 a0_0,.string a0_1,.string a0_2,.int .i64 a0_3,.string a0_4,.slice A0_5 l0_5.length c0_5,.slice A0_6 l0_6.length c0_6,.int .i64 a0_7] 46 (0,0)))∧(w'.heap[gb2]? = some (.cells #[.int .i64 0,.string ⟨#[]⟩,.string ⟨#[]⟩,.int .i64 0,.string ⟨#[]⟩,.slice none 0 0,.slice none 0 0,.int .i64 0] 46 (0,0)))∧(Below w.heap.size w w')) ?_ ?_
  rotate_left
  ·intro hCont
   refine two_ (i:=8) (j:=9) (Ni:=some 11) (Nj:=some 12) #[true,true,true,true,true,true,true,true,true,false,true,true,false,true,true,false,false] #[true,true,true,true,true,true,true,true,false,true,true,true,false,true,true,false,false] rfl rfl rfl rfl (two_of HT_.out (by kernel_rfl)) (by decide) (by decide) (fun K hK=>?_) (fun K hK=>?_)
   ·skip
    refine goes_ Try.func43 (by kernel_rfl) rfl #[.agg #[.int .i64 a0_3,.string a0_4,.slice A0_5 l0_5.length c0_5]] (by rfl) rfl rfl za6 ?_
    with_reducible refine (spec_l3Copy.calls k a0_3 a0_4 _ _ l0_5 t3 t4 t5 _ ?side1 ?side2 A2.out).mono ?_
    (case side1=>repeat (first|exact (Kd.C_below HR0_5.out HB.out)|(with_reducible refine Kd.C_alloc ?_ _)|(with_reducible refine Kd.C_drewN ?_ _)|(with_reducible refine Kd.C_drew ?_)))
    (case side2=>exact HC0_5.out)
    rintro e w7 ⟨v6,rfl,ho0,hb⟩
    refine ⟨_,rfl,?_⟩
    have HO7:=zk (Kd.R_lower ho0 (below_size za5))
    replace BK1:=yb BK1 hb
    replace BK2:=yb BK2 hb
    replace HB:=yB HB hb
    (try clear hb)
    (try clear hb2)
    (try clear hk)
    (try clear hi)
    (try clear ho0)
    refine hK.out _ _ ⟨(blk_cell BK1.out 0).trans rfl,(blk_cell BK1.out 1).trans rfl,(blk_cell BK1.out 2).trans rfl,(blk_cell BK1.out 3).trans rfl,(blk_cell BK1.out 4).trans rfl,(blk_cell BK1.out 5).trans rfl,(blk_cell BK1.out 6).trans rfl,(blk_cell BK1.out 7).trans rfl⟩ (fun hHeld=>?_)
    clear hK K
    refine zno (some 11) ?_
    refine zon 9 (some 12) HT_.out (fun K hK=>?_)
    refine Kd.R_lit_step (Kd.int .i64) _ 3 ?hg (N:=12) ?hd (xs:=([]:List Int)) (inner:=[]) (ok:=fun _=>True) (okp:=fun _=>True) ?hr ?hp (fun _ hk=>hk) trivial (Below.refl _ _) (Nat.le_refl _) (by simp) ?_;(case hd=>rfl);(case hg=>rfl);(case hr=>first|(go_simp;done)|(go_simp;rfl));(case hp=>exact (Reps.none _ _))
    intro v9 w8 ho9 hb hg_ hnew_
    clear hg_ hnew_
    (first|rw [← Ny8.out] at ho9|(simp only [Int.reduceToNat] at ho9;rw [← Ny8.out] at ho9))
    replace HO7:=zk (Kd.R_below (za2 HO7.out) hb)
    have HO10:=zk (Kd.R_lower ho9 (below_size za5))
    replace BK1:=yb BK1 hb
    replace BK2:=yb BK2 hb
    replace HB:=yB HB hb
    clear hb ho9
    refine hK.out _ _ ⟨(blk_cell BK1.out 0).trans rfl,(blk_cell BK1.out 1).trans rfl,(blk_cell BK1.out 2).trans rfl,(blk_cell BK1.out 3).trans rfl,(blk_cell BK1.out 4).trans rfl,(blk_cell BK1.out 5).trans rfl,(blk_cell BK1.out 6).trans rfl,(blk_cell BK1.out 7).trans rfl⟩ (fun hHeld=>?_)
    clear hK K
    refine zno (some 12) ?_
    exact norm_ (by simp only [putAll,Act.put,zt,zu,zv]) (hCont (v6,v9) _ ⟨hHeld,(za2 HO7.out),(za2 HO10.out),(za0 BK1.out),(za0 BK2.out),za5⟩)
   ·skip
    refine Kd.R_lit_step (Kd.int .i64) _ 3 ?hg (N:=12) ?hd (xs:=([]:List Int)) (inner:=[]) (ok:=fun _=>True) (okp:=fun _=>True) ?hr ?hp (fun _ hk=>hk) trivial (Below.refl _ _) (Nat.le_refl _) (by simp) ?_;(case hd=>rfl);(case hg=>rfl);(case hr=>first|(go_simp;done)|(go_simp;rfl));(case hp=>exact (Reps.none _ _))
    intro v9 w7 ho8 hb hg_ hnew_
    clear hg_ hnew_
    (first|rw [← Ny8.out] at ho8|(simp only [Int.reduceToNat] at ho8;rw [← Ny8.out] at ho8))
    have HO10:=zk (Kd.R_lower ho8 (below_size za5))
    replace BK1:=yb BK1 hb
    replace BK2:=yb BK2 hb
    replace HB:=yB HB hb
    clear hb ho8
    refine hK.out _ _ ⟨(blk_cell BK1.out 0).trans rfl,(blk_cell BK1.out 1).trans rfl,(blk_cell BK1.out 2).trans rfl,(blk_cell BK1.out 3).trans rfl,(blk_cell BK1.out 4).trans rfl,(blk_cell BK1.out 5).trans rfl,(blk_cell BK1.out 6).trans rfl,(blk_cell BK1.out 7).trans rfl⟩ (fun hHeld=>?_)
    clear hK K
    refine zno (some 12) ?_
    refine zon 8 (some 11) HT_.out (fun K hK=>?_)
    refine goes_ Try.func43 (by kernel_rfl) rfl #[.agg #[.int .i64 a0_3,.string a0_4,.slice A0_5 l0_5.length c0_5]] (by rfl) rfl rfl za6 ?_
    with_reducible refine (spec_l3Copy.calls k a0_3 a0_4 _ _ l0_5 t3 t4 t5 _ ?side1 ?side2 A2.out).mono ?_
    (case side1=>repeat (first|exact (Kd.C_below HR0_5.out HB.out)|(with_reducible refine Kd.C_alloc ?_ _)|(with_reducible refine Kd.C_drewN ?_ _)|(with_reducible refine Kd.C_drew ?_)))
    (case side2=>exact HC0_5.out)
    rintro e w9 ⟨v6,rfl,ho0,hb⟩
    refine ⟨_,rfl,?_⟩
    replace HO10:=zk (Kd.R_below (za2 HO10.out) hb)
    have HO7:=zk (Kd.R_lower ho0 (below_size za5))
    replace BK1:=yb BK1 hb
    replace BK2:=yb BK2 hb
    replace HB:=yB HB hb
    (try clear hb)
    (try clear hb2)
    (try clear hk)
    (try clear hi)
    (try clear ho0)
    refine hK.out _ _ ⟨(blk_cell BK1.out 0).trans rfl,(blk_cell BK1.out 1).trans rfl,(blk_cell BK1.out 2).trans rfl,(blk_cell BK1.out 3).trans rfl,(blk_cell BK1.out 4).trans rfl,(blk_cell BK1.out 5).trans rfl,(blk_cell BK1.out 6).trans rfl,(blk_cell BK1.out 7).trans rfl⟩ (fun hHeld=>?_)
    clear hK K
    refine zno (some 11) ?_
    exact norm_ (by simp only [putAll,Act.put,zt,zu,zv]) (hCont (v6,v9) _ ⟨hHeld,(za2 HO7.out),(za2 HO10.out),(za0 BK1.out),(za0 BK2.out),za5⟩)
  rintro ⟨v6,v9⟩ w10 ⟨hS_,h0_,h1_,h2_,h3_,h4_⟩
  have n0_:Aside0 (Kd.R k43 43 w10 w.heap.size (fun _=>True) v6 t5):=⟨h0_⟩
  have n1_:Aside0 (Kd.R (Kd.int .i64) 3 w10 w.heap.size (fun _=>True) v9 y25008):=⟨h1_⟩
  have n2_:Aside0 (w10.heap[gb1]? = some (.cells #[.int .i64 a0_0,.string a0_1,.string a0_2,.int .i64 a0_3,.string a0_4,.slice A0_5 l0_5.length c0_5,.slice A0_6 l0_6.length c0_6,.int .i64 a0_7] 46 (0,0))):=⟨h2_⟩
  have n3_:Aside0 (w10.heap[gb2]? = some (.cells #[.int .i64 0,.string ⟨#[]⟩,.string ⟨#[]⟩,.int .i64 0,.string ⟨#[]⟩,.slice none 0 0,.slice none 0 0,.int .i64 0] 46 (0,0))):=⟨h3_⟩
  have n4_:Aside0 (Below w.heap.size w w10):=⟨h4_⟩
  clear BK1
  clear BK2
  clear HB
  clear h0_ h1_ h2_ h3_ h4_
  have HO7:=n0_
  have HO10:=n1_
  have BK1:=n2_
  have BK2:=n3_
  have HB:=n4_
  clear n0_ n1_ n2_ n3_ n4_
  have hHeld:w10.cell? ⟨gb1,0,none⟩=some (.int .i64 a0_0)∧w10.cell? ⟨gb1,1,none⟩=some (.string a0_1)∧w10.cell? ⟨gb1,2,none⟩=some (.string a0_2)∧w10.cell? ⟨gb1,3,none⟩=some (.int .i64 a0_3)∧w10.cell? ⟨gb1,4,none⟩=some (.string a0_4)∧w10.cell? ⟨gb1,5,none⟩=some (.slice A0_5 l0_5.length c0_5)∧w10.cell? ⟨gb1,6,none⟩=some (.slice A0_6 l0_6.length c0_6)∧w10.cell? ⟨gb1,7,none⟩=some (.int .i64 a0_7):=hS_
  refine norm_ (a':=?_) ?_ ?_
  rotate_left
  ·simp only [putAll,Act.put,zt,zu,zv]
   rfl
  refine zon 12 (some 15) HT_.out (fun K hK=>?_)
  refine Kd.R_append_rows_step (Kd.int .i64) (w0:=w) w.heap.size (by rfl) (.tmp 12) (.tmp 14) 44 3 (.int .i64 0) 8 rfl Try.underlying44 info3 rfl (by decide) (by omega) v9 y25008 l0_6 _ _ _ (fun _=>True) (fun _=>False) rfl rfl ?aO ?aR (fun _ _ h=>h) (fun _ h=>h.elim) ?aF ?aB ?aS ?aL ?_
  (case aR=>repeat (first|exact (Kd.C_below HR0_6.out HB.out)|(with_reducible refine Kd.C_alloc ?_ _)|(with_reducible refine Kd.C_drewN ?_ _)|(with_reducible refine Kd.C_drew ?_)))
  (case aB=>exact za5)
  (case aF=>exact (fun _ _=>trivial))
  (case aO=>exact (za2 HO10.out))
  (case aS=>exact (below_size za5))
  (case aL=>have:=LMc3.out;omega)
  intro v12 w11 ho hb hg hat
  rw [← Ny11.out] at ho
  replace BK1:=zk (blk_grown (g:=gb1) (o:=.cells #[.int .i64 a0_0,.string a0_1,.string a0_2,.int .i64 a0_3,.string a0_4,.slice A0_5 l0_5.length c0_5,.slice A0_6 l0_6.length c0_6,.int .i64 a0_7] 46 (0,0)) (za0 BK1.out) hg (Kd.R_ne HO10.out BK1.out (by decide)))
  replace BK2:=zk (blk_grown (g:=gb2) (o:=.cells #[.int .i64 0,.string ⟨#[]⟩,.string ⟨#[]⟩,.int .i64 0,.string ⟨#[]⟩,.slice none 0 0,.slice none 0 0,.int .i64 0] 46 (0,0)) (za0 BK2.out) hg (Kd.R_ne HO10.out BK2.out (by decide)))
  replace HO7:=zk (Kd.R_over' (za2 HO7.out) (Kd.R_typed (za2 HO10.out)) (by decide) hg)
  replace HB:=zk hb
  have HO13:=zk ho
  clear HO10
  clear ho hb hg hat
  obtain ⟨Ao12,co12,eo12⟩:=Kd.R_slice HO13.out
  (first|subst eo12|(injection eo12 with f1_ f2_ f3_;have f4_:=f1_.symm;have f5_:=f3_.symm;clear f1_ f2_ f3_;subst f4_;subst f5_))
  obtain ⟨Ao13,co13,eo13⟩:=Kd.R_slice HO7.out
  (first|subst eo13|(injection eo13 with f1_ f2_ f3_;have f4_:=f1_.symm;have f5_:=f3_.symm;clear f1_ f2_ f3_;subst f4_;subst f5_))
  refine hK.out _ _ ⟨(blk_cell BK1.out 0).trans rfl,(blk_cell BK1.out 1).trans rfl,(blk_cell BK1.out 2).trans rfl,(blk_cell BK1.out 3).trans rfl,(blk_cell BK1.out 4).trans rfl,(blk_cell BK1.out 5).trans rfl,(blk_cell BK1.out 6).trans rfl,(blk_cell BK1.out 7).trans rfl⟩ (fun hHeld=>?_)
  clear hK K
  refine zno (some 15) ?_
  refine zy 15 (some 18) HT_.out ?_
  refine zon 16 none HT_.out (fun K hK=>?_)
  have hs14:w11.cell? ⟨gb2,0,none⟩=some (.int .i64 0):=(blk_cell BK2.out 0).trans rfl
  have hfs14:=blk_frozen BK2.out 0
  have hns14_0:=NB1_2.out
  have hms14_0:=NB2_1.out
  have hs15:w11.cell? ⟨gb2,1,none⟩=some (.string ⟨#[]⟩):=(blk_cell BK2.out 1).trans rfl
  have hfs15:=blk_frozen BK2.out 1
  have hns15_0:=NB1_2.out
  have hms15_0:=NB2_1.out
  have hs16:w11.cell? ⟨gb2,2,none⟩=some (.string ⟨#[]⟩):=(blk_cell BK2.out 2).trans rfl
  have hfs16:=blk_frozen BK2.out 2
  have hns16_0:=NB1_2.out
  have hms16_0:=NB2_1.out
  have hs17:w11.cell? ⟨gb2,3,none⟩=some (.int .i64 0):=(blk_cell BK2.out 3).trans rfl
  have hfs17:=blk_frozen BK2.out 3
  have hns17_0:=NB1_2.out
  have hms17_0:=NB2_1.out
  have hs18:w11.cell? ⟨gb2,4,none⟩=some (.string ⟨#[]⟩):=(blk_cell BK2.out 4).trans rfl
  have hfs18:=blk_frozen BK2.out 4
  have hns18_0:=NB1_2.out
  have hms18_0:=NB2_1.out
  have hs19:w11.cell? ⟨gb2,5,none⟩=some (.slice none 0 0):=(blk_cell BK2.out 5).trans rfl
  have hfs19:=blk_frozen BK2.out 5
  have hns19_0:=NB1_2.out
  have hms19_0:=NB2_1.out
  have hs20:w11.cell? ⟨gb2,6,none⟩=some (.slice none 0 0):=(blk_cell BK2.out 6).trans rfl
  have hfs20:=blk_frozen BK2.out 6
  have hns20_0:=NB1_2.out
  have hms20_0:=NB2_1.out
  have hs21:w11.cell? ⟨gb2,7,none⟩=some (.int .i64 0):=(blk_cell BK2.out 7).trans rfl
  have hfs21:=blk_frozen BK2.out 7
  have hns21_0:=NB1_2.out
  have hms21_0:=NB2_1.out
  refine skip_ (w1:=?_) (by rfl) rfl ?_ ?_
  rotate_left
  ·go_simp
   rfl
  refine hK.out _ _ ⟨((cell_far (p:=⟨gb2,_,none⟩) NB1_2.out _).trans (((cell_far (p:=⟨gb2,_,none⟩) NB1_2.out _).trans (((cell_far (p:=⟨gb2,_,none⟩) NB1_2.out _).trans (((cell_far (p:=⟨gb2,_,none⟩) NB1_2.out _).trans (((cell_far (p:=⟨gb2,_,none⟩) NB1_2.out _).trans (((cell_far (p:=⟨gb2,_,none⟩) NB1_2.out _).trans (((cell_far (p:=⟨gb2,_,none⟩) NB1_2.out _).trans (((cell_far (p:=⟨gb2,_,none⟩) NB1_2.out _).trans (hHeld.1)))))))))))))))),((cell_far (p:=⟨gb2,_,none⟩) NB1_2.out _).trans (((cell_far (p:=⟨gb2,_,none⟩) NB1_2.out _).trans (((cell_far (p:=⟨gb2,_,none⟩) NB1_2.out _).trans (((cell_far (p:=⟨gb2,_,none⟩) NB1_2.out _).trans (((cell_far (p:=⟨gb2,_,none⟩) NB1_2.out _).trans (((cell_far (p:=⟨gb2,_,none⟩) NB1_2.out _).trans (((cell_far (p:=⟨gb2,_,none⟩) NB1_2.out _).trans (((cell_far (p:=⟨gb2,_,none⟩) NB1_2.out _).trans (hHeld.2.1)))))))))))))))),((cell_far (p:=⟨gb2,_,none⟩) NB1_2.out _).trans (((cell_far (p:=⟨gb2,_,none⟩) NB1_2.out _).trans (((cell_far (p:=⟨gb2,_,none⟩) NB1_2.out _).trans (((cell_far (p:=⟨gb2,_,none⟩) NB1_2.out _).trans (((cell_far (p:=⟨gb2,_,none⟩) NB1_2.out _).trans (((cell_far (p:=⟨gb2,_,none⟩) NB1_2.out _).trans (((cell_far (p:=⟨gb2,_,none⟩) NB1_2.out _).trans (((cell_far (p:=⟨gb2,_,none⟩) NB1_2.out _).trans (hHeld.2.2.1)))))))))))))))),((cell_far (p:=⟨gb2,_,none⟩) NB1_2.out _).trans (((cell_far (p:=⟨gb2,_,none⟩) NB1_2.out _).trans (((cell_far (p:=⟨gb2,_,none⟩) NB1_2.out _).trans (((cell_far (p:=⟨gb2,_,none⟩) NB1_2.out _).trans (((cell_far (p:=⟨gb2,_,none⟩) NB1_2.out _).trans (((cell_far (p:=⟨gb2,_,none⟩) NB1_2.out _).trans (((cell_far (p:=⟨gb2,_,none⟩) NB1_2.out _).trans (((cell_far (p:=⟨gb2,_,none⟩) NB1_2.out _).trans (hHeld.2.2.2.1)))))))))))))))),((cell_far (p:=⟨gb2,_,none⟩) NB1_2.out _).trans (((cell_far (p:=⟨gb2,_,none⟩) NB1_2.out _).trans (((cell_far (p:=⟨gb2,_,none⟩) NB1_2.out _).trans (((cell_far (p:=⟨gb2,_,none⟩) NB1_2.out _).trans (((cell_far (p:=⟨gb2,_,none⟩) NB1_2.out _).trans (((cell_far (p:=⟨gb2,_,none⟩) NB1_2.out _).trans (((cell_far (p:=⟨gb2,_,none⟩) NB1_2.out _).trans (((cell_far (p:=⟨gb2,_,none⟩) NB1_2.out _).trans (hHeld.2.2.2.2.1)))))))))))))))),((cell_far (p:=⟨gb2,_,none⟩) NB1_2.out _).trans (((cell_far (p:=⟨gb2,_,none⟩) NB1_2.out _).trans (((cell_far (p:=⟨gb2,_,none⟩) NB1_2.out _).trans (((cell_far (p:=⟨gb2,_,none⟩) NB1_2.out _).trans (((cell_far (p:=⟨gb2,_,none⟩) NB1_2.out _).trans (((cell_far (p:=⟨gb2,_,none⟩) NB1_2.out _).trans (((cell_far (p:=⟨gb2,_,none⟩) NB1_2.out _).trans (((cell_far (p:=⟨gb2,_,none⟩) NB1_2.out _).trans (hHeld.2.2.2.2.2.1)))))))))))))))),((cell_far (p:=⟨gb2,_,none⟩) NB1_2.out _).trans (((cell_far (p:=⟨gb2,_,none⟩) NB1_2.out _).trans (((cell_far (p:=⟨gb2,_,none⟩) NB1_2.out _).trans (((cell_far (p:=⟨gb2,_,none⟩) NB1_2.out _).trans (((cell_far (p:=⟨gb2,_,none⟩) NB1_2.out _).trans (((cell_far (p:=⟨gb2,_,none⟩) NB1_2.out _).trans (((cell_far (p:=⟨gb2,_,none⟩) NB1_2.out _).trans (((cell_far (p:=⟨gb2,_,none⟩) NB1_2.out _).trans (hHeld.2.2.2.2.2.2.1)))))))))))))))),((cell_far (p:=⟨gb2,_,none⟩) NB1_2.out _).trans (((cell_far (p:=⟨gb2,_,none⟩) NB1_2.out _).trans (((cell_far (p:=⟨gb2,_,none⟩) NB1_2.out _).trans (((cell_far (p:=⟨gb2,_,none⟩) NB1_2.out _).trans (((cell_far (p:=⟨gb2,_,none⟩) NB1_2.out _).trans (((cell_far (p:=⟨gb2,_,none⟩) NB1_2.out _).trans (((cell_far (p:=⟨gb2,_,none⟩) NB1_2.out _).trans (((cell_far (p:=⟨gb2,_,none⟩) NB1_2.out _).trans (hHeld.2.2.2.2.2.2.2))))))))))))))))⟩ (fun hHeld=>?_)
  clear hK K
  refine done_ (done_of HT_.out (by kernel_rfl)) ?_
  try go_wp2
  refine bodyPost_ret (results_cell_row rfl _ _ gb2 46 #[.int .i64 a0_0,.string a0_1,.string a0_2,.int .i64 t3,.string t4,.slice Ao13 t5.length co13,.slice Ao12 y25011.length co12,.int .i64 a0_7] (0,0) _ rfl (zpu BK2.out) Try.underlying46 rfl (by kernel_rfl)) rfl ?_
  exact ⟨_,_,za8,by (with_reducible repeat (first|apply Kd.R_alloc|apply Kd.R_drewN|apply Kd.R_drew));exact Kd.R_mono (zfR (zfR (zfR (zfR (zfR (zfR (zfR (zfR (Kd.R_types HO7.out BK2.out (by decide)))))))))) (fun _ hk=>trivial),by (with_reducible repeat (first|apply Kd.R_alloc|apply Kd.R_drewN|apply Kd.R_drew));exact Kd.R_mono (zfR (zfR (zfR (zfR (zfR (zfR (zfR (zfR (Kd.R_types HO13.out BK2.out (by decide)))))))))) (fun _ hk=>trivial),za5⟩
 ·rw [if_neg c3] at H
  exact absurd H (by simp)
def spec_IsValidProblem.l0:Nat→Int→List (S46)→Option (Bool)
 | 0,_,_=>none
 | k+1,x3,x12002000=>if x3 < (x12002000.length:Int) then (if 0≤x3 then ((spec_IsValidConstraint.f k ((rd_T46 x12002000 x3).f0) ((rd_T46 x12002000 x3).f1) ((rd_T46 x12002000 x3).f2) ((rd_T46 x12002000 x3).f3.f0) ((rd_T46 x12002000 x3).f3.f1) ((rd_T46 x12002000 x3).f3.f2) ((rd_T46 x12002000 x3).f4) ((rd_T46 x12002000 x3).f5)).bind fun t12003=>(if t12003=true then (spec_IsValidProblem.l0 k (wrap64 (x3+1)) x12002000) else (some false))) else (none)) else (some (decide ((x12002000.length:Int)≤6)))
def spec_IsValidProblem.f (k:Nat) (l0_0:List (S46)):Option (Bool):=spec_IsValidProblem.l0 k 0 l0_0
theorem spec_IsValidProblem.calls (k:Nat) (A0_0:Option Addr) (c0_0:Nat) (l0_0:List (S46)) (r:Bool) (w:World) (hr0_0:Kd.C k46 w A0_0 l0_0.length l0_0) (hc0_0:l0_0.length≤c0_0) (h:spec_IsValidProblem.f k l0_0=some r) :
   Calls Try.prog 12 #[.agg #[.slice A0_0 l0_0.length c0_0]] w fun e w'=>e = .returned (.bool r)∧Below w.heap.size w w':=by
 have hu28:=Try.underlying28
 have hu46:=Try.underlying46
 have HR0_0:=zk hr0_0
 have HC0_0:=zk hc0_0
 clear hr0_0 hc0_0
 have HB:=zk (Below.refl w.heap.size w)
 have H:=h
 unfold spec_IsValidProblem.f at H
 clear h
 have H':=zk H
 clear H
 go_enter Try.func12,Try.ntmps12
 go_wp2_with (first|((with_reducible refine gate_dst (N:=1) rfl ?_);refine zE (cs:=#[.slice A0_0 l0_0.length c0_0]) (t:=28) ?_;intro gb1 hg w2 hbox hb;have BK1:=zk hbox;have GW1:=zk (zs (w:=w) hg za5);have GE1:=GW1;replace HB:=yB HB hb;clear hb hbox hg))
 try simp only [Act.put,zt,zv,zu]
 go_loopg [3] k (fun kq v3 w'=>∃ (x3_1:Int),v3 = .int .i64 x3_1∧Aside0 (spec_IsValidProblem.l0 kq x3_1 l0_0=some r)∧Aside0 (kq≤k)∧Aside0 (w'.heap[gb1]? = some (.cells #[(.slice A0_0 l0_0.length c0_0)] 28 (0,0)))∧Aside0 (Below w.heap.size w w'))
 case atStart=>exact ⟨(0),za9,H',⟨Nat.le_refl _⟩,⟨za0 BK1.out⟩,⟨za5⟩⟩
 case round =>
  clear H'
  obtain ⟨x3_1,rfl,HA,HK1,BK1,HB⟩:=hrel
  cases gk with
  | zero=>exact absurd HA.out (by simp [spec_IsValidProblem.l0])
  | succ k1 =>
   have H:=HA.out
   clear HA
   simp only [spec_IsValidProblem.l0] at H
   by_cases c3:x3_1 < (l0_0.length:Int)
   rw [if_pos c3] at H
   have c3b0:=zdl c3
   clear c3
   by_cases c4:0≤x3_1
   rw [if_pos c4] at H
   have c4b0:=zdle c4
   clear c4
   obtain ⟨t3,A5,H⟩:=zO H
   try dsimp only at H
   by_cases c6:t3=true
   subst c6
   rw [if_pos rfl] at H
   try dsimp only at H
   have H':=zk H
   clear H
   have fin1_:=zk trivial
   rotate_left
   replace c6:=Bool.eq_false_iff.mpr c6
   subst c6
   rw [if_neg zff] at H
   try dsimp only at H
   obtain rfl:=zi H
   have fin0_:=zk trivial
   rotate_left
   · rw [if_neg c4] at H
     exact absurd H (by simp)
   · rw [if_neg c3] at H
     have c3b0:=zdnl c3
     clear c3
     obtain rfl:=zi H
     obtain ⟨hcz11_0,hfz11_0⟩:=blk1 BK1.out
     go_wp2
     go_ret
     exact ⟨za8,za5⟩
   all_goals
    obtain ⟨hcz9_0,hfz9_0⟩:=blk1 BK1.out
    have p12002:0≤(x3_1:Int):=of_decide_eq_true za7
    have q12002:x3_1 < (l0_0.length:Int):=of_decide_eq_true za7
    obtain ⟨ad12002,A12002_5,c12002_5,A12002_6,c12002_6,e12002,hx12002_0,hx12002_1,hx12002_2,hx12002_3,hx12002_4,hx12002_5,hx12002_6,hx12002_7,hl12002_5,hi12002_5,hl12002_6,hi12002_6⟩:=at_T46 HR0_0.out x3_1 p12002 q12002
    cases e12002
    replace hx12002_0:=zx HB.out hx12002_0
    replace hx12002_1:=zx HB.out hx12002_1
    replace hx12002_2:=zx HB.out hx12002_2
    replace hx12002_3:=zx HB.out hx12002_3
    replace hx12002_4:=zx HB.out hx12002_4
    replace hx12002_5:=zx HB.out hx12002_5
    replace hx12002_6:=zx HB.out hx12002_6
    replace hx12002_7:=zx HB.out hx12002_7
    have HR12002_5:=zk hi12002_5
    have HC12002_5:=zk hl12002_5
    clear hi12002_5 hl12002_5
    have HR12002_6:=zk hi12002_6
    have HC12002_6:=zk hl12002_6
    clear hi12002_6 hl12002_6
    replace p12002:=eq_true p12002
    replace q12002:=eq_true q12002
    go_wp2_with (((with_reducible refine gate_callee (f:=24) rfl ?_);refine zg (some 16) Try.func24 #[.agg #[.int .i64 ((rd_T46 l0_0 x3_1).f0),.string ((rd_T46 l0_0 x3_1).f1),.string ((rd_T46 l0_0 x3_1).f2),.int .i64 ((rd_T46 l0_0 x3_1).f3.f0),.string ((rd_T46 l0_0 x3_1).f3.f1),.slice A12002_5 ((rd_T46 l0_0 x3_1).f3.f2).length c12002_5,.slice A12002_6 ((rd_T46 l0_0 x3_1).f4).length c12002_6,.int .i64 ((rd_T46 l0_0 x3_1).f5)]] rfl za6 ?_;(with_reducible refine (spec_IsValidConstraint.calls k1 ((rd_T46 l0_0 x3_1).f0) ((rd_T46 l0_0 x3_1).f1) ((rd_T46 l0_0 x3_1).f2) ((rd_T46 l0_0 x3_1).f3.f0) ((rd_T46 l0_0 x3_1).f3.f1) _ _ ((rd_T46 l0_0 x3_1).f3.f2) _ _ ((rd_T46 l0_0 x3_1).f4) ((rd_T46 l0_0 x3_1).f5) _ _ ?side1 ?side2 ?side3 ?side4 A5.out).mono ?_);(case side1=>repeat (first|exact (Kd.C_below HR12002_5.out HB.out)|(with_reducible refine Kd.C_alloc ?_ _)|(with_reducible refine Kd.C_drewN ?_ _)|(with_reducible refine Kd.C_drew ?_)));(case side2=>exact HC12002_5.out);(case side3=>repeat (first|exact (Kd.C_below HR12002_6.out HB.out)|(with_reducible refine Kd.C_alloc ?_ _)|(with_reducible refine Kd.C_drewN ?_ _)|(with_reducible refine Kd.C_drew ?_)));(case side4=>exact HC12002_6.out);rintro e w10 ⟨rfl,hb⟩;refine ⟨_,rfl,?_⟩;replace BK1:=yb BK1 hb;replace HB:=yB HB hb;(try clear hb)))
    first
    | (
      clear fin0_
      go_ret
      exact ⟨za8,za5⟩)
    | (
      clear fin1_
      go_roundg k1
      case measure=>have:=HK1.out;omega
      case rel=>exact ⟨(wrap64 (x3_1+1)),za9,H',⟨za11⟩,⟨za0 BK1.out⟩,⟨za5⟩⟩)
def spec_l10Copy.l0:Nat→Int→List (S46)→List (S46)→Option ((List (S46)))
 | 0,_,_,_=>none
 | k+1,x4,x14002000,x14004000=>if x4 < (x14002000.length:Int) then (if 0≤x4 then ((spec_l9Copy.f k ((rd_T46 x14002000 x4).f0) ((rd_T46 x14002000 x4).f1) ((rd_T46 x14002000 x4).f2) ((rd_T46 x14002000 x4).f3.f0) ((rd_T46 x14002000 x4).f3.f1) ((rd_T46 x14002000 x4).f3.f2) ((rd_T46 x14002000 x4).f4) ((rd_T46 x14002000 x4).f5)).bind fun bt14005=>(if x14004000.length < 1172812402961 then (spec_l10Copy.l0 k (wrap64 (x4+1)) x14002000 (x14004000 ++ [(⟨bt14005.1,bt14005.2.1,bt14005.2.2.1,(⟨bt14005.2.2.2.1,bt14005.2.2.2.2.1,bt14005.2.2.2.2.2.1⟩:S43),bt14005.2.2.2.2.2.2.1,bt14005.2.2.2.2.2.2.2⟩:S46)])) else (none))) else (none)) else (some x14004000)
def spec_l10Copy.f (k:Nat) (l0_0:List (S46)):Option ((List (S46))):=spec_l10Copy.l0 k 0 l0_0 ([]:List (S46))
def spec_l10Copy.T5:Bool × List (List Nat × List Nat):=(true,[([],[]),([0],[0]),([],[]),([2],[2]),([],[]),([3,4],[3,4]),([5],[5]),([6],[6]),([7],[7]),([1,8,7],[1,8]),([0,1,2,3,4,5,6,7,8,9],[]),([10,9,9,0,1,2,3,4,5,6,7,8,9],[9,10])])
def spec_l10Copy.B5:List Nat:=[0,1,0,4,0,28,60,124,252,511,1023,2047]
theorem spec_l10Copy.tab5:rtab .any (opsOf Try.f14 5)=spec_l10Copy.T5:=by kernel_rfl
theorem spec_l10Copy.bits5:waitsOk spec_l10Copy.T5.2 spec_l10Copy.B5=true:=by kernel_rfl
theorem spec_l10Copy.calls (k:Nat) (A0_0:Option Addr) (c0_0:Nat) (l0_0:List (S46)) (r:List (S46)) (w:World) (hr0_0:Kd.C k46 w A0_0 l0_0.length l0_0) (hc0_0:l0_0.length≤c0_0) (h:spec_l10Copy.f k l0_0=some r) :
   Calls Try.prog 14 #[.agg #[.slice A0_0 l0_0.length c0_0]] w fun e w'=>∃ v0_:Value,e = .returned (.agg #[v0_])∧Kd.R k46 46 w' w.heap.size (fun _=>True) v0_ r∧Below w.heap.size w w':=by
 have hu28:=Try.underlying28
 have hu46:=Try.underlying46
 have HR0_0:=zk hr0_0
 have HC0_0:=zk hc0_0
 clear hr0_0 hc0_0
 have HB:=zk (Below.refl w.heap.size w)
 have H:=h
 unfold spec_l10Copy.f at H
 clear h
 have H':=zk H
 clear H
 go_enter Try.func14,Try.ntmps14
 go_wp2_with (first|((with_reducible refine gate_dst (N:=1) rfl ?_);refine zE (cs:=#[.slice A0_0 l0_0.length c0_0]) (t:=28) ?_;intro gb1 hg w2 hbox hb;have BK1:=zk hbox;have GW1:=zk (zs (w:=w) hg za5);have GE1:=GW1;replace HB:=yB HB hb;clear hb hbox hg)|((with_reducible refine gate_dst (N:=2) rfl ?_);refine zE (cs:=#[.slice none 0 0]) (t:=28) ?_;intro gb2 hg w3 hbox hb;have BK2:=zk hbox;have GW2:=zk (zs (w:=w) hg za5);have GE2:=GW2;have NB1_2:=yn hg BK1;have NB2_1:=yp hg BK1;replace BK1:=yb BK1 hb;replace HB:=yB HB hb;clear hb hbox hg)|((with_reducible refine gate_dst (N:=3) rfl ?_);refine zE (cs:=#[.slice none 0 0]) (t:=28) ?_;intro gb3 hg w4 hbox hb;have BK3:=zk hbox;have GW3:=zk (zs (w:=w) hg za5);have GE3:=GW3;have NB1_3:=yn hg BK1;have NB3_1:=yp hg BK1;have NB2_3:=yn hg BK2;have NB3_2:=yp hg BK2;replace BK1:=yb BK1 hb;replace BK2:=yb BK2 hb;replace HB:=yB HB hb;clear hb hbox hg;have hnb5:=NB3_1.out;have hnc5:=NB1_3.out;have hnb6:=NB3_2.out;have hnc6:=NB2_3.out;obtain ⟨hcz7_0,hfz7_0⟩:=blk1 BK3.out))
 try simp only [Act.put,zt,zv,zu]
 go_loopg [4] k (fun kq v4 w'=>∃ (x4_1:Int) (x14004000_1:List (S46)) (u14004000:Value),v4 = .int .i64 x4_1∧Aside0 (spec_l10Copy.l0 kq x4_1 l0_0 x14004000_1=some r)∧Aside0 (kq≤k)∧Aside0 (Kd.R k46 46 w' w.heap.size (fun _=>True) u14004000 x14004000_1)∧Aside0 (w'.heap[gb1]? = some (.cells #[(.slice A0_0 l0_0.length c0_0)] 28 (0,0)))∧Aside0 (w'.heap[gb2]? = some (.cells #[(.slice none 0 0)] 28 (0,0)))∧Aside0 (w'.heap[gb3]? = some (.cells #[u14004000] 28 (0,0)))∧Aside0 (Below w.heap.size w w'))
 case atStart=>exact ⟨(0),(([]:List (S46))),(.slice none 0 0),za9,H',⟨Nat.le_refl _⟩,⟨za12⟩,⟨zpw BK1.out⟩,⟨zpw BK2.out⟩,⟨zpu BK3.out⟩,⟨za5⟩⟩
 case round =>
  clear H'
  try clear hcz7_0
  try clear hfz7_0
  obtain ⟨x4_1,x14004000_1,u14004000,rfl,HA,HK1,HO_14004000,BK1,BK2,BK3,HB⟩:=hrel
  cases gk with
  | zero=>exact absurd HA.out (by simp [spec_l10Copy.l0])
  | succ k1 =>
   have H:=HA.out
   clear HA
   simp only [spec_l10Copy.l0] at H
   by_cases c8:x4_1 < (l0_0.length:Int)
   rw [if_pos c8] at H
   have c8b0:=zdl c8
   clear c8
   by_cases c9:0≤x4_1
   rw [if_pos c9] at H
   have c9b0:=zdle c9
   clear c9
   obtain ⟨⟨t5,t6,t7,t8,t9,t10,t13,t16⟩,A10,H⟩:=zO H
   try dsimp only at H
   by_cases c11:x14004000_1.length < 1172812402961
   ·rw [if_pos c11] at H
    have LMc11:=zk c11
    clear c11
    obtain ⟨y14017,hy14017⟩:∃ y_:List (S46),y_=(x14004000_1 ++ [(⟨t5,t6,t7,(⟨t8,t9,t10⟩:S43),t13,t16⟩:S46)]):=⟨_,rfl⟩
    replace H:(spec_l10Copy.l0 k1 (wrap64 (x4_1+1)) l0_0 y14017)=some r:=by first|(rw [hy14017];with_reducible exact H)|(have H2_:=(Option.bind_some _ _).symm.trans H;rw [hy14017];with_reducible exact H2_)|(have H2_:=(Option.bind_some _ _).symm.trans H;with_reducible exact H2_)|with_reducible exact H|(rw [hy14017];exact H)|exact H
    have Ny17:=zk hy14017
    clear hy14017
    have H':=zk H
    clear H
    have hnb12:=NB1_2.out
    have hnc12:=NB2_1.out
    have hnb13:=NB1_3.out
    have hnc13:=NB3_1.out
    obtain ⟨hcz14_0,hfz14_0⟩:=blk1 BK1.out
    try go_wp2
    replace HO_14004000:=zk (Kd.R_drew HO_14004000.out)
    replace BK1:=zk (blk_drew BK1.out)
    replace BK2:=zk (blk_drew BK2.out)
    replace BK3:=zk (blk_drew BK3.out)
    replace HB:=zk (below_drew1 HB.out)
    have p14004:0≤(x4_1:Int):=of_decide_eq_true za7
    have q14004:x4_1 < (l0_0.length:Int):=of_decide_eq_true za7
    obtain ⟨ad14004,A14004_5,c14004_5,A14004_6,c14004_6,e14004,hx14004_0,hx14004_1,hx14004_2,hx14004_3,hx14004_4,hx14004_5,hx14004_6,hx14004_7,hl14004_5,hi14004_5,hl14004_6,hi14004_6⟩:=at_T46 HR0_0.out x4_1 p14004 q14004
    have hw14004_7:=hx14004_7
    have hw14004_6:=hx14004_6
    have hw14004_5:=hx14004_5
    have hw14004_4:=hx14004_4
    have hw14004_3:=hx14004_3
    have hw14004_2:=hx14004_2
    have hw14004_1:=hx14004_1
    have hw14004_0:=hx14004_0
    cases e14004
    replace hx14004_0:=zx HB.out hx14004_0
    replace hx14004_1:=zx HB.out hx14004_1
    replace hx14004_2:=zx HB.out hx14004_2
    replace hx14004_3:=zx HB.out hx14004_3
    replace hx14004_4:=zx HB.out hx14004_4
    replace hx14004_5:=zx HB.out hx14004_5
    replace hx14004_6:=zx HB.out hx14004_6
    replace hx14004_7:=zx HB.out hx14004_7
    have HR14004_5:=zk hi14004_5
    have HC14004_5:=zk hl14004_5
    clear hi14004_5 hl14004_5
    have HR14004_6:=zk hi14004_6
    have HC14004_6:=zk hl14004_6
    clear hi14004_6 hl14004_6
    replace p14004:=eq_true p14004
    replace q14004:=eq_true q14004
    refine start_ (n:=12) (S:=fun w'=>w'.cell? ⟨gb3,0,none⟩=some (u14004000)∧w'.cell? ⟨gb1,0,none⟩=some (.slice (some ad14004) l0_0.length c0_0)∧w'.cell? (ad14004.add ((x4_1).toNat * 8))=some (.int .i64 ((rd_T46 l0_0 x4_1).f0))∧w'.cell? ⟨(ad14004.add ((x4_1).toNat * 8)).block,(ad14004.add ((x4_1).toNat * 8)).off+1,none⟩=some (.string ((rd_T46 l0_0 x4_1).f1))∧w'.cell? ⟨(ad14004.add ((x4_1).toNat * 8)).block,(ad14004.add ((x4_1).toNat * 8)).off+2,none⟩=some (.string ((rd_T46 l0_0 x4_1).f2))∧w'.cell? ⟨(ad14004.add ((x4_1).toNat * 8)).block,(ad14004.add ((x4_1).toNat * 8)).off+3,none⟩=some (.int .i64 ((rd_T46 l0_0 x4_1).f3.f0))∧w'.cell? ⟨(ad14004.add ((x4_1).toNat * 8)).block,(ad14004.add ((x4_1).toNat * 8)).off+4,none⟩=some (.string ((rd_T46 l0_0 x4_1).f3.f1))∧w'.cell? ⟨(ad14004.add ((x4_1).toNat * 8)).block,(ad14004.add ((x4_1).toNat * 8)).off+5,none⟩=some (.slice A14004_5 ((rd_T46 l0_0 x4_1).f3.f2).length c14004_5)∧w'.cell? ⟨(ad14004.add ((x4_1).toNat * 8)).block,(ad14004.add ((x4_1).toNat * 8)).off+6,none⟩=some (.slice A14004_6 ((rd_T46 l0_0 x4_1).f4).length c14004_6)∧w'.cell? ⟨(ad14004.add ((x4_1).toNat * 8)).block,(ad14004.add ((x4_1).toNat * 8)).off+7,none⟩=some (.int .i64 ((rd_T46 l0_0 x4_1).f5))) (ds:=[11]) #[false,false,false,false,false,false,false,false,false,false,false,false] (by kernel_rfl) rfl rfl ⟨(blk_cell BK3.out 0).trans rfl,(blk_cell BK1.out 0).trans rfl,((HB.out.cell (World.block_lt_of_cell? w _ hw14004_0)).trans hw14004_0),((HB.out.cell (World.block_lt_of_cell? w _ hw14004_1)).trans hw14004_1),((HB.out.cell (World.block_lt_of_cell? w _ hw14004_2)).trans hw14004_2),((HB.out.cell (World.block_lt_of_cell? w _ hw14004_3)).trans hw14004_3),((HB.out.cell (World.block_lt_of_cell? w _ hw14004_4)).trans hw14004_4),((HB.out.cell (World.block_lt_of_cell? w _ hw14004_5)).trans hw14004_5),((HB.out.cell (World.block_lt_of_cell? w _ hw14004_6)).trans hw14004_6),((HB.out.cell (World.block_lt_of_cell? w _ hw14004_7)).trans hw14004_7)⟩ (fun hHeld=>?_);refine with_tabW spec_l10Copy.tab5 spec_l10Copy.bits5 (fun HT_ HW_=>?_)
    generalize wr.drew=w15 at HO_14004000 BK1 BK2 BK3 HB HR14004_5 HR14004_6 hx14004_0 hx14004_1 hx14004_2 hx14004_3 hx14004_4 hx14004_5 hx14004_6 hx14004_7 hHeld ⊢
    refine zy 0 (some 13) HT_.out ?_
    refine zy 2 (some 15) HT_.out ?_
    refine zy 4 (some 17) HT_.out ?_
    refine ztk 1 (some 14) HT_.out HW_.out hHeld ?_
    refine ztk 3 (some 16) HT_.out HW_.out hHeld ?_
    refine zy 5 (some 18) HT_.out ?_
    refine ztk 6 (some 19) HT_.out HW_.out hHeld ?_
    refine zon 7 (some 20) HT_.out (fun K hK=>?_)
    refine goes_ Try.func25 (by kernel_rfl) rfl #[.agg #[.int .i64 ((rd_T46 l0_0 x4_1).f0),.string ((rd_T46 l0_0 x4_1).f1),.string ((rd_T46 l0_0 x4_1).f2),.int .i64 ((rd_T46 l0_0 x4_1).f3.f0),.string ((rd_T46 l0_0 x4_1).f3.f1),.slice A14004_5 ((rd_T46 l0_0 x4_1).f3.f2).length c14004_5,.slice A14004_6 ((rd_T46 l0_0 x4_1).f4).length c14004_6,.int .i64 ((rd_T46 l0_0 x4_1).f5)]] (by rfl) rfl rfl za6 ?_
    with_reducible refine (spec_l9Copy.calls k1 ((rd_T46 l0_0 x4_1).f0) ((rd_T46 l0_0 x4_1).f1) ((rd_T46 l0_0 x4_1).f2) ((rd_T46 l0_0 x4_1).f3.f0) ((rd_T46 l0_0 x4_1).f3.f1) _ _ ((rd_T46 l0_0 x4_1).f3.f2) _ _ ((rd_T46 l0_0 x4_1).f4) ((rd_T46 l0_0 x4_1).f5) t5 t6 t7 t8 t9 t10 t13 t16 _ ?side1 ?side2 ?side3 ?side4 A10.out).mono ?_
    (case side1=>repeat (first|exact (Kd.C_below HR14004_5.out HB.out)|(with_reducible refine Kd.C_alloc ?_ _)|(with_reducible refine Kd.C_drewN ?_ _)|(with_reducible refine Kd.C_drew ?_)))
    (case side2=>exact HC14004_5.out)
    (case side3=>repeat (first|exact (Kd.C_below HR14004_6.out HB.out)|(with_reducible refine Kd.C_alloc ?_ _)|(with_reducible refine Kd.C_drewN ?_ _)|(with_reducible refine Kd.C_drew ?_)))
    (case side4=>exact HC14004_6.out)
    rintro e w16 ⟨v11,v14,rfl,ho0,ho1,hb⟩
    refine ⟨_,rfl,?_⟩
    replace HO_14004000:=zk (Kd.R_mono (Kd.R_told (Kd.R_told (Kd.R_old (za2 HO_14004000.out) hb) (Kd.R_base ho0)) (Kd.R_base ho1)) (fun _ h_=>h_.1))
    have HO12:=zk (Kd.R_lower ho0 (below_size za5))
    have HO15:=zk (Kd.R_lower ho1 (below_size za5))
    replace BK1:=yb BK1 hb
    replace BK2:=yb BK2 hb
    replace BK3:=yb BK3 hb
    replace HB:=yB HB hb
    (try clear hb)
    (try clear hb2)
    (try clear hk)
    (try clear hi)
    (try clear ho0)
    (try clear ho1)
    obtain ⟨Ao18,co18,eo18⟩:=Kd.R_slice HO12.out
    (first|subst eo18|(injection eo18 with f1_ f2_ f3_;have f4_:=f1_.symm;have f5_:=f3_.symm;clear f1_ f2_ f3_;subst f4_;subst f5_))
    obtain ⟨Ao19,co19,eo19⟩:=Kd.R_slice HO15.out
    (first|subst eo19|(injection eo19 with f1_ f2_ f3_;have f4_:=f1_.symm;have f5_:=f3_.symm;clear f1_ f2_ f3_;subst f4_;subst f5_))
    refine hK.out _ _ ⟨(blk_cell BK3.out 0).trans rfl,(blk_cell BK1.out 0).trans rfl,((HB.out.cell (World.block_lt_of_cell? w _ hw14004_0)).trans hw14004_0),((HB.out.cell (World.block_lt_of_cell? w _ hw14004_1)).trans hw14004_1),((HB.out.cell (World.block_lt_of_cell? w _ hw14004_2)).trans hw14004_2),((HB.out.cell (World.block_lt_of_cell? w _ hw14004_3)).trans hw14004_3),((HB.out.cell (World.block_lt_of_cell? w _ hw14004_4)).trans hw14004_4),((HB.out.cell (World.block_lt_of_cell? w _ hw14004_5)).trans hw14004_5),((HB.out.cell (World.block_lt_of_cell? w _ hw14004_6)).trans hw14004_6),((HB.out.cell (World.block_lt_of_cell? w _ hw14004_7)).trans hw14004_7)⟩ (fun hHeld=>?_)
    clear hK K
    refine zno (some 20) ?_
    refine zon 8 (some 21) HT_.out (fun K hK=>?_)
    refine value_ (w1:=?_) (v:=?_) (by rfl) rfl ?_ ?_
    rotate_left 2
    ·go_simp
     constructor
     ·rfl
     ·rfl
    refine hK.out _ _ ⟨(blk_cell (blk_alloc BK3.out _) 0).trans rfl,(blk_cell (blk_alloc BK1.out _) 0).trans rfl,(World.cell?_alloc_lt _ _ _ (World.block_lt_of_cell? _ _ (((HB.out.cell (World.block_lt_of_cell? w _ hw14004_0)).trans hw14004_0)))).trans (((HB.out.cell (World.block_lt_of_cell? w _ hw14004_0)).trans hw14004_0)),(World.cell?_alloc_lt _ _ _ (World.block_lt_of_cell? _ _ (((HB.out.cell (World.block_lt_of_cell? w _ hw14004_1)).trans hw14004_1)))).trans (((HB.out.cell (World.block_lt_of_cell? w _ hw14004_1)).trans hw14004_1)),(World.cell?_alloc_lt _ _ _ (World.block_lt_of_cell? _ _ (((HB.out.cell (World.block_lt_of_cell? w _ hw14004_2)).trans hw14004_2)))).trans (((HB.out.cell (World.block_lt_of_cell? w _ hw14004_2)).trans hw14004_2)),(World.cell?_alloc_lt _ _ _ (World.block_lt_of_cell? _ _ (((HB.out.cell (World.block_lt_of_cell? w _ hw14004_3)).trans hw14004_3)))).trans (((HB.out.cell (World.block_lt_of_cell? w _ hw14004_3)).trans hw14004_3)),(World.cell?_alloc_lt _ _ _ (World.block_lt_of_cell? _ _ (((HB.out.cell (World.block_lt_of_cell? w _ hw14004_4)).trans hw14004_4)))).trans (((HB.out.cell (World.block_lt_of_cell? w _ hw14004_4)).trans hw14004_4)),(World.cell?_alloc_lt _ _ _ (World.block_lt_of_cell? _ _ (((HB.out.cell (World.block_lt_of_cell? w _ hw14004_5)).trans hw14004_5)))).trans (((HB.out.cell (World.block_lt_of_cell? w _ hw14004_5)).trans hw14004_5)),(World.cell?_alloc_lt _ _ _ (World.block_lt_of_cell? _ _ (((HB.out.cell (World.block_lt_of_cell? w _ hw14004_6)).trans hw14004_6)))).trans (((HB.out.cell (World.block_lt_of_cell? w _ hw14004_6)).trans hw14004_6)),(World.cell?_alloc_lt _ _ _ (World.block_lt_of_cell? _ _ (((HB.out.cell (World.block_lt_of_cell? w _ hw14004_7)).trans hw14004_7)))).trans (((HB.out.cell (World.block_lt_of_cell? w _ hw14004_7)).trans hw14004_7))⟩ (fun hHeld=>?_)
    clear hK K
    refine zno (some 21) ?_
    refine zon 9 (some 22) HT_.out (fun K hK=>?_)
    refine Kd.R_append_step k46 (w0:=w) w.heap.size (by rfl) (.tmp 14) (.tmp 21) 26 46 (.agg #[(.int .i64 0),(.string ⟨#[]⟩),(.string ⟨#[]⟩),(.int .i64 0),(.string ⟨#[]⟩),(.slice none 0 0),(.slice none 0 0),(.int .i64 0)]) 120 rfl Try.underlying26 info46 rfl (by decide) (by omega) u14004000 x14004000_1 (⟨t5,t6,t7,(⟨t8,t9,t10⟩:S43),t13,t16⟩:S46) [.int .i64 t5,.string t6,.string t7,.int .i64 t8,.string t9,.slice Ao18 t10.length co18,.slice Ao19 t13.length co19,.int .i64 t16] (fun _=>True) (fun k_=>((fun _=>True)) k_∧some k_ ≠ (u14004000:Value).ownBlock) rfl rfl ?aP (fun _ hk=>hk) ?aF ?aO ?aB ?aS ?aL ?_
    (case aP=>exact k46_mkM _ _ _ (⟨t5,t6,t7,(⟨t8,t9,t10⟩:S43),t13,t16⟩:S46) (Kd.R_mono (Kd.R_apart' (HO12.out) (Kd.R_typed HO_14004000.out) (by decide)) (fun k_ hk=>⟨trivial,hk.2⟩)) (Kd.R_mono (Kd.R_apart' (HO15.out) (Kd.R_typed HO_14004000.out) (by decide)) (fun k_ hk=>⟨trivial,hk.2⟩)))
    (case aB=>exact za5)
    (case aF=>exact (fun _ _=>trivial))
    (case aO=>exact (by (with_reducible repeat (first|apply Kd.R_alloc|apply Kd.R_drewN|apply Kd.R_drew));exact Kd.R_mono HO_14004000.out (fun _ hk=>trivial)))
    (case aS=>exact (below_size za5))
    (case aL=>have:=LMc11.out;omega)
    intro v18 w17 ho hb hg hat
    rw [← Ny17.out] at ho
    replace BK1:=zk (blk_grown (g:=gb1) (o:=.cells #[.slice (some ad14004) l0_0.length c0_0] 28 (0,0)) (za0 BK1.out) hg (Kd.R_ne HO_14004000.out BK1.out (by decide)))
    replace BK2:=zk (blk_grown (g:=gb2) (o:=.cells #[.slice none 0 0] 28 (0,0)) (za0 BK2.out) hg (Kd.R_ne HO_14004000.out BK2.out (by decide)))
    replace BK3:=zk (blk_grown (g:=gb3) (o:=.cells #[u14004000] 28 (0,0)) (za0 BK3.out) hg (Kd.R_ne HO_14004000.out BK3.out (by decide)))
    replace HB:=zk hb
    have HO19:=zk ho
    clear HO_14004000
    clear HO12
    clear HO15
    clear ho hb hg hat
    obtain ⟨Ao20,co20,eo20⟩:=Kd.R_slice HO19.out
    (first|subst eo20|(injection eo20 with f1_ f2_ f3_;have f4_:=f1_.symm;have f5_:=f3_.symm;clear f1_ f2_ f3_;subst f4_;subst f5_))
    refine hK.out _ _ ⟨(blk_cell BK3.out 0).trans rfl,(blk_cell BK1.out 0).trans rfl,((HB.out.cell (World.block_lt_of_cell? w _ hw14004_0)).trans hw14004_0),((HB.out.cell (World.block_lt_of_cell? w _ hw14004_1)).trans hw14004_1),((HB.out.cell (World.block_lt_of_cell? w _ hw14004_2)).trans hw14004_2),((HB.out.cell (World.block_lt_of_cell? w _ hw14004_3)).trans hw14004_3),((HB.out.cell (World.block_lt_of_cell? w _ hw14004_4)).trans hw14004_4),((HB.out.cell (World.block_lt_of_cell? w _ hw14004_5)).trans hw14004_5),((HB.out.cell (World.block_lt_of_cell? w _ hw14004_6)).trans hw14004_6),((HB.out.cell (World.block_lt_of_cell? w _ hw14004_7)).trans hw14004_7)⟩ (fun hHeld=>?_)
    clear hK K
    refine zno (some 22) ?_
    refine zy 10 (some 23) HT_.out ?_
    refine last_ (i:=11) (N:=none) #[true,true,true,true,true,true,true,true,true,true,true,true] rfl rfl (one_of HT_.out (by kernel_rfl)) (by decide) (fun K hK=>?_)
    have hs21:w17.cell? ⟨gb3,0,none⟩=some (u14004000):=(blk_cell BK3.out 0).trans rfl
    have hfs21:=blk_frozen BK3.out 0
    have hns21_0:=NB1_3.out
    have hns21_1:=NB2_3.out
    have hms21_0:=NB3_1.out
    have hms21_1:=NB3_2.out
    refine skip_ (w1:=?_) (by rfl) rfl ?_ ?_
    rotate_left
    ·go_simp
     rfl
    refine hK.out _ _ ?_
    clear hK K
    refine done_ (done_of HT_.out (by kernel_rfl)) ?_
    try go_wp2
    go_roundg k1
    case measure=>have:=HK1.out;omega
    case rel=>exact ⟨(wrap64 (x4_1+1)),(y14017),(.slice Ao20 y14017.length co20),za9,H',⟨za11⟩,⟨by (with_reducible repeat (first|apply Kd.R_alloc|apply Kd.R_drewN|apply Kd.R_drew));exact Kd.R_mono (zfR (Kd.R_types HO19.out BK3.out (by decide))) (fun _ hk=>trivial)⟩,⟨zpw BK1.out⟩,⟨zpw BK2.out⟩,⟨zpu BK3.out⟩,⟨za5⟩⟩
   ·rw [if_neg c11] at H
    exact absurd H (by simp)
   ·rw [if_neg c9] at H
    exact absurd H (by simp)
   ·rw [if_neg c8] at H
    have c8b0:=zdnl c8
    clear c8
    obtain rfl:=zi H
    have hnb22:=NB1_2.out
    have hnc22:=NB2_1.out
    have hnb23:=NB1_3.out
    have hnc23:=NB3_1.out
    obtain ⟨hcz24_0,hfz24_0⟩:=blk1 BK1.out
    have hnb25:=NB3_2.out
    have hnc25:=NB2_3.out
    obtain ⟨hcz26_0,hfz26_0⟩:=blk1 BK3.out
    obtain ⟨Ao27,co27,eo27⟩:=Kd.R_slice HO_14004000.out
    subst eo27
    obtain ⟨hcz28_0,hfz28_0⟩:=blk1 BK2.out
    go_wp2
    refine bodyPost_ret (results_cell_row rfl _ _ gb2 28 #[.slice Ao27 x14004000_1.length co27] (0,0) _ rfl (zpu BK2.out) Try.underlying28 rfl (by kernel_rfl)) rfl ?_
    exact ⟨_,za8,by (with_reducible repeat (first|apply Kd.R_alloc|apply Kd.R_drewN|apply Kd.R_drew));exact Kd.R_mono (zfR (Kd.R_types HO_14004000.out BK2.out (by decide))) (fun _ hk=>trivial),za5⟩
def spec_WithoutConstraint.f (k:Nat) (l0_0:List (S46)) (a1:Int):Option ((List (S46)) × Bool):=(spec_IsValidProblem.f k l0_0).bind fun t5003=>(if t5003=true then ((spec_l1In.f a1 0 (wrap64 ((l0_0.length:Int) - 1))).bind fun t5004=>(if t5004=true then ((spec_l10Copy.f k l0_0).bind fun t5005=>((some (([]:List (S46)):List (S46))).bind fun y5009=>(if 0≤a1 then (if a1≤(t5005.length:Int) then ((some (t5005.take (a1:Int).toNat:List (S46))).bind fun y5012=>(if y5009.length+y5012.length < 1172812402961 then ((some (y5009 ++ y5012:List (S46))).bind fun y5017=>(if 0≤(wrap64 (a1+1)) then (if (wrap64 (a1+1))≤(t5005.length:Int) then ((some (t5005.drop ((wrap64 (a1+1)):Int).toNat:List (S46))).bind fun y5020=>(if y5017.length+y5020.length < 1172812402961 then (some ((y5017 ++ y5020),true)) else (none))) else (none)) else (none))) else (none))) else (none)) else (none)))) else (some (([]:List (S46)),false)))) else (some (([]:List (S46)),false)))
def spec_WithoutConstraint.T4:Bool × List (List Nat × List Nat):=(true,[([],[]),([],[]),([1],[1]),([],[]),([2,3],[2,3]),([0,4],[0,4]),([],[]),([6],[6]),([],[]),([8],[8]),([7,9],[7,9]),([5,10,5],[5,10]),([0,1,2,3,4,5,6,7,8,9,10,11],[]),([12,11,11,0,1,2,3,4,5,6,7,8,9,10,11],[11,12])])
def spec_WithoutConstraint.B4:List Nat:=[0,0,2,0,14,31,0,64,0,256,960,2047,4095,8191]
theorem spec_WithoutConstraint.tab4:rtab .any (opsOf Try.f5 4)=spec_WithoutConstraint.T4:=by kernel_rfl
theorem spec_WithoutConstraint.bits4:waitsOk spec_WithoutConstraint.T4.2 spec_WithoutConstraint.B4=true:=by kernel_rfl
theorem spec_WithoutConstraint.calls (k:Nat) (A0_0:Option Addr) (c0_0:Nat) (l0_0:List (S46)) (a1:Int) (r1:List (S46)) (r2:Bool) (w:World) (hr0_0:Kd.C k46 w A0_0 l0_0.length l0_0) (hc0_0:l0_0.length≤c0_0) (h:spec_WithoutConstraint.f k l0_0 a1=some (r1,r2)) :
  Calls Try.prog 5 #[.agg #[.slice A0_0 l0_0.length c0_0],.int .i64 a1] w fun e w'=>∃ v0_:Value,e = .returned (.tuple #[.agg #[v0_],.bool r2])∧Kd.N k46 46 w' w.heap.size (fun k_=>(w.heap.size≤k_)) v0_ r1∧Below w.heap.size w w':=by
 have hu28:=Try.underlying28
 have HR0_0:=zk hr0_0
 have HC0_0:=zk hc0_0
 clear hr0_0 hc0_0
 have HB:=zk (Below.refl w.heap.size w)
 have H:=h
 unfold spec_WithoutConstraint.f at H
 clear h
 obtain ⟨t3,A3,H⟩:=zO H
 try dsimp only at H
 by_cases c4:t3=true
 subst c4
 rw [if_pos rfl] at H
 try dsimp only at H
 obtain ⟨t4,A5,H⟩:=zO H
 try dsimp only at H
 by_cases c6:t4=true
 subst c6
 rw [if_pos rfl] at H
 try dsimp only at H
 obtain ⟨t5,A7,H⟩:=zO H
 try dsimp only at H
 obtain ⟨y5009,hy5009⟩:∃ y_:List (S46),y_=(([]:List (S46))):=⟨_,rfl⟩
 replace H:(if 0≤a1 then (if a1≤(t5.length:Int) then ((some (t5.take (a1:Int).toNat:List (S46))).bind fun y5012=>(if y5009.length+y5012.length < 1172812402961 then ((some (y5009 ++ y5012:List (S46))).bind fun y5017=>(if 0≤(wrap64 (a1+1)) then (if (wrap64 (a1+1))≤(t5.length:Int) then ((some (t5.drop ((wrap64 (a1+1)):Int).toNat:List (S46))).bind fun y5020=>(if y5017.length+y5020.length < 1172812402961 then (some ((y5017 ++ y5020),true)) else (none))) else (none)) else (none))) else (none))) else (none)) else (none))=some (r1,r2):=by first|(rw [hy5009];with_reducible exact H)|(have H2_:=(Option.bind_some _ _).symm.trans H;rw [hy5009];with_reducible exact H2_)|(have H2_:=(Option.bind_some _ _).symm.trans H;with_reducible exact H2_)|with_reducible exact H|(rw [hy5009];exact H)|exact H
 have Ny9:=zk hy5009
 clear hy5009
 by_cases c8:0≤a1
 rw [if_pos c8] at H
 have c8b0:=eq_true c8
 have c8b1:=zdle c8
 clear c8
 by_cases c9:a1≤(t5.length:Int)
 rw [if_pos c9] at H
 have c9b0:=eq_true c9
 have c9b1:=zdle c9
 clear c9
 obtain ⟨y5012,hy5012⟩:∃ y_:List (S46),y_=(t5.take (a1:Int).toNat):=⟨_,rfl⟩
 replace H:(if y5009.length+y5012.length < 1172812402961 then ((some (y5009 ++ y5012:List (S46))).bind fun y5017=>(if 0≤(wrap64 (a1+1)) then (if (wrap64 (a1+1))≤(t5.length:Int) then ((some (t5.drop ((wrap64 (a1+1)):Int).toNat:List (S46))).bind fun y5020=>(if y5017.length+y5020.length < 1172812402961 then (some ((y5017 ++ y5020),true)) else (none))) else (none)) else (none))) else (none))=some (r1,r2):=by first|(rw [hy5012];with_reducible exact H)|(have H2_:=(Option.bind_some _ _).symm.trans H;rw [hy5012];with_reducible exact H2_)|(have H2_:=(Option.bind_some _ _).symm.trans H;with_reducible exact H2_)|with_reducible exact H|(rw [hy5012];exact H)|exact H
 have Ny12:=zk hy5012
 clear hy5012
 by_cases c10:y5009.length+y5012.length < 1172812402961
 rw [if_pos c10] at H
 have LMc10:=zk c10
 clear c10
 obtain ⟨y5017,hy5017⟩:∃ y_:List (S46),y_=(y5009 ++ y5012):=⟨_,rfl⟩
 replace H:(if 0≤(wrap64 (a1+1)) then (if (wrap64 (a1+1))≤(t5.length:Int) then ((some (t5.drop ((wrap64 (a1+1)):Int).toNat:List (S46))).bind fun y5020=>(if y5017.length+y5020.length < 1172812402961 then (some ((y5017 ++ y5020),true)) else (none))) else (none)) else (none))=some (r1,r2):=by first|(rw [hy5017];with_reducible exact H)|(have H2_:=(Option.bind_some _ _).symm.trans H;rw [hy5017];with_reducible exact H2_)|(have H2_:=(Option.bind_some _ _).symm.trans H;with_reducible exact H2_)|with_reducible exact H|(rw [hy5017];exact H)|exact H
 have Ny17:=zk hy5017
 clear hy5017
 obtain ⟨ji11,hji11⟩:∃ j_:Int,(wrap64 (a1+1))=j_:=⟨_,rfl⟩
 replace H:(if 0≤(ji11) then (if (ji11)≤(t5.length:Int) then ((some (t5.drop ((ji11):Int).toNat:List (S46))).bind fun y5020=>(if y5017.length+y5020.length < 1172812402961 then (some ((y5017 ++ y5020),true)) else (none))) else (none)) else (none))=some (r1,r2):=by first|(rw [hji11] at H;exact H)|(simp only [hji11] at H ⊢;exact H)
 (try rw [hji11] at A3)
 (try rw [hji11] at A5)
 (try rw [hji11] at A7)
 have hji11w:(IntKind.i64.wrap (a1+1))=ji11:=(i64_w _).trans hji11
 by_cases c12:0≤(ji11)
 rw [if_pos c12] at H
 have c12b0:=eq_true c12
 have c12b1:=zdle c12
 clear c12
 by_cases c13:(ji11)≤(t5.length:Int)
 rw [if_pos c13] at H
 have c13b0:=eq_true c13
 have c13b1:=zdle c13
 clear c13
 obtain ⟨y5020,hy5020⟩:∃ y_:List (S46),y_=(t5.drop ((ji11):Int).toNat):=⟨_,rfl⟩
 replace H:(if y5017.length+y5020.length < 1172812402961 then (some ((y5017 ++ y5020),true)) else (none))=some (r1,r2):=by first|(rw [hy5020];with_reducible exact H)|(have H2_:=(Option.bind_some _ _).symm.trans H;rw [hy5020];with_reducible exact H2_)|(have H2_:=(Option.bind_some _ _).symm.trans H;with_reducible exact H2_)|with_reducible exact H|(rw [hy5020];exact H)|exact H
 have Ny20:=zk hy5020
 clear hy5020
 by_cases c14:y5017.length+y5020.length < 1172812402961
 ·rw [if_pos c14] at H
  have LMc14:=zk c14
  clear c14
  obtain ⟨y5025,hy5025⟩:∃ y_:List (S46),y_=(y5017 ++ y5020):=⟨_,rfl⟩
  replace H:(some (y5025,true))=some (r1,r2):=by first|(rw [hy5025];with_reducible exact H)|(have H2_:=(Option.bind_some _ _).symm.trans H;rw [hy5025];with_reducible exact H2_)|(have H2_:=(Option.bind_some _ _).symm.trans H;with_reducible exact H2_)|with_reducible exact H|(rw [hy5025];exact H)|exact H
  have Ny25:=zk hy5025
  clear hy5025
  simp only [Option.some.injEq,Prod.mk.injEq] at H
  obtain ⟨rfl,rfl⟩:=H
  go_enter Try.func5,Try.ntmps5
  try go_wp2_with (first|((with_reducible refine gate_dst (N:=2) rfl ?_);(try (refine gate_guard (by rfl) ?_;dsimp only));refine zE (cs:=#[.slice A0_0 l0_0.length c0_0]) (t:=28) ?_;intro gb1 hg w15 hbox hb;have BK1:=zk hbox;have GW1:=zk (zs (w:=w) hg za5);have GE1:=GW1;replace HB:=yB HB hb;clear hb hbox hg)|((with_reducible refine gate_dst (N:=4) rfl ?_);(try (refine gate_guard (by rfl) ?_;dsimp only));refine zE (cs:=#[.slice none 0 0]) (t:=28) ?_;intro gb2 hg w16 hbox hb;have BK2:=zk hbox;have GW2:=zk (zs (w:=w) hg za5);have GE2:=GW2;have NB1_2:=yn hg BK1;have NB2_1:=yp hg BK1;replace BK1:=yb BK1 hb;replace HB:=yB HB hb;clear hb hbox hg;have hnb17:=NB1_2.out;have hnc17:=NB2_1.out;obtain ⟨hcz18_0,hfz18_0⟩:=blk1 BK1.out)|((with_reducible refine gate_callee (f:=12) rfl ?_);refine zg (some 8) Try.func12 #[.agg #[.slice A0_0 l0_0.length c0_0]] rfl za6 ?_;(with_reducible refine (spec_IsValidProblem.calls k _ _ l0_0 _ _ ?side1 ?side2 A3.out).mono ?_);(case side1=>repeat (first|exact (Kd.C_below HR0_0.out HB.out)|(with_reducible refine Kd.C_alloc ?_ _)|(with_reducible refine Kd.C_drewN ?_ _)|(with_reducible refine Kd.C_drew ?_)));(case side2=>exact HC0_0.out);rintro e w19 ⟨rfl,hb⟩;refine ⟨_,rfl,?_⟩;replace BK1:=yb BK1 hb;replace BK2:=yb BK2 hb;replace HB:=yB HB hb;(try clear hb);obtain ⟨hcz20_0,hfz20_0⟩:=blk1 BK1.out)|(go_at_call 13;(with_reducible refine (spec_l1In.calls a1 0 (wrap64 ((l0_0.length:Int) - 1)) _ _ A5.out).mono ?_);rintro e w' ⟨rfl,⟨nd,rfl⟩⟩;(try (rw [drewN_self w19];generalize hq_:World.drewN w19 _=w19;have n0_:Aside0 (w19.heap[gb1]? = some (.cells #[.slice A0_0 l0_0.length c0_0] 28 (0,0))):=⟨by rw [← hq_];exact (za0 BK1.out)⟩;have n1_:Aside0 (w19.heap[gb2]? = some (.cells #[.slice none 0 0] 28 (0,0))):=⟨by rw [← hq_];exact (za0 BK2.out)⟩;have n2_:Aside0 (Below w.heap.size w w19):=⟨by rw [← hq_];exact za5⟩;clear BK1 BK2 HB hq_;have BK1:=n0_;have BK2:=n1_;have HB:=n2_;clear n0_ n1_ n2_));(try (obtain ⟨hczr5001_,hfzr5001_⟩:=blk1 BK1.out));(try (obtain ⟨hczr5002_,hfzr5002_⟩:=blk1 BK2.out)))|((with_reducible refine gate_callee (f:=14) rfl ?_);refine zg (some 21) Try.func14 #[.agg #[.slice A0_0 l0_0.length c0_0]] rfl za6 ?_;(with_reducible refine (spec_l10Copy.calls k _ _ l0_0 t5 _ ?side1 ?side2 A7.out).mono ?_);(case side1=>repeat (first|exact (Kd.C_below HR0_0.out HB.out)|(with_reducible refine Kd.C_alloc ?_ _)|(with_reducible refine Kd.C_drewN ?_ _)|(with_reducible refine Kd.C_drew ?_)));(case side2=>exact HC0_0.out);rintro e w21 ⟨v6,rfl,ho0,hb⟩;refine ⟨_,rfl,?_⟩;have HO7:=zk (Kd.N_lower (Kd.N_mono (ok':=fun k_=>(w.heap.size≤k_)∧k_ ≠ gb1∧k_ ≠ gb2) (Kd.R_N (Kd.R_bound ho0)) (fun k_ hk_=>⟨(Nat.le_trans (below_size za5) hk_.2.1),(zF BK1.out k_ hk_.2.1),(zF BK2.out k_ hk_.2.1)⟩)) (below_size za5));replace BK1:=yb BK1 hb;replace BK2:=yb BK2 hb;replace HB:=yB HB hb;(try clear hb ho0))|((with_reducible refine gate_dst (N:=6) rfl ?_);(try (refine gate_guard (by rfl) ?_;dsimp only));refine zE (cs:=#[.slice none 0 0]) (t:=28) ?_;intro gb8 hg w22 hbox hb;replace HO7:=zk (Kd.N_below (Kd.N_elderB (za3 HO7.out) gb8 (Nat.le_of_eq hg.symm)) hb);have BK8:=zk hbox;have GW8:=zk (zs (w:=w) hg za5);have GE8:=GW8;have NB1_8:=yn hg BK1;have NB8_1:=yp hg BK1;have NB2_8:=yn hg BK2;have NB8_2:=yp hg BK2;replace BK1:=yb BK1 hb;replace BK2:=yb BK2 hb;replace HB:=yB HB hb;clear hb hbox hg;obtain ⟨Ao23,co23,eo23⟩:=Kd.N_slice HO7.out;subst eo23;have hnb24:=NB8_1.out;have hnc24:=NB1_8.out;have hnb25:=NB8_2.out;have hnc25:=NB2_8.out;obtain ⟨hcz26_0,hfz26_0⟩:=blk1 BK8.out))
  have n0_:Aside0 (Kd.N k46 46 (w22.setCell ⟨gb8,0,none⟩ (.slice Ao23 t5.length co23)) w.heap.size (fun k_=>(w.heap.size≤k_)∧k_ ≠ gb1∧k_ ≠ gb2∧k_ ≠ gb8) (.slice Ao23 t5.length co23) t5):=⟨by (with_reducible repeat (first|apply Kd.N_alloc|apply Kd.N_drewN|apply Kd.N_drew));exact Kd.N_mono (zfN (Kd.N_mono HO7.out (fun k_ hk=>(⟨hk,hk.2⟩:_∧k_ ≠ gb8)))) (fun _ hk=>⟨hk.1.1.1,⟨hk.1.1.2.1,⟨hk.1.1.2.2,hk.1.2⟩⟩⟩)⟩
  have n1_:Aside0 ((w22.setCell ⟨gb8,0,none⟩ (.slice Ao23 t5.length co23)).heap[gb1]? = some (.cells #[.slice A0_0 l0_0.length c0_0] 28 (0,0))):=⟨zpw BK1.out⟩
  have n2_:Aside0 ((w22.setCell ⟨gb8,0,none⟩ (.slice Ao23 t5.length co23)).heap[gb2]? = some (.cells #[.slice none 0 0] 28 (0,0))):=⟨zpw BK2.out⟩
  have n3_:Aside0 ((w22.setCell ⟨gb8,0,none⟩ (.slice Ao23 t5.length co23)).heap[gb8]? = some (.cells #[.slice Ao23 t5.length co23] 28 (0,0))):=⟨zpu BK8.out⟩
  have n4_:Aside0 (Below w.heap.size w (w22.setCell ⟨gb8,0,none⟩ (.slice Ao23 t5.length co23))):=⟨za5⟩
  (try clear HO7)
  (try clear BK1)
  (try clear BK2)
  (try clear BK8)
  (try clear HB)
  generalize (w22.setCell ⟨gb8,0,none⟩ (.slice Ao23 t5.length co23))=w27 at n0_ n1_ n2_ n3_ n4_ ⊢
  have HO7:=n0_
  have BK1:=n1_
  have BK2:=n2_
  have BK8:=n3_
  have HB:=n4_
  clear n0_ n1_ n2_ n3_ n4_
  replace HO7:=zk (Kd.N_drew HO7.out)
  replace BK1:=zk (blk_drew BK1.out)
  replace BK2:=zk (blk_drew BK2.out)
  replace BK8:=zk (blk_drew BK8.out)
  replace HB:=zk (below_drew1 HB.out)
  have q29:(a1:Int)≤((t5.length:Int):Int):=of_decide_eq_true za7
  obtain ⟨i029,hi029,_,hsz29,_⟩:=info_parts info46
  have hroom29:t5.length≤co23:=(Kd.N_reads' HO7.out).2.1
  have hC29:Kd.F k46 _ _ Ao23 t5.length t5:=(Kd.V_at (base:=w.heap.size) (Kd.N_V HO7.out)).2.2
  have hcut29:=cut_to (P:=Try.prog) 26 46 .i64 Try.underlying26 hi029 Ao23 t5.length co23 a1 (of_decide_eq_true za7) q29 hroom29
  have hr29:=Kd.F_take (m:=(a1:Int).toNat) hC29 (by omega)
  have hy29:y5012.length=(a1:Int).toNat:=(by rw [Ny12.out,List.length_take];omega)
  rw [← Ny12.out] at hr29
  rw [← hy29] at hcut29
  have HO16:=zk (show Kd.V k46 46 _ w.heap.size _ (.slice Ao23 y5012.length co23) y5012 from Kd.V_mk (by omega) hr29)
  have HC5016:=zk (show y5012.length≤co23 from by omega)
  clear hr29 hC29 hroom29 hi029 hsz29
  have KY29:=zk hy29
  clear hy29
  replace q29:=eq_true q29
  have q30:((ji11):Int)≤((t5.length:Int):Int):=of_decide_eq_true za7
  obtain ⟨i030,hi030,_,hsz30,_⟩:=info_parts info46
  have hroom30:t5.length≤co23:=(Kd.N_reads' HO7.out).2.1
  have hC30:Kd.F k46 _ _ Ao23 t5.length t5:=(Kd.V_at (base:=w.heap.size) (Kd.N_V HO7.out)).2.2
  have q030:(0:Int)≤((ji11):Int):=of_decide_eq_true za7
  have hcut30:=cut_from (P:=Try.prog) 26 46 .i64 Try.underlying26 hi030 8 hsz30 Ao23 t5.length co23 (ji11) q030 q30
  have hr30:=Kd.F_cut (m:=((ji11):Int).toNat) (c:=co23) hC30 (by omega) hroom30
  obtain ⟨A30,hA30⟩:∃ A1,A1=(if co23=((ji11):Int).toNat then Ao23 else (Ao23:Option Addr).map (·.add (((ji11):Int).toNat * 8))):=⟨_,rfl⟩
  obtain ⟨c30,hc30⟩:∃ c1,c1=co23 - ((ji11):Int).toNat:=⟨_,rfl⟩
  have hy30:y5020.length=t5.length - ((ji11):Int).toNat:=(by rw [Ny20.out,List.length_drop] <;> omega)
  rw [show (t5).drop ((ji11):Int).toNat=y5020 from Ny20.out.symm] at hr30
  replace hr30:Kd.F k46 _ _ A30 y5020.length y5020:=(by rw [hA30];exact hr30)
  rw [← hy30,← hA30,← hc30] at hcut30
  have HO24:=zk (show Kd.V k46 46 _ w.heap.size _ (.slice A30 y5020.length c30) y5020 from Kd.V_mk (by rw [hy30,hc30];exact Nat.sub_le_sub_right hroom30 _) hr30)
  have HC5024:=zk (show y5020.length≤c30 from by rw [hy30,hc30];exact Nat.sub_le_sub_right hroom30 _)
  clear hr30 hC30 hroom30 hi030 hsz30 hc30
  have KY30:=zk hy30
  have KA30:=zk hA30
  clear hy30 hA30
  replace q30:=eq_true q30
  refine start_ (n:=14) (S:=fun w'=>w'.cell? ⟨gb8,0,none⟩=some (.slice Ao23 t5.length co23)) (ds:=[13]) #[false,false,false,false,false,false,false,false,false,false,false,false,false,false] (by kernel_rfl) rfl rfl ((blk_cell BK8.out 0).trans rfl) (fun hHeld=>?_);refine with_tabW spec_WithoutConstraint.tab4 spec_WithoutConstraint.bits4 (fun HT_ HW_=>?_)
  generalize w27.drew=w28 at HO7 BK1 BK2 BK8 HB HO16 HO24 hHeld ⊢
  refine zy 1 (some 23) HT_.out ?_
  refine zy 3 (some 25) HT_.out ?_
  refine zy 6 (some 28) HT_.out ?_
  refine zy 8 (some 30) HT_.out ?_
  refine zy 9 (some 31) HT_.out ?_
  refine ztk 2 (some 24) HT_.out HW_.out hHeld ?_
  refine zy 4 (some 26) HT_.out ?_
  refine ztk 7 (some 29) HT_.out HW_.out hHeld ?_
  refine zy 10 (some 32) HT_.out ?_
  refine zon 0 (some 22) HT_.out (fun K hK=>?_)
  refine Kd.N_lit_step k46 _ 46 ?hg (N':=22) ?hd (xs:=([]:List (S46))) (inner:=[]) (ok:=(fun k_=>(w.heap.size≤k_)∧some k_ ≠ (.slice Ao23 t5.length co23:Value).ownBlock∧k_ ≠ gb1∧k_ ≠ gb2∧k_ ≠ gb8)) (okp:=(fun k_=>(w.heap.size≤k_)∧some k_ ≠ (.slice Ao23 t5.length co23:Value).ownBlock∧k_ ≠ gb1∧k_ ≠ gb2∧k_ ≠ gb8)) ?hr ?hp (fun _ hk=>hk) ((show ∀ k_,w28.heap.size≤k_→(fun k_=>(w.heap.size≤k_)∧some k_ ≠ (.slice Ao23 t5.length co23:Value).ownBlock∧k_ ≠ gb1∧k_ ≠ gb2∧k_ ≠ gb8) k_ from fun k_ hk=>⟨(Nat.le_trans (below_size za5) hk),Kd.fresh' (Kd.N_lt (za3 HO7.out)) k_ hk,zF BK1.out k_ hk,zF BK2.out k_ hk,zF BK8.out k_ hk⟩) _ (Nat.le_refl _)) (Below.refl _ _) (Nat.le_refl _) (by simp) ?_;(case hd=>rfl);(case hg=>rfl);(case hr=>first|(go_simp;done)|(go_simp;rfl));(case hp=>exact (Reps.none _ _))
  intro v10 w31 ho32 hb hg_ hnew_
  clear hg_ hnew_
  (first|rw [← Ny9.out] at ho32|(simp only [Int.reduceToNat] at ho32;rw [← Ny9.out] at ho32))
  replace HO7:=zk (Kd.N_elder' (za3 HO7.out) (Kd.N_base ho32) hb)
  replace HO16:=zk (Kd.V_elder' (za4 HO16.out) (Kd.N_base ho32) hb)
  replace HO24:=zk (Kd.V_elder' (za4 HO24.out) (Kd.N_base ho32) hb)
  have HO11:=zk (Kd.N_lower ho32 (below_size za5))
  replace BK1:=yb BK1 hb
  replace BK2:=yb BK2 hb
  replace BK8:=yb BK8 hb
  replace HB:=yB HB hb
  clear hb ho32
  refine hK.out _ _ ((blk_cell BK8.out 0).trans rfl) (fun hHeld=>?_)
  clear hK K
  refine zno (some 22) ?_
  refine zon 5 (some 27) HT_.out (fun K hK=>?_)
  refine Kd.N_append_rows_step k46 (w0:=w) w.heap.size (by rfl) (.tmp 22) (.tmp 26) 26 46 (.agg #[(.int .i64 0),(.string ⟨#[]⟩),(.string ⟨#[]⟩),(.int .i64 0),(.string ⟨#[]⟩),(.slice none 0 0),(.slice none 0 0),(.int .i64 0)]) 120 rfl Try.underlying26 info46 rfl (by decide) (by omega) v10 y5009 y5012 _ _ _ (fun k_=>(w.heap.size≤k_)∧k_ ≠ gb1∧k_ ≠ gb2∧k_ ≠ gb8) (fun k_=>((fun k_=>(w.heap.size≤k_)∧k_ ≠ gb1∧k_ ≠ gb2∧k_ ≠ gb8)) k_∧some k_ ≠ (v10:Value).ownBlock) rfl rfl ?aO ?aR (fun _ hk=>hk) ?aF ?aB ?aS ?aL ?_
  (case aR=>exact (by skip;exact Kd.V_F (Kd.V_mono (ok':=(fun k_=>((fun k_=>(w.heap.size≤k_)∧k_ ≠ gb1∧k_ ≠ gb2∧k_ ≠ gb8)) k_∧some k_ ≠ (v10:Value).ownBlock)) (HO16.out) (fun k_ hk=>⟨⟨hk.1.1,⟨hk.1.2.1,⟨hk.1.2.2.1,hk.1.2.2.2⟩⟩⟩,hk.2⟩))))
  (case aB=>exact za5)
  (case aF=>exact (fun k_ hk=>⟨(Nat.le_trans (below_size za5) hk),zF BK1.out k_ hk,zF BK2.out k_ hk,zF BK8.out k_ hk⟩))
  (case aO=>exact (by (with_reducible repeat (first|apply Kd.N_alloc|apply Kd.N_drewN|apply Kd.N_drew));exact Kd.N_mono HO11.out (fun _ hk=>⟨hk.1,⟨hk.2.2.1,⟨hk.2.2.2.1,hk.2.2.2.2⟩⟩⟩)))
  (case aS=>exact (below_size za5))
  (case aL=>have:=LMc10.out;omega)
  intro v18 w33 ho hb hg hat
  rw [← Ny17.out] at ho
  replace BK1:=zk (blk_grown (g:=gb1) (o:=.cells #[.slice A0_0 l0_0.length c0_0] 28 (0,0)) (za0 BK1.out) hg (Kd.N_ne HO11.out BK1.out (by decide)))
  replace BK2:=zk (blk_grown (g:=gb2) (o:=.cells #[.slice none 0 0] 28 (0,0)) (za0 BK2.out) hg (Kd.N_ne HO11.out BK2.out (by decide)))
  replace HO7:=zk (Kd.N_afterv (ok:=(fun k_=>(w.heap.size≤k_)∧k_ ≠ gb1∧k_ ≠ gb2∧k_ ≠ gb8)) (za3 HO7.out) hg hat)
  replace BK8:=zk (blk_grown (g:=gb8) (o:=.cells #[.slice Ao23 t5.length co23] 28 (0,0)) (za0 BK8.out) hg (Kd.N_ne HO11.out BK8.out (by decide)))
  replace HO16:=zk (Kd.V_afterv (ok:=(fun k_=>(w.heap.size≤k_)∧k_ ≠ gb1∧k_ ≠ gb2∧k_ ≠ gb8)) (za4 HO16.out) hg hat)
  replace HO24:=zk (Kd.V_afterv (ok:=(fun k_=>(w.heap.size≤k_)∧k_ ≠ gb1∧k_ ≠ gb2∧k_ ≠ gb8)) (za4 HO24.out) hg hat)
  replace HB:=zk hb
  have HO19:=zk ho
  clear HO11
  clear ho hb hg hat
  refine hK.out _ _ ((blk_cell BK8.out 0).trans rfl) (fun hHeld=>?_)
  clear hK K
  refine zno (some 27) ?_
  refine zon 11 (some 33) HT_.out (fun K hK=>?_)
  refine Kd.N_append_rows_step k46 (w0:=w) w.heap.size (by rfl) (.tmp 27) (.tmp 32) 26 46 (.agg #[(.int .i64 0),(.string ⟨#[]⟩),(.string ⟨#[]⟩),(.int .i64 0),(.string ⟨#[]⟩),(.slice none 0 0),(.slice none 0 0),(.int .i64 0)]) 120 rfl Try.underlying26 info46 rfl (by decide) (by omega) v18 y5017 y5020 _ _ _ (fun k_=>(w.heap.size≤k_)∧k_ ≠ gb1∧k_ ≠ gb2∧k_ ≠ gb8) (fun k_=>((fun k_=>(w.heap.size≤k_)∧k_ ≠ gb1∧k_ ≠ gb2∧k_ ≠ gb8)) k_∧some k_ ≠ (v18:Value).ownBlock) rfl rfl ?aO ?aR (fun _ hk=>hk) ?aF ?aB ?aS ?aL ?_
  (case aR=>exact (by skip;exact Kd.V_F (Kd.V_mono (ok':=(fun k_=>((fun k_=>(w.heap.size≤k_)∧k_ ≠ gb1∧k_ ≠ gb2∧k_ ≠ gb8)) k_∧some k_ ≠ (v18:Value).ownBlock)) (HO24.out) (fun k_ hk=>⟨⟨hk.1.1,⟨hk.1.2.1,⟨hk.1.2.2.1,hk.1.2.2.2⟩⟩⟩,hk.2⟩))))
  (case aB=>exact za5)
  (case aF=>exact (fun k_ hk=>⟨(Nat.le_trans (below_size za5) hk),zF BK1.out k_ hk,zF BK2.out k_ hk,zF BK8.out k_ hk⟩))
  (case aO=>exact (za3 HO19.out))
  (case aS=>exact (below_size za5))
  (case aL=>have:=LMc14.out;omega)
  intro v26 w34 ho hb hg hat
  rw [← Ny25.out] at ho
  replace BK1:=zk (blk_grown (g:=gb1) (o:=.cells #[.slice A0_0 l0_0.length c0_0] 28 (0,0)) (za0 BK1.out) hg (Kd.N_ne HO19.out BK1.out (by decide)))
  replace BK2:=zk (blk_grown (g:=gb2) (o:=.cells #[.slice none 0 0] 28 (0,0)) (za0 BK2.out) hg (Kd.N_ne HO19.out BK2.out (by decide)))
  replace HO7:=zk (Kd.N_afterv (ok:=(fun k_=>(w.heap.size≤k_)∧k_ ≠ gb1∧k_ ≠ gb2∧k_ ≠ gb8)) (za3 HO7.out) hg hat)
  replace BK8:=zk (blk_grown (g:=gb8) (o:=.cells #[.slice Ao23 t5.length co23] 28 (0,0)) (za0 BK8.out) hg (Kd.N_ne HO19.out BK8.out (by decide)))
  replace HO16:=zk (Kd.V_afterv (ok:=(fun k_=>(w.heap.size≤k_)∧k_ ≠ gb1∧k_ ≠ gb2∧k_ ≠ gb8)) (za4 HO16.out) hg hat)
  replace HO24:=zk (Kd.V_afterv (ok:=(fun k_=>(w.heap.size≤k_)∧k_ ≠ gb1∧k_ ≠ gb2∧k_ ≠ gb8)) (za4 HO24.out) hg hat)
  replace HB:=zk hb
  have HO27:=zk ho
  clear HO19
  clear ho hb hg hat
  obtain ⟨Ao35,co35,eo35⟩:=Kd.N_slice HO27.out
  (first|subst eo35|(injection eo35 with f1_ f2_ f3_;have f4_:=f1_.symm;have f5_:=f3_.symm;clear f1_ f2_ f3_;subst f4_;subst f5_))
  refine hK.out _ _ ((blk_cell BK8.out 0).trans rfl) (fun hHeld=>?_)
  clear hK K
  refine zno (some 33) ?_
  refine zy 12 (some 34) HT_.out ?_
  refine last_ (i:=13) (N:=none) #[true,true,true,true,true,true,true,true,true,true,true,true,true,true] rfl rfl (one_of HT_.out (by kernel_rfl)) (by decide) (fun K hK=>?_)
  have hs36:w34.cell? ⟨gb8,0,none⟩=some (.slice Ao23 t5.length co23):=(blk_cell BK8.out 0).trans rfl
  have hfs36:=blk_frozen BK8.out 0
  have hns36_0:=NB1_8.out
  have hns36_1:=NB2_8.out
  have hms36_0:=NB8_1.out
  have hms36_1:=NB8_2.out
  refine skip_ (w1:=?_) (by rfl) rfl ?_ ?_
  rotate_left
  ·go_simp
   rfl
  refine hK.out _ _ ?_
  clear hK K
  refine done_ (done_of HT_.out (by kernel_rfl)) ?_
  obtain ⟨hcz37_0,hfz37_0⟩:=blk1 BK8.out
  obtain ⟨hcz38_0,hfz38_0⟩:=blk1 BK2.out
  try go_wp2
  refine bodyPost_ret (results_ct rfl _ _ gb2 28 #[.slice Ao35 y5025.length co35] (0,0) _ rfl (zpw BK2.out) Try.underlying28 rfl (by kernel_rfl)) rfl ?_
  exact ⟨_,by first|rfl|(simp [errW_none,errW_some] <;> rfl)|(simp only [← hji11];first|rfl|(simp [errW_none,errW_some] <;> rfl))|(simp [*,errW_none,errW_some] <;> rfl),by (with_reducible repeat (first|apply Kd.N_alloc|apply Kd.N_drewN|apply Kd.N_drew));exact Kd.N_mono (zfN (Kd.N_far (p:=⟨gb8,0,none⟩) (Kd.N_mono (Kd.N_mono HO27.out (fun k_ hk=>(⟨hk,hk.2.2.2⟩:_∧k_ ≠ gb8))) (fun k_ hk=>(⟨hk,hk.1.2.2.1⟩:_∧k_ ≠ gb2))) (fun _ hk=>hk.1.2) (.slice Ao35 y5025.length co35))) (fun _ hk=>hk.1.1.1),za5⟩
 ·rw [if_neg c14] at H
  exact absurd H (by simp)
 ·rw [if_neg c13] at H
  exact absurd H (by simp)
 ·rw [if_neg c12] at H
  exact absurd H (by simp)
 ·rw [if_neg c10] at H
  exact absurd H (by simp)
 ·rw [if_neg c9] at H
  exact absurd H (by simp)
 ·rw [if_neg c8] at H
  exact absurd H (by simp)
 ·replace c6:=Bool.eq_false_iff.mpr c6
  subst c6
  rw [if_neg zff] at H
  try dsimp only at H
  simp only [Option.some.injEq,Prod.mk.injEq] at H
  obtain ⟨rfl,rfl⟩:=H
  go_enter Try.func5,Try.ntmps5
  go_wp2_with (first|((with_reducible refine gate_dst (N:=2) rfl ?_);(try (refine gate_guard (by rfl) ?_;dsimp only));refine zE (cs:=#[.slice A0_0 l0_0.length c0_0]) (t:=28) ?_;intro gb1 hg w39 hbox hb;have BK1:=zk hbox;have GW1:=zk (zs (w:=w) hg za5);have GE1:=GW1;replace HB:=yB HB hb;clear hb hbox hg)|((with_reducible refine gate_dst (N:=4) rfl ?_);(try (refine gate_guard (by rfl) ?_;dsimp only));refine zE (cs:=#[.slice none 0 0]) (t:=28) ?_;intro gb2 hg w40 hbox hb;have BK2:=zk hbox;have GW2:=zk (zs (w:=w) hg za5);have GE2:=GW2;have NB1_2:=yn hg BK1;have NB2_1:=yp hg BK1;replace BK1:=yb BK1 hb;replace HB:=yB HB hb;clear hb hbox hg;have hnb41:=NB1_2.out;have hnc41:=NB2_1.out;obtain ⟨hcz42_0,hfz42_0⟩:=blk1 BK1.out)|((with_reducible refine gate_callee (f:=12) rfl ?_);refine zg (some 8) Try.func12 #[.agg #[.slice A0_0 l0_0.length c0_0]] rfl za6 ?_;(with_reducible refine (spec_IsValidProblem.calls k _ _ l0_0 _ _ ?side1 ?side2 A3.out).mono ?_);(case side1=>repeat (first|exact (Kd.C_below HR0_0.out HB.out)|(with_reducible refine Kd.C_alloc ?_ _)|(with_reducible refine Kd.C_drewN ?_ _)|(with_reducible refine Kd.C_drew ?_)));(case side2=>exact HC0_0.out);rintro e w43 ⟨rfl,hb⟩;refine ⟨_,rfl,?_⟩;replace BK1:=yb BK1 hb;replace BK2:=yb BK2 hb;replace HB:=yB HB hb;(try clear hb);obtain ⟨hcz44_0,hfz44_0⟩:=blk1 BK1.out)|(go_at_call 13;(with_reducible refine (spec_l1In.calls a1 0 (wrap64 ((l0_0.length:Int) - 1)) _ _ A5.out).mono ?_);rintro e w' ⟨rfl,⟨nd,rfl⟩⟩;(try (rw [drewN_self w43];generalize hq_:World.drewN w43 _=w43;have n0_:Aside0 (w43.heap[gb1]? = some (.cells #[.slice A0_0 l0_0.length c0_0] 28 (0,0))):=⟨by rw [← hq_];exact (za0 BK1.out)⟩;have n1_:Aside0 (w43.heap[gb2]? = some (.cells #[.slice none 0 0] 28 (0,0))):=⟨by rw [← hq_];exact (za0 BK2.out)⟩;have n2_:Aside0 (Below w.heap.size w w43):=⟨by rw [← hq_];exact za5⟩;clear BK1 BK2 HB hq_;have BK1:=n0_;have BK2:=n1_;have HB:=n2_;clear n0_ n1_ n2_));obtain ⟨hcz45_0,hfz45_0⟩:=blk1 BK2.out;(try (obtain ⟨hczr5001_,hfzr5001_⟩:=blk1 BK1.out));(try (obtain ⟨hczr5002_,hfzr5002_⟩:=blk1 BK2.out))))
  refine bodyPost_ret (results_ct rfl _ _ gb2 28 #[.slice none 0 0] (0,0) _ rfl (zpu BK2.out) Try.underlying28 rfl (by kernel_rfl)) rfl ?_
  exact ⟨_,za8,za12,za5⟩
 ·replace c4:=Bool.eq_false_iff.mpr c4
  subst c4
  rw [if_neg zff] at H
  try dsimp only at H
  simp only [Option.some.injEq,Prod.mk.injEq] at H
  obtain ⟨rfl,rfl⟩:=H
  go_enter Try.func5,Try.ntmps5
  go_wp2_with (first|((with_reducible refine gate_dst (N:=2) rfl ?_);(try (refine gate_guard (by rfl) ?_;dsimp only));refine zE (cs:=#[.slice A0_0 l0_0.length c0_0]) (t:=28) ?_;intro gb1 hg w46 hbox hb;have BK1:=zk hbox;have GW1:=zk (zs (w:=w) hg za5);have GE1:=GW1;replace HB:=yB HB hb;clear hb hbox hg)|((with_reducible refine gate_dst (N:=4) rfl ?_);(try (refine gate_guard (by rfl) ?_;dsimp only));refine zE (cs:=#[.slice none 0 0]) (t:=28) ?_;intro gb2 hg w47 hbox hb;have BK2:=zk hbox;have GW2:=zk (zs (w:=w) hg za5);have GE2:=GW2;have NB1_2:=yn hg BK1;have NB2_1:=yp hg BK1;replace BK1:=yb BK1 hb;replace HB:=yB HB hb;clear hb hbox hg;have hnb48:=NB1_2.out;have hnc48:=NB2_1.out;obtain ⟨hcz49_0,hfz49_0⟩:=blk1 BK1.out)|((with_reducible refine gate_callee (f:=12) rfl ?_);refine zg (some 8) Try.func12 #[.agg #[.slice A0_0 l0_0.length c0_0]] rfl za6 ?_;(with_reducible refine (spec_IsValidProblem.calls k _ _ l0_0 _ _ ?side1 ?side2 A3.out).mono ?_);(case side1=>repeat (first|exact (Kd.C_below HR0_0.out HB.out)|(with_reducible refine Kd.C_alloc ?_ _)|(with_reducible refine Kd.C_drewN ?_ _)|(with_reducible refine Kd.C_drew ?_)));(case side2=>exact HC0_0.out);rintro e w50 ⟨rfl,hb⟩;refine ⟨_,rfl,?_⟩;replace BK1:=yb BK1 hb;replace BK2:=yb BK2 hb;replace HB:=yB HB hb;(try clear hb);obtain ⟨hcz51_0,hfz51_0⟩:=blk1 BK2.out))
  refine bodyPost_ret (results_ct rfl _ _ gb2 28 #[.slice none 0 0] (0,0) _ rfl (zpu BK2.out) Try.underlying28 rfl (by kernel_rfl)) rfl ?_
  exact ⟨_,za8,za12,za5⟩
def laws_szIntS.f (l0:List Int) (a1:Int):Option (Int):=if (wrap64 (a1 - (l0.length:Int))) < 0 then (some (-1)) else (some (wrap64 (a1 - (l0.length:Int))))
theorem laws_szIntS.calls (A0:Option Addr) (c0:Nat) (l0:List Int) (a1:Int) (r:Int) (w:World) (hr0:Kd.C (Kd.int .i64) w A0 l0.length l0) (hc0:l0.length≤c0) (h:laws_szIntS.f l0 a1=some r) :
   Calls Try.prog 38 #[.slice A0 l0.length c0,.int .i64 a1] w fun e w'=>e = .returned (.int .i64 r)∧Drawn0 w w':=by
 have HR0:=zk hr0
 have HC0:=zk hc0
 clear hr0 hc0
 have H:=h
 unfold laws_szIntS.f at H
 clear h
 by_cases c3:(wrap64 (a1 - (l0.length:Int))) < 0
 rw [if_pos c3] at H
 have c3b0:=zdl c3
 have c3w:decide ((IntKind.i64.wrap (a1 - (l0.length:Int))) < 0)=true:=by simp only [i64_w];exact c3b0
 rotate_left
 rw [if_neg c3] at H
 have c3b0:=zdnl c3
 have c3w:decide ((IntKind.i64.wrap (a1 - (l0.length:Int))) < 0)=false:=by simp only [i64_w];exact c3b0
 rotate_left
 all_goals
  clear c3
  obtain rfl:=zi H
  go_enter Try.func38,Try.ntmps38
  go_wp2
  go_ret
  exact ⟨za9,za10⟩
def laws_toIntS.l0:Nat→List Int→List Int→Int→Option (List Int)
 | 0,_,_,_=>none
 | k+1,x0,x3,x4=>if x4 < (x0.length:Int) then (if 0≤x4 then (if x4 < (x3.length:Int) then (laws_toIntS.l0 k x0 (x3.set (x4:Int).toNat (rd x0 x4)) (wrap64 (x4+1))) else (none)) else (none)) else (some x3)
def laws_toIntS.f (k:Nat) (l0:List Int):Option (List Int):=if 0≤(l0.length:Int) then (if ((l0.length:Int):Int).toNat≤35184372088832 then (laws_toIntS.l0 k l0 (List.replicate ((l0.length:Int):Int).toNat 0) 0) else (none)) else (none)
theorem laws_toIntS.calls (k:Nat) (A0:Option Addr) (c0:Nat) (l0:List Int) (r:List Int) (w:World) (hr0:Kd.C (Kd.int .i64) w A0 l0.length l0) (hc0:l0.length≤c0) (h:laws_toIntS.f k l0=some r) :
  Calls Try.prog 45 #[.slice A0 l0.length c0] w fun e w'=>∃ v0_:Value,e = .returned (v0_)∧Kd.R (Kd.int .i64) 3 w' w.heap.size (fun _=>True) v0_ r∧Below w.heap.size w w':=by
 have HR0:=zk hr0
 have HC0:=zk hc0
 clear hr0 hc0
 have HB:=zk (Below.refl w.heap.size w)
 have H:=h
 unfold laws_toIntS.f at H
 clear h
 by_cases c2:0≤(l0.length:Int)
 rw [if_pos c2] at H
 have c2b0:=eq_true c2
 have c2b1:=zdle c2
 clear c2
 by_cases c3:((l0.length:Int):Int).toNat≤35184372088832
 ·rw [if_pos c3] at H
  have c3b0:=eq_true c3
  have c3b1:=zdle c3
  clear c3
  obtain ⟨y45001,hy45001⟩:∃ y_:List Int,y_=(List.replicate ((l0.length:Int):Int).toNat 0):=⟨_,rfl⟩
  replace H:(laws_toIntS.l0 k l0 y45001 0)=some r:=by first|(rw [hy45001];with_reducible exact H)|(have H2_:=(Option.bind_some _ _).symm.trans H;rw [hy45001];with_reducible exact H2_)|(have H2_:=(Option.bind_some _ _).symm.trans H;with_reducible exact H2_)|with_reducible exact H|(rw [hy45001];exact H)|exact H
  have Ny1:=zk hy45001
  clear hy45001
  have H':=zk H
  clear H
  go_enter Try.func45,Try.ntmps45
  go_wp2_with (first|((with_reducible refine gate_dst (N:=7) rfl ?_);refine Kd.R_make (Kd.int .i64) _ 3 rfl (N:=7) rfl 44 _ _ rfl (l0.length:Int) rfl rfl Try.underlying44 (.int .i64 0) 8 info3 rfl (by decide) (by omega) 0 (ok:=fun _=>True) (okp:=fun _=>True) rfl (fun _ hk=>hk) trivial (of_decide_eq_true za7) (Nat.le_trans (Nat.mul_le_mul_right _ (of_decide_eq_true za7:(l0.length:Int).toNat≤35184372088832)) (by omega)) (Below.refl _ _) (Nat.le_refl _) ?_;intro v2 w4 ho5 hb hg_ hnew_;clear hg_ hnew_;(first|rw [← Ny1.out] at ho5|(simp only [Int.reduceToNat] at ho5;rw [← Ny1.out] at ho5));have HO3:=zk (Kd.R_lower ho5 (below_size za5));replace HB:=yB HB hb;clear hb ho5))
  try simp only [Act.put,zt,zv,zu]
  go_loopg [4] k (fun kq v4 w'=>∃ (x3_1:List Int) (x4_1:Int),v4 = .int .i64 x4_1∧Aside0 (laws_toIntS.l0 kq l0 x3_1 x4_1=some r)∧Aside0 (kq≤k)∧Aside0 (Kd.R (Kd.int .i64) 3 w' w.heap.size (fun _=>True) v2 x3_1)∧Aside0 (Below w.heap.size w w'))
  case atStart=>exact ⟨(y45001),(0),za9,H',⟨Nat.le_refl _⟩,⟨za2 HO3.out⟩,⟨za5⟩⟩
  case round =>
   clear H'
   try clear c3
   try clear c3b0
   try clear c3b1
   obtain ⟨x3_1,x4_1,rfl,HA,HK1,HO_3,HB⟩:=hrel
   cases gk with
   | zero=>exact absurd HA.out (by simp [laws_toIntS.l0])
   | succ k1 =>
    have H:=HA.out
    clear HA
    simp only [laws_toIntS.l0] at H
    by_cases c6:x4_1 < (l0.length:Int)
    rw [if_pos c6] at H
    have c6b0:=zdl c6
    clear c6
    by_cases c7:0≤x4_1
    rw [if_pos c7] at H
    have c7b0:=zdle c7
    clear c7
    by_cases c8:x4_1 < (x3_1.length:Int)
    ·rw [if_pos c8] at H
     have c8b0:=zdl c8
     clear c8
     obtain ⟨y45005,hy45005⟩:∃ y_:List Int,y_=(x3_1.set (x4_1:Int).toNat (rd l0 x4_1)):=⟨_,rfl⟩
     replace H:(laws_toIntS.l0 k1 l0 y45005 (wrap64 (x4_1+1)))=some r:=by first|(rw [hy45005];with_reducible exact H)|(have H2_:=(Option.bind_some _ _).symm.trans H;rw [hy45005];with_reducible exact H2_)|(have H2_:=(Option.bind_some _ _).symm.trans H;with_reducible exact H2_)|with_reducible exact H|(rw [hy45005];exact H)|exact H
     have Ny5:=zk hy45005
     clear hy45005
     have H':=zk H
     clear H
     have p45004:0≤(x4_1:Int):=of_decide_eq_true za7
     have q45004:x4_1 < (l0.length:Int):=of_decide_eq_true za7
     obtain ⟨ad45004,e45004,hx45004_0⟩:=Kd.at_int HR0.out x4_1 p45004 q45004
     cases e45004
     replace hx45004_0:=zx HB.out hx45004_0
     replace p45004:=eq_true p45004
     replace q45004:=eq_true q45004
     have p9:0≤(x4_1:Int):=of_decide_eq_true za7
     have q9:(x4_1:Int) < ((x3_1.length:Int):Int):=of_decide_eq_true za7
     obtain ⟨go9,co9,eo9,gb9,gl9,cl9,HG9⟩:=Kd.R_form HO_3.out (by omega)
     (first|cases eo9|(injection eo9 with ea_ en_ ec_;(first|subst ea_|(injection ea_ with ea_;subst ea_));subst ec_;clear en_))
     have GB9:=zk gb9
     have GG9:=zk HG9
     clear gb9 gl9 HG9
     obtain ⟨hx9_0,hf9_0⟩:=Kd.R_celln 0 HO_3.out (x4_1:Int) p9 q9
     replace p9:=eq_true p9
     replace q9:=eq_true q9
     have HP10:=Kd.R_putg HO_3.out (x4_1:Int) (rd l0 x4_1)
     go_wp2_with (first|((with_reducible refine gate_store (t:=3) (p:=20) rfl ?_);refine store_event (t:=3) (p:=20) (v:=?vo_w11) (w1:=(wr.setCell ⟨go9,(x4_1:Int).toNat,none⟩ (.int .i64 (rd l0 x4_1)))) ?hg ?ho ?hn ?hr ?_;(case ho=>rfl);(case hg=>rfl);(case hn=>rfl);(case hr=>first|(go_simp;done)|(go_simp;rfl));intro w11 hw;have hg:wr.grownBy w11 (some go9):=(by rw [hw];exact HP10.2);have hp_:Kd.R (Kd.int .i64) 3 w11 w.heap.size (fun _=>True) (.slice (some ⟨go9,0,none⟩) x3_1.length co9) y45005:=(by rw [hw,Ny5.out];exact HP10.1);clear HP10;replace HO_3:=zk hp_;replace HB:=zk ((by rw [hw];exact below_set (HB.out) GB9.out:Below w.heap.size w w11));clear hg hw hp_))
     go_roundg k1
     case measure=>have:=HK1.out;omega
     case rel=>exact ⟨(y45005),(wrap64 (x4_1+1)),za9,H',⟨za11⟩,⟨za2 HO_3.out⟩,⟨za5⟩⟩
    ·rw [if_neg c8] at H
     exact absurd H (by simp)
    ·rw [if_neg c7] at H
     exact absurd H (by simp)
    ·rw [if_neg c6] at H
     have c6b0:=zdnl c6
     clear c6
     obtain rfl:=zi H
     go_wp2
     go_ret
     exact ⟨_,za8,za2 HO_3.out,za5⟩
 ·rw [if_neg c3] at H
  exact absurd H (by simp)
 ·rw [if_neg c2] at H
  exact absurd H (by simp)
def laws_eqIntS.l0:Nat→List Int→List Int→Int→Option (Bool)
 | 0,_,_,_=>none
 | k+1,x0,x1,x5=>if x5 < (x0.length:Int) then (if 0≤x5 then (if x5 < (x1.length:Int) then (if (rd x0 x5)=(rd x1 x5) then (laws_eqIntS.l0 k x0 x1 (wrap64 (x5+1))) else (some false)) else (none)) else (none)) else (some true)
def laws_eqIntS.f (k:Nat) (l0:List Int) (l1:List Int):Option (Bool):=if (l0.length:Int)=(l1.length:Int) then (laws_eqIntS.l0 k l0 l1 0) else (some false)
theorem laws_eqIntS.calls (k:Nat) (A0:Option Addr) (c0:Nat) (l0:List Int) (A1:Option Addr) (c1:Nat) (l1:List Int) (r:Bool) (w:World) (hr0:Kd.C (Kd.int .i64) w A0 l0.length l0) (hc0:l0.length≤c0) (hr1:Kd.C (Kd.int .i64) w A1 l1.length l1) (hc1:l1.length≤c1) (h:laws_eqIntS.f k l0 l1=some r) :
  Calls Try.prog 55 #[.slice A0 l0.length c0,.slice A1 l1.length c1] w fun e w'=>e = .returned (.bool r)∧Drawn0 w w':=by
 have HR0:=zk hr0
 have HC0:=zk hc0
 clear hr0 hc0
 have HR1:=zk hr1
 have HC1:=zk hc1
 clear hr1 hc1
 have H:=h
 unfold laws_eqIntS.f at H
 clear h
 by_cases c3:(l0.length:Int)=(l1.length:Int)
 ·rw [if_pos c3] at H
  have c3b0:=zbt c3
  have c3b1:=zqn c3
  have c3b2:(l0.length == l1.length)=true:=by first|simpa using c3|(simp at c3 ⊢;omega)
  clear c3
  have H':=zk H
  clear H
  go_enter Try.func55,Try.ntmps55
  go_wp2
  repeat (go_quiet (fail);try go_wp2)
  try simp only [Act.put,zt,zv,zu]
  go_loopg [5] k (fun kq v5 w'=>∃ (x5_1:Int),v5 = .int .i64 x5_1∧Aside0 (laws_eqIntS.l0 kq l0 l1 x5_1=some r)∧Aside0 (kq≤k)∧Drawn0 w w')
  case atStart=>exact ⟨(0),za9,H',⟨Nat.le_refl _⟩,za10⟩
  case round =>
   clear H'
   try clear c3
   try clear c3b0
   try clear c3b1
   try clear c3b2
   obtain ⟨x5_1,rfl,HA,HK1,⟨m1,rfl⟩⟩:=hrel
   cases gk with
   | zero=>exact absurd HA.out (by simp [laws_eqIntS.l0])
   | succ k1 =>
    have H:=HA.out
    clear HA
    simp only [laws_eqIntS.l0] at H
    by_cases c4:x5_1 < (l0.length:Int)
    rw [if_pos c4] at H
    have c4b0:=zdl c4
    clear c4
    by_cases c5:0≤x5_1
    rw [if_pos c5] at H
    have c5b0:=zdle c5
    clear c5
    by_cases c6:x5_1 < (l1.length:Int)
    rw [if_pos c6] at H
    have c6b0:=zdl c6
    clear c6
    by_cases c7:(rd l0 x5_1)=(rd l1 x5_1)
    rw [if_pos c7] at H
    have c7b0:=zbt c7
    have c7b1:=zqn c7
    clear c7
    have H':=zk H
    clear H
    have fin0_:=zk trivial
    rotate_left
    rw [if_neg c7] at H
    have c7b0:=zbn c7
    have c7b1:=zqt c7
    obtain rfl:=zi H
    have fin1_:=zk trivial
    rotate_left
    · rw [if_neg c6] at H
      exact absurd H (by simp)
    · rw [if_neg c5] at H
      exact absurd H (by simp)
    · rw [if_neg c4] at H
      have c4b0:=zdnl c4
      clear c4
      obtain rfl:=zi H
      go_wp2
      repeat (go_quiet (fail);try go_wp2)
      go_ret
      exact ⟨za9,za10⟩
    all_goals
     have p55001:0≤(x5_1:Int):=of_decide_eq_true za7
     have q55001:x5_1 < (l0.length:Int):=of_decide_eq_true za7
     obtain ⟨ad55001,e55001,hx55001_0⟩:=Kd.at_int HR0.out x5_1 p55001 q55001
     cases e55001
     replace p55001:=eq_true p55001
     replace q55001:=eq_true q55001
     have p55002:0≤(x5_1:Int):=of_decide_eq_true za7
     have q55002:x5_1 < (l1.length:Int):=of_decide_eq_true za7
     obtain ⟨ad55002,e55002,hx55002_0⟩:=Kd.at_int HR1.out x5_1 p55002 q55002
     cases e55002
     replace p55002:=eq_true p55002
     replace q55002:=eq_true q55002
     go_wp2
     repeat (go_quiet (fail);try go_wp2)
     first
     | (
       clear fin0_
       go_roundg k1
       case measure=>have:=HK1.out;omega
       case rel=>exact ⟨(wrap64 (x5_1+1)),za9,H',⟨za11⟩,za10⟩)
     | (
       clear fin1_
       go_ret
       exact ⟨za9,za10⟩)
 ·rw [if_neg c3] at H
  have c3b0:=zbn c3
  have c3b1:=zqt c3
  have c3b2:(l0.length == l1.length)=false:=by first|simpa using c3|(simp at c3 ⊢;omega)
  obtain rfl:=zi H
  go_enter Try.func55,Try.ntmps55
  go_wp2
  repeat (go_quiet (fail);try go_wp2)
  go_ret
  exact ⟨za9,za10⟩
def laws_heldIntS.l0:Nat→List Int→Int→Int→Option (Int)
 | 0,_,_,_=>none
 | k+1,x0,x1,x5=>if x5 < (x0.length:Int) then (if 0≤x5 then (if (rd x0 x5)=x1 then (laws_heldIntS.l0 k x0 (wrap64 (x1+1)) (wrap64 (x5+1))) else (some (-1))) else (none)) else (some x1)
def laws_heldIntS.f (k:Nat) (l0:List Int) (a1:Int):Option (Int):=laws_heldIntS.l0 k l0 a1 0
theorem laws_heldIntS.calls (k:Nat) (A0:Option Addr) (c0:Nat) (l0:List Int) (a1:Int) (r:Int) (w:World) (hr0:Kd.C (Kd.int .i64) w A0 l0.length l0) (hc0:l0.length≤c0) (h:laws_heldIntS.f k l0 a1=some r) :
   Calls Try.prog 36 #[.slice A0 l0.length c0,.int .i64 a1] w fun e w'=>e = .returned (.int .i64 r)∧Drawn0 w w':=by
 have HR0:=zk hr0
 have HC0:=zk hc0
 clear hr0 hc0
 have H:=h
 unfold laws_heldIntS.f at H
 clear h
 have H':=zk H
 clear H
 go_enter Try.func36,Try.ntmps36
 go_wp2
 try simp only [Act.put,zt,zv,zu]
 go_loopg [1,5] k (fun kq v1 v5 w'=>∃ (x1_1:Int) (x5_1:Int),v1 = .int .i64 x1_1∧v5 = .int .i64 x5_1∧Aside0 (laws_heldIntS.l0 kq l0 x1_1 x5_1=some r)∧Aside0 (kq≤k)∧Drawn0 w w')
 case atStart=>exact ⟨(a1),(0),za9,za9,H',⟨Nat.le_refl _⟩,za10⟩
 case round =>
  clear H'
  obtain ⟨x1_1,x5_1,rfl,rfl,HA,HK1,⟨m1,rfl⟩⟩:=hrel
  cases gk with
  | zero=>exact absurd HA.out (by simp [laws_heldIntS.l0])
  | succ k1 =>
   have H:=HA.out
   clear HA
   simp only [laws_heldIntS.l0] at H
   by_cases c3:x5_1 < (l0.length:Int)
   rw [if_pos c3] at H
   have c3b0:=zdl c3
   clear c3
   by_cases c4:0≤x5_1
   rw [if_pos c4] at H
   have c4b0:=zdle c4
   clear c4
   by_cases c5:(rd l0 x5_1)=x1_1
   rw [if_pos c5] at H
   have c5b0:=zbt c5
   have c5b1:=zqn c5
   clear c5
   have H':=zk H
   clear H
   have fin0_:=zk trivial
   rotate_left
   rw [if_neg c5] at H
   have c5b0:=zbn c5
   have c5b1:=zqt c5
   obtain rfl:=zi H
   have fin1_:=zk trivial
   rotate_left
   · rw [if_neg c4] at H
     exact absurd H (by simp)
   · rw [if_neg c3] at H
     have c3b0:=zdnl c3
     clear c3
     obtain rfl:=zi H
     go_wp2
     go_ret
     exact ⟨za9,za10⟩
   all_goals
    have p36001:0≤(x5_1:Int):=of_decide_eq_true za7
    have q36001:x5_1 < (l0.length:Int):=of_decide_eq_true za7
    obtain ⟨ad36001,e36001,hx36001_0⟩:=Kd.at_int HR0.out x5_1 p36001 q36001
    cases e36001
    replace p36001:=eq_true p36001
    replace q36001:=eq_true q36001
    go_wp2
    first
    | (
      clear fin0_
      go_roundg k1
      case measure=>have:=HK1.out;omega
      case rel=>exact ⟨(wrap64 (x1_1+1)),(wrap64 (x5_1+1)),za9,za9,H',⟨za11⟩,za10⟩)
    | (
      clear fin1_
      go_ret
      exact ⟨za9,za10⟩)
end Go.Proofs.Yteolnmoomeenbaa.A
