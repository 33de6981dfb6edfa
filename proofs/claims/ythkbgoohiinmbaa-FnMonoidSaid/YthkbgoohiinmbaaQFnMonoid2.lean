/- FnMonoid: what its proof needs, put together by this session's program wip/merge.py out of the texts that wip/xp.py printed and of this session's own. -/
import Derived.Test.YthkbgoohiinmbaaQFnMonoid1
set_option linter.unusedVariables false
set_option linter.unusedSimpArgs false
set_option linter.unusedSectionVars false
set_option maxHeartbeats 8000000
set_option maxRecDepth 100000
namespace Go.Proofs.Ythkbgoohiinmbaa.A
open Go.RowKit Ythkbgoohiinmbaa.Ext YthkbgoohiinmbaaW.PrintWords YthkbgoohiinmbaaW.PrintLast YthkbgoohiinmbaaW.PrintMore
attribute [local go_sem] max2_int min2_int max_two min_two max_three min_three max_four min_four
mutual
def spec_IsValidDfa.j0:Nat→Int→Bool→List Bool→List (List Int)→Option (Bool)
 | 0,_,_,_,_=>none
 | k+1,x3,x18,x26002000,x26002001=>if x18=true then (some false) else (spec_IsValidDfa.l0 k x3 0 x26002000 x26002001)
def spec_IsValidDfa.l0:Nat→Int→Int→List Bool→List (List Int)→Option (Bool)
 | 0,_,_,_,_=>none
 | k+1,x3,x4,x26002000,x26002001=>if x4 < x3 then (if 0≤x4 then (if x4 < (x26002001.length:Int) then (if ((rd_L3 x26002001 x4).length:Int)=3 then (spec_IsValidDfa.l1 k x3 x4 0 x26002000 x26002001) else (some false)) else (none)) else (none)) else (some true)
def spec_IsValidDfa.l1:Nat→Int→Int→Int→List Bool→List (List Int)→Option (Bool)
 | 0,_,_,_,_,_=>none
 | k+1,x3,x4,x5,x26002000,x26002001=>if 0≤x4 then (if x4 < (x26002001.length:Int) then (if x5 < ((rd_L3 x26002001 x4).length:Int) then (if 0≤x5 then ((spec_l1In.f (rd (rd_L3 x26002001 x4) x5) 0 (wrap64 (x3 - 1))).bind fun t26007=>(if t26007=true then (spec_IsValidDfa.l1 k x3 x4 (wrap64 (x5+1)) x26002000 x26002001) else (some false))) else (none)) else (spec_IsValidDfa.l0 k x3 (wrap64 (x4+1)) x26002000 x26002001)) else (none)) else (none)
end
def spec_IsValidDfa.f (k:Nat) (l0_0:List Bool) (l0_1:List (List Int)):Option (Bool):=(spec_l1In.f (l0_0.length:Int) 1 40).bind fun t26002=>(if t26002=true then (spec_IsValidDfa.j0 k (l0_0.length:Int) ((l0_1.length:Int) != (l0_0.length:Int)) l0_0 l0_1) else (spec_IsValidDfa.j0 k (l0_0.length:Int) true l0_0 l0_1))
theorem spec_IsValidDfa.calls (k:Nat) (A0_0:Option Addr) (c0_0:Nat) (l0_0:List Bool) (A0_1:Option Addr) (c0_1:Nat) (l0_1:List (List Int)) (r:Bool) (w:World) (hr0_0:Kd.C Kd.bool w A0_0 l0_0.length l0_0) (hc0_0:l0_0.length≤c0_0) (hr0_1:Kd.C (Kd.slice 3 (Kd.int .i64)) w A0_1 l0_1.length l0_1) (hc0_1:l0_1.length≤c0_1) (h:spec_IsValidDfa.f k l0_0 l0_1=some r) :
   Calls Try.prog 26 #[.agg #[.slice A0_0 l0_0.length c0_0,.slice A0_1 l0_1.length c0_1]] w fun e w'=>e = .returned (.bool r)∧Below w.heap.size w w':=by
 have hu27:=Try.underlying27
 have HR0_0:=zk hr0_0
 have HC0_0:=zk hc0_0
 clear hr0_0 hc0_0
 have HR0_1:=zk hr0_1
 have HC0_1:=zk hc0_1
 clear hr0_1 hc0_1
 have HB:=zk (Below.refl w.heap.size w)
 have H:=h
 unfold spec_IsValidDfa.f at H
 clear h
 have HC2:=zk H
 clear H
 go_enter Try.func26,Try.ntmps26
 go_upto_region 2 with (first|((with_reducible refine gate_dst (N:=1) rfl ?_);(try (refine gate_guard (by rfl) ?_;dsimp only));refine zE (cs:=#[.slice A0_0 l0_0.length c0_0,.slice A0_1 l0_1.length c0_1]) (t:=27) ?_;intro gb1 hg w3 hbox hb;have BK1:=zk hbox;have GW1:=zk (zs (w:=w) hg za3);have GE1:=GW1;replace HB:=yB HB hb;clear hb hbox hg;obtain ⟨hcz4_0,hcz4_1,hfz4_0,hfz4_1⟩:=blk2 BK1.out))
 (try simp only [Act.put,zt,zu,zv])
 go_cut [18] (fun v18 wc=>∃ (kq:Nat) (x18_1:Bool),v18 = .bool x18_1∧Aside0 (spec_IsValidDfa.j0 kq (l0_0.length:Int) x18_1 l0_0 l0_1=some r)∧Aside0 (kq≤k)∧Aside0 (wc.heap[gb1]? = some (.cells #[(.slice A0_0 l0_0.length c0_0),(.slice A0_1 l0_1.length c0_1)] 27 (0,0)))∧Aside0 (Below w.heap.size w wc))
 case first =>
  have H:=HC2.out
  clear HC2
  obtain ⟨t2,A5,H⟩:=zO H
  try dsimp only at H
  by_cases c6:t2=true
  subst c6
  have H1:(spec_IsValidDfa.j0 k (l0_0.length:Int) ((l0_1.length:Int) != (l0_0.length:Int)) l0_0 l0_1)=some r:=by rw [if_pos rfl] at H;exact H
  have fin0_:=zk trivial
  rotate_left
  replace c6:=Bool.eq_false_iff.mpr c6
  subst c6
  have H1:(spec_IsValidDfa.j0 k (l0_0.length:Int) true l0_0 l0_1)=some r:=by rw [if_neg zff] at H;exact H
  have fin1_:=zk trivial
  rotate_left
  all_goals
   clear H
   have H:=H1
   clear H1
   have H':=zk H
   clear H
   go_wp2_with (((with_reducible refine gate_callee (f:=35) rfl ?_);refine zg (some 10) Try.func35 #[.int .i64 (l0_0.length:Int),.int .i64 1,.int .i64 40] rfl za4 ?_;(with_reducible refine (spec_l1In.calls (l0_0.length:Int) 1 40 _ _ A5.out).mono ?_);rintro e w' ⟨rfl,⟨nd,rfl⟩⟩;refine ⟨_,rfl,?_⟩;obtain ⟨hcz7_0,hcz7_1,hfz7_0,hfz7_1⟩:=blk2 BK1.out))
   first
   | (
     clear fin0_
     go_meet
     case rel=>exact ⟨_,(((l0_1.length:Int) != (l0_0.length:Int))),za13,H',⟨za62⟩,⟨za0 BK1.out⟩,⟨za3⟩⟩)
   | (
     clear fin1_
     go_meet
     case rel=>exact ⟨_,(true),za13,H',⟨za62⟩,⟨za0 BK1.out⟩,⟨za3⟩⟩)
 case rest =>
  clear HC2
  try clear hcz4_0
  try clear hcz4_1
  try clear hfz4_0
  try clear hfz4_1
  obtain ⟨kq,x18_1,rfl,HA,HJ1,BK1,HB⟩:=hcut
  cases kq with
  | zero=>exact absurd HA.out (by simp [spec_IsValidDfa.j0])
  | succ kj1 =>
   have H:=HA.out
   clear HA
   simp only [spec_IsValidDfa.j0] at H
   by_cases c8:x18_1=true
   ·subst c8
    rw [if_pos rfl] at H
    try dsimp only at H
    obtain rfl:=zi H
    go_wp2
    go_ret
    exact ⟨za15,za3⟩
   ·replace c8:=Bool.eq_false_iff.mpr c8
    subst c8
    rw [if_neg zff] at H
    try dsimp only at H
    have H':=zk H
    clear H
    go_wp2
    try simp only [Act.put,zt,zv,zu]
    go_loopg [4] kj1 (fun kq v4 w'=>∃ (x4_2:Int),v4 = .int .i64 x4_2∧Aside0 (spec_IsValidDfa.l0 kq (l0_0.length:Int) x4_2 l0_0 l0_1=some r)∧Aside0 (kq≤kj1)∧Aside0 (w'.heap[gb1]? = some (.cells #[(.slice A0_0 l0_0.length c0_0),(.slice A0_1 l0_1.length c0_1)] 27 (0,0)))∧Aside0 (Below w.heap.size w w'))
    case atStart=>exact ⟨(0),za13,H',⟨Nat.le_refl _⟩,⟨za0 BK1.out⟩,⟨za3⟩⟩
    case round =>
     clear H'
     try clear c8
     try clear hcz4_0
     try clear hcz4_1
     try clear hfz4_0
     try clear hfz4_1
     obtain ⟨x4_2,rfl,HA,HK2,BK1,HB⟩:=hrel
     cases gk with
     | zero=>exact absurd HA.out (by simp [spec_IsValidDfa.l0])
     | succ k2 =>
      have H:=HA.out
      clear HA
      simp only [spec_IsValidDfa.l0] at H
      by_cases c9:x4_2 < (l0_0.length:Int)
      rw [if_pos c9] at H
      have c9b0:=zdl c9
      clear c9
      by_cases c10:0≤x4_2
      rw [if_pos c10] at H
      have c10b0:=zdle c10
      clear c10
      by_cases c11:x4_2 < (l0_1.length:Int)
      rw [if_pos c11] at H
      have c11b0:=zdl c11
      clear c11
      by_cases c12:((rd_L3 l0_1 x4_2).length:Int)=3
      · rw [if_pos c12] at H
        have c12b0:=zbt c12
        have c12b1:=zqn c12
        clear c12
        have H':=zk H
        clear H
        obtain ⟨hcz13_0,hcz13_1,hfz13_0,hfz13_1⟩:=blk2 BK1.out
        have p26003:0≤(x4_2:Int):=of_decide_eq_true za7
        have q26003:x4_2 < (l0_1.length:Int):=of_decide_eq_true za7
        obtain ⟨ad26003,A26003_0,c26003_0,e26003,hx26003_0,hl26003_0,hi26003_0⟩:=at_L3 HR0_1.out x4_2 p26003 q26003
        cases e26003
        replace hx26003_0:=zx HB.out hx26003_0
        have HR26003_0:=zk hi26003_0
        have HC26003_0:=zk hl26003_0
        clear hi26003_0 hl26003_0
        replace p26003:=eq_true p26003
        replace q26003:=eq_true q26003
        go_wp2
        try simp only [Act.put,zt,zv,zu]
        go_loopg [5] k2 (fun kq v5 w'=>∃ (x5_3:Int),v5 = .int .i64 x5_3∧Aside0 (spec_IsValidDfa.l1 kq (l0_0.length:Int) x4_2 x5_3 l0_0 l0_1=some r)∧Aside0 (kq≤k2)∧Aside0 (w'.heap[gb1]? = some (.cells #[(.slice A0_0 l0_0.length c0_0),(.slice (some ad26003) l0_1.length c0_1)] 27 (0,0)))∧Aside0 (Below w.heap.size w w'))
        case atStart=>exact ⟨(0),za13,H',⟨Nat.le_refl _⟩,⟨za0 BK1.out⟩,⟨za3⟩⟩
        case round =>
         clear H'
         try clear c8
         try clear c12
         try clear c12b0
         try clear c12b1
         try clear hcz13_0
         try clear hcz13_1
         try clear hcz4_0
         try clear hcz4_1
         try clear hfz13_0
         try clear hfz13_1
         try clear hfz4_0
         try clear hfz4_1
         try clear hx26003_0
         try clear p26003
         try clear q26003
         obtain ⟨x5_3,rfl,HA,HK3,BK1,HB⟩:=hrel
         cases gk with
         | zero=>exact absurd HA.out (by simp [spec_IsValidDfa.l1])
         | succ k3 =>
          have H:=HA.out
          clear HA
          simp only [spec_IsValidDfa.l1] at H
          by_cases c14:0≤x4_2
          rw [if_pos c14] at H
          have c14b0:=zdle c14
          clear c14
          by_cases c15:x4_2 < (l0_1.length:Int)
          rw [if_pos c15] at H
          have c15b0:=zdl c15
          clear c15
          by_cases c16:x5_3 < ((rd_L3 l0_1 x4_2).length:Int)
          rw [if_pos c16] at H
          have c16b0:=zdl c16
          clear c16
          by_cases c17:0≤x5_3
          rw [if_pos c17] at H
          have c17b0:=zdle c17
          clear c17
          obtain ⟨t7,A18,H⟩:=zO H
          try dsimp only at H
          by_cases c19:t7=true
          subst c19
          rw [if_pos rfl] at H
          try dsimp only at H
          have H':=zk H
          clear H
          have fin0_:=zk trivial
          rotate_left
          replace c19:=Bool.eq_false_iff.mpr c19
          subst c19
          rw [if_neg zff] at H
          try dsimp only at H
          obtain rfl:=zi H
          have fin1_:=zk trivial
          rotate_left
          · rw [if_neg c17] at H
            exact absurd H (by simp)
          · rw [if_neg c16] at H
            have c16b0:=zdnl c16
            clear c16
            have H':=zk H
            clear H
            obtain ⟨hcz22_0,hcz22_1,hfz22_0,hfz22_1⟩:=blk2 BK1.out
            have p26004:0≤(x4_2:Int):=of_decide_eq_true za7
            have q26004:x4_2 < (l0_1.length:Int):=of_decide_eq_true za7
            obtain ⟨ad26004,A26004_0,c26004_0,e26004,hx26004_0,hl26004_0,hi26004_0⟩:=at_L3 HR0_1.out x4_2 p26004 q26004
            obtain rfl:ad26003=ad26004:=(by injection e26004)
            replace hx26004_0:=zx HB.out hx26004_0
            have HR26004_0:=zk hi26004_0
            have HC26004_0:=zk hl26004_0
            clear hi26004_0 hl26004_0
            replace p26004:=eq_true p26004
            replace q26004:=eq_true q26004
            go_wp2
            go_roundg k3
            case measure=>have:=HJ1.out;have:=HK2.out;have:=HK3.out;omega
            case rel=>exact ⟨(wrap64 (x4_2+1)),za13,H',⟨by have:=HJ1.out;have:=HK2.out;have:=HK3.out;omega⟩,⟨za0 BK1.out⟩,⟨za3⟩⟩
          · rw [if_neg c15] at H
            exact absurd H (by simp)
          · rw [if_neg c14] at H
            exact absurd H (by simp)
          all_goals
           obtain ⟨hcz20_0,hcz20_1,hfz20_0,hfz20_1⟩:=blk2 BK1.out
           have p26004:0≤(x4_2:Int):=of_decide_eq_true za7
           have q26004:x4_2 < (l0_1.length:Int):=of_decide_eq_true za7
           obtain ⟨ad26004,A26004_0,c26004_0,e26004,hx26004_0,hl26004_0,hi26004_0⟩:=at_L3 HR0_1.out x4_2 p26004 q26004
           obtain rfl:ad26003=ad26004:=(by injection e26004)
           replace hx26004_0:=zx HB.out hx26004_0
           have HR26004_0:=zk hi26004_0
           have HC26004_0:=zk hl26004_0
           clear hi26004_0 hl26004_0
           replace p26004:=eq_true p26004
           replace q26004:=eq_true q26004
           have p26005:0≤(x4_2:Int):=of_decide_eq_true za7
           have q26005:x4_2 < (l0_1.length:Int):=of_decide_eq_true za7
           obtain ⟨ad26005,A26005_0,c26005_0,e26005,hx26005_0,hl26005_0,hi26005_0⟩:=at_L3 HR0_1.out x4_2 p26005 q26005
           obtain rfl:ad26003=ad26005:=(by injection e26005)
           replace hx26005_0:=zx HB.out hx26005_0
           have HR26005_0:=zk hi26005_0
           have HC26005_0:=zk hl26005_0
           clear hi26005_0 hl26005_0
           replace p26005:=eq_true p26005
           replace q26005:=eq_true q26005
           have ea_:=zi (hx26004_0.symm.trans hx26005_0)
           injection ea_ with ea_ en_ ec_
           subst ea_
           subst ec_
           clear en_
           have p26006:0≤(x5_3:Int):=of_decide_eq_true za7
           have q26006:x5_3 < ((rd_L3 l0_1 x4_2).length:Int):=of_decide_eq_true za7
           obtain ⟨ad26006,e26006,hx26006_0⟩:=Kd.at_int HR26005_0.out x5_3 p26006 q26006
           cases e26006
           replace hx26006_0:=zx HB.out hx26006_0
           replace p26006:=eq_true p26006
           replace q26006:=eq_true q26006
           go_wp2_with (((with_reducible refine gate_callee (f:=35) rfl ?_);refine zg (some 51) Try.func35 #[.int .i64 (rd (rd_L3 l0_1 x4_2) x5_3),.int .i64 0,.int .i64 (wrap64 ((l0_0.length:Int) - 1))] rfl za4 ?_;(with_reducible refine (spec_l1In.calls (rd (rd_L3 l0_1 x4_2) x5_3) 0 (wrap64 ((l0_0.length:Int) - 1)) _ _ A18.out).mono ?_);rintro e w' ⟨rfl,⟨nd,rfl⟩⟩;refine ⟨_,rfl,?_⟩))
           first
           | (
             clear fin0_
             go_roundg k3
             case measure=>have:=HJ1.out;have:=HK2.out;have:=HK3.out;omega
             case rel=>exact ⟨(wrap64 (x5_3+1)),za13,H',⟨by have:=HJ1.out;have:=HK2.out;have:=HK3.out;omega⟩,⟨za0 BK1.out⟩,⟨za3⟩⟩)
           | (
             clear fin1_
             go_ret
             exact ⟨za15,za3⟩)
      rw [if_neg c12] at H
      have c12b0:=zbn c12
      have c12b1:=zqt c12
      obtain rfl:=zi H
      obtain ⟨hcz23_0,hcz23_1,hfz23_0,hfz23_1⟩:=blk2 BK1.out
      have p26003:0≤(x4_2:Int):=of_decide_eq_true za7
      have q26003:x4_2 < (l0_1.length:Int):=of_decide_eq_true za7
      obtain ⟨ad26003,A26003_0,c26003_0,e26003,hx26003_0,hl26003_0,hi26003_0⟩:=at_L3 HR0_1.out x4_2 p26003 q26003
      cases e26003
      replace hx26003_0:=zx HB.out hx26003_0
      have HR26003_0:=zk hi26003_0
      have HC26003_0:=zk hl26003_0
      clear hi26003_0 hl26003_0
      replace p26003:=eq_true p26003
      replace q26003:=eq_true q26003
      rotate_left
      · rw [if_neg c11] at H
        exact absurd H (by simp)
      · rw [if_neg c10] at H
        exact absurd H (by simp)
      rw [if_neg c9] at H
      have c9b0:=zdnl c9
      clear c9
      obtain rfl:=zi H
      rotate_left
      all_goals
       go_wp2
       go_ret
       exact ⟨za15,za3⟩
def spec_l5Ints.l0:Nat→List Int→List Int→Int→Option (Bool)
 | 0,_,_,_=>none
 | k+1,x0,x1,x5=>if x5 < (x0.length:Int) then (if 0≤x5 then (if x5 < (x1.length:Int) then (if (rd x0 x5)=(rd x1 x5) then (spec_l5Ints.l0 k x0 x1 (wrap64 (x5+1))) else (some false)) else (none)) else (none)) else (some true)
def spec_l5Ints.f (k:Nat) (l0:List Int) (l1:List Int):Option (Bool):=if (l0.length:Int)=(l1.length:Int) then (spec_l5Ints.l0 k l0 l1 0) else (some false)
theorem spec_l5Ints.calls (k:Nat) (A0:Option Addr) (c0:Nat) (l0:List Int) (A1:Option Addr) (c1:Nat) (l1:List Int) (r:Bool) (w:World) (hr0:Kd.C (Kd.int .i64) w A0 l0.length l0) (hc0:l0.length≤c0) (hr1:Kd.C (Kd.int .i64) w A1 l1.length l1) (hc1:l1.length≤c1) (h:spec_l5Ints.f k l0 l1=some r) :
  Calls Try.prog 51 #[.slice A0 l0.length c0,.slice A1 l1.length c1] w fun e w'=>e = .returned (.bool r)∧Drawn0 w w':=by
 have HR0:=zk hr0
 have HC0:=zk hc0
 clear hr0 hc0
 have HR1:=zk hr1
 have HC1:=zk hc1
 clear hr1 hc1
 have H:=h
 unfold spec_l5Ints.f at H
 clear h
 by_cases c3:(l0.length:Int)=(l1.length:Int)
 ·rw [if_pos c3] at H
  have c3b0:=zbt c3
  have c3b1:=zqn c3
  have c3b2:(l0.length == l1.length)=true:=by first|simpa using c3|(simp at c3 ⊢;omega)
  clear c3
  have H':=zk H
  clear H
  go_enter Try.func51,Try.ntmps51
  go_wp2
  repeat (go_quiet (fail);try go_wp2)
  try simp only [Act.put,zt,zv,zu]
  go_loopg [5] k (fun kq v5 w'=>∃ (x5_1:Int),v5 = .int .i64 x5_1∧Aside0 (spec_l5Ints.l0 kq l0 l1 x5_1=some r)∧Aside0 (kq≤k)∧Drawn0 w w')
  case atStart=>exact ⟨(0),za13,H',⟨Nat.le_refl _⟩,za25⟩
  case round =>
   clear H'
   try clear c3
   try clear c3b0
   try clear c3b1
   try clear c3b2
   obtain ⟨x5_1,rfl,HA,HK1,⟨m1,rfl⟩⟩:=hrel
   cases gk with
   | zero=>exact absurd HA.out (by simp [spec_l5Ints.l0])
   | succ k1 =>
    have H:=HA.out
    clear HA
    simp only [spec_l5Ints.l0] at H
    by_cases c4:x5_1 < (l0.length:Int)
    rw [if_pos c4] at H
    have c4b0:=zdl c4
    clear c4
    by_cases c5:0≤x5_1
    rw [if_pos c5] at H
    have c5b0:=zdle c5
    clear c5
    by_cases c6:x5_1 < (l1.length:Int)
    rw [if_pos c6] at H
    have c6b0:=zdl c6
    clear c6
    by_cases c7:(rd l0 x5_1)=(rd l1 x5_1)
    rw [if_pos c7] at H
    have c7b0:=zbt c7
    have c7b1:=zqn c7
    clear c7
    have H':=zk H
    clear H
    have fin0_:=zk trivial
    rotate_left
    rw [if_neg c7] at H
    have c7b0:=zbn c7
    have c7b1:=zqt c7
    obtain rfl:=zi H
    have fin1_:=zk trivial
    rotate_left
    · rw [if_neg c6] at H
      exact absurd H (by simp)
    · rw [if_neg c5] at H
      exact absurd H (by simp)
    · rw [if_neg c4] at H
      have c4b0:=zdnl c4
      clear c4
      obtain rfl:=zi H
      go_wp2
      repeat (go_quiet (fail);try go_wp2)
      go_ret
      exact ⟨za13,za25⟩
    all_goals
     have p51001:0≤(x5_1:Int):=of_decide_eq_true za7
     have q51001:x5_1 < (l0.length:Int):=of_decide_eq_true za7
     obtain ⟨ad51001,e51001,hx51001_0⟩:=Kd.at_int HR0.out x5_1 p51001 q51001
     cases e51001
     replace p51001:=eq_true p51001
     replace q51001:=eq_true q51001
     have p51002:0≤(x5_1:Int):=of_decide_eq_true za7
     have q51002:x5_1 < (l1.length:Int):=of_decide_eq_true za7
     obtain ⟨ad51002,e51002,hx51002_0⟩:=Kd.at_int HR1.out x5_1 p51002 q51002
     cases e51002
     replace p51002:=eq_true p51002
     replace q51002:=eq_true q51002
     go_wp2
     repeat (go_quiet (fail);try go_wp2)
     first
     | (
       clear fin0_
       go_roundg k1
       case measure=>have:=HK1.out;omega
       case rel=>exact ⟨(wrap64 (x5_1+1)),za13,H',⟨za61⟩,za25⟩)
     | (
       clear fin1_
       go_ret
       exact ⟨za13,za25⟩)
 ·rw [if_neg c3] at H
  have c3b0:=zbn c3
  have c3b1:=zqt c3
  have c3b2:(l0.length == l1.length)=false:=by first|simpa using c3|(simp at c3 ⊢;omega)
  obtain rfl:=zi H
  go_enter Try.func51,Try.ntmps51
  go_wp2
  repeat (go_quiet (fail);try go_wp2)
  go_ret
  exact ⟨za13,za25⟩
mutual
def spec_RunDfa.j0:Nat→Int→ByteArray→Bool→List Bool→List (List Int)→Option (Int × Bool)
 | 0,_,_,_,_,_=>none
 | k+1,x1,x2,x26,x11002000,x11002001=>if x26=true then (some (0,false)) else (spec_RunDfa.l0 k x2 x1 0 x11002000 x11002001)
def spec_RunDfa.l0:Nat→ByteArray→Int→Int→List Bool→List (List Int)→Option (Int × Bool)
 | 0,_,_,_,_,_=>none
 | k+1,x2,x8,x9,x11002000,x11002001=>if x9 < (x2.size:Int) then (if 0≤x8 then (if x8 < (x11002001.length:Int) then (if 0≤x9 then ((spec_LetterIndex.f k (bt x2 x9)).bind fun t11006=>(if 0≤t11006 then (if t11006 < ((rd_L3 x11002001 x8).length:Int) then (spec_RunDfa.l0 k x2 (rd (rd_L3 x11002001 x8) t11006) (wrap64 (x9+1)) x11002000 x11002001) else (none)) else (none))) else (none)) else (none)) else (none)) else (some (x8,true))
end
def spec_RunDfa.f (k:Nat) (l0_0:List Bool) (l0_1:List (List Int)) (a1:Int) (a2:ByteArray):Option (Int × Bool):=(spec_IsValidDfa.f k l0_0 l0_1).bind fun t11002=>(if t11002=true then ((spec_l1In.f a1 0 (wrap64 ((l0_0.length:Int) - 1))).bind fun t11003=>(if t11003=true then ((spec_IsWord.f k a2).bind fun t11004=>(spec_RunDfa.j0 k a1 a2 (!t11004) l0_0 l0_1)) else (spec_RunDfa.j0 k a1 a2 true l0_0 l0_1))) else (spec_RunDfa.j0 k a1 a2 true l0_0 l0_1))
theorem spec_RunDfa.calls (k:Nat) (A0_0:Option Addr) (c0_0:Nat) (l0_0:List Bool) (A0_1:Option Addr) (c0_1:Nat) (l0_1:List (List Int)) (a1:Int) (a2:ByteArray) (r1:Int) (r2:Bool) (w:World) (hr0_0:Kd.C Kd.bool w A0_0 l0_0.length l0_0) (hc0_0:l0_0.length≤c0_0) (hr0_1:Kd.C (Kd.slice 3 (Kd.int .i64)) w A0_1 l0_1.length l0_1) (hc0_1:l0_1.length≤c0_1) (h:spec_RunDfa.f k l0_0 l0_1 a1 a2=some (r1,r2)) :
   Calls Try.prog 11 #[.agg #[.slice A0_0 l0_0.length c0_0,.slice A0_1 l0_1.length c0_1],.int .i64 a1,.string a2] w fun e w'=>e = .returned (.tuple #[.int .i64 r1,.bool r2])∧Below w.heap.size w w':=by
 have hu27:=Try.underlying27
 have HR0_0:=zk hr0_0
 have HC0_0:=zk hc0_0
 clear hr0_0 hc0_0
 have HR0_1:=zk hr0_1
 have HC0_1:=zk hc0_1
 clear hr0_1 hc0_1
 have HB:=zk (Below.refl w.heap.size w)
 have H:=h
 unfold spec_RunDfa.f at H
 clear h
 have HC4:=zk H
 clear H
 go_enter Try.func11,Try.ntmps11
 go_upto_region 1 with (first|((with_reducible refine gate_dst (N:=3) rfl ?_);(try (refine gate_guard (by rfl) ?_;dsimp only));refine zE (cs:=#[.slice A0_0 l0_0.length c0_0,.slice A0_1 l0_1.length c0_1]) (t:=27) ?_;intro gb1 hg w5 hbox hb;have BK1:=zk hbox;have GW1:=zk (zs (w:=w) hg za3);have GE1:=GW1;replace HB:=yB HB hb;clear hb hbox hg))
 repeat (go_quiet (first|((with_reducible refine gate_dst (N:=3) rfl ?_);(try (refine gate_guard (by rfl) ?_;dsimp only));refine zE (cs:=#[.slice A0_0 l0_0.length c0_0,.slice A0_1 l0_1.length c0_1]) (t:=27) ?_;intro gb1 hg w5 hbox hb;have BK1:=zk hbox;have GW1:=zk (zs (w:=w) hg za3);have GE1:=GW1;replace HB:=yB HB hb;clear hb hbox hg));go_upto_region 1 with (first|((with_reducible refine gate_dst (N:=3) rfl ?_);(try (refine gate_guard (by rfl) ?_;dsimp only));refine zE (cs:=#[.slice A0_0 l0_0.length c0_0,.slice A0_1 l0_1.length c0_1]) (t:=27) ?_;intro gb1 hg w5 hbox hb;have BK1:=zk hbox;have GW1:=zk (zs (w:=w) hg za3);have GE1:=GW1;replace HB:=yB HB hb;clear hb hbox hg)))
 (try simp only [Act.put,zt,zu,zv])
 go_cut [26] (fun v26 wc=>∃ (kq:Nat) (x26_3:Bool),v26 = .bool x26_3∧Aside0 (spec_RunDfa.j0 kq a1 a2 x26_3 l0_0 l0_1=some (r1,r2))∧Aside0 (kq≤k)∧Aside0 (wc.heap[gb1]? = some (.cells #[(.slice A0_0 l0_0.length c0_0),(.slice A0_1 l0_1.length c0_1)] 27 (0,0)))∧Aside0 (Below w.heap.size w wc))
 case first =>
  have H:=HC4.out
  clear HC4
  obtain ⟨t2,A6,H⟩:=zO H
  try dsimp only at H
  by_cases c7:t2=true
  subst c7
  rw [if_pos rfl] at H
  try dsimp only at H
  obtain ⟨t3,A8,H⟩:=zO H
  try dsimp only at H
  by_cases c9:t3=true
  subst c9
  rw [if_pos rfl] at H
  try dsimp only at H
  obtain ⟨t4,A10,H⟩:=zO H
  try dsimp only at H
  have fin0_:=zk trivial
  rotate_left
  replace c9:=Bool.eq_false_iff.mpr c9
  subst c9
  rw [if_neg zff] at H
  try dsimp only at H
  have fin1_:=zk trivial
  rotate_left
  replace c7:=Bool.eq_false_iff.mpr c7
  subst c7
  rw [if_neg zff] at H
  try dsimp only at H
  have fin1_:=zk trivial
  rotate_left
  all_goals
   have H':=zk H
   clear H
   obtain ⟨hcz11_0,hcz11_1,hfz11_0,hfz11_1⟩:=blk2 BK1.out
   go_wp2_with (first|(go_at_call 26;(with_reducible refine (spec_IsValidDfa.calls k _ _ l0_0 _ _ l0_1 _ _ ?side1 ?side2 ?side3 ?side4 A6.out).mono ?_);(case side1=>repeat (first|exact (Kd.C_below HR0_0.out HB.out)|(with_reducible refine Kd.C_alloc ?_ _)|(with_reducible refine Kd.C_drewN ?_ _)|(with_reducible refine Kd.C_drew ?_)));(case side2=>exact HC0_0.out);(case side3=>repeat (first|exact (Kd.C_below HR0_1.out HB.out)|(with_reducible refine Kd.C_alloc ?_ _)|(with_reducible refine Kd.C_drewN ?_ _)|(with_reducible refine Kd.C_drew ?_)));(case side4=>exact HC0_1.out);rintro e w12 ⟨rfl,hb⟩;replace BK1:=yb BK1 hb;replace HB:=yB HB hb;(try clear hb);obtain ⟨hcz13_0,hcz13_1,hfz13_0,hfz13_1⟩:=blk2 BK1.out)|(go_at_call 35;(with_reducible refine (spec_l1In.calls a1 0 (wrap64 ((l0_0.length:Int) - 1)) _ _ A8.out).mono ?_);rintro e w' ⟨rfl,⟨nd,rfl⟩⟩;(try first|exact ⟨rfl,_,World.drewN_drewN _ _ _⟩|exact ⟨rfl,_,Eq.trans (World.drewN_drewN _ _ _) (congrArg (World.drewN _) (Nat.add_assoc _ _ _))⟩))|(go_at_call 36;(with_reducible refine (spec_IsWord.calls k a2 t4 _ A10.out).mono ?_);rintro e w' ⟨rfl,⟨nd,rfl⟩⟩;(try first|exact ⟨rfl,_,World.drewN_drewN _ _ _⟩|exact ⟨rfl,_,Eq.trans (World.drewN_drewN _ _ _) (congrArg (World.drewN _) (Nat.add_assoc _ _ _))⟩)))
   repeat (go_quiet (first|(go_at_call 26;(with_reducible refine (spec_IsValidDfa.calls k _ _ l0_0 _ _ l0_1 _ _ ?side1 ?side2 ?side3 ?side4 A6.out).mono ?_);(case side1=>repeat (first|exact (Kd.C_below HR0_0.out HB.out)|(with_reducible refine Kd.C_alloc ?_ _)|(with_reducible refine Kd.C_drewN ?_ _)|(with_reducible refine Kd.C_drew ?_)));(case side2=>exact HC0_0.out);(case side3=>repeat (first|exact (Kd.C_below HR0_1.out HB.out)|(with_reducible refine Kd.C_alloc ?_ _)|(with_reducible refine Kd.C_drewN ?_ _)|(with_reducible refine Kd.C_drew ?_)));(case side4=>exact HC0_1.out);rintro e w12 ⟨rfl,hb⟩;replace BK1:=yb BK1 hb;replace HB:=yB HB hb;(try clear hb);obtain ⟨hcz13_0,hcz13_1,hfz13_0,hfz13_1⟩:=blk2 BK1.out)|(go_at_call 35;(with_reducible refine (spec_l1In.calls a1 0 (wrap64 ((l0_0.length:Int) - 1)) _ _ A8.out).mono ?_);rintro e w' ⟨rfl,⟨nd,rfl⟩⟩;(try first|exact ⟨rfl,_,World.drewN_drewN _ _ _⟩|exact ⟨rfl,_,Eq.trans (World.drewN_drewN _ _ _) (congrArg (World.drewN _) (Nat.add_assoc _ _ _))⟩))|(go_at_call 36;(with_reducible refine (spec_IsWord.calls k a2 t4 _ A10.out).mono ?_);rintro e w' ⟨rfl,⟨nd,rfl⟩⟩;(try first|exact ⟨rfl,_,World.drewN_drewN _ _ _⟩|exact ⟨rfl,_,Eq.trans (World.drewN_drewN _ _ _) (congrArg (World.drewN _) (Nat.add_assoc _ _ _))⟩)));try go_wp2_with (first|(go_at_call 26;(with_reducible refine (spec_IsValidDfa.calls k _ _ l0_0 _ _ l0_1 _ _ ?side1 ?side2 ?side3 ?side4 A6.out).mono ?_);(case side1=>repeat (first|exact (Kd.C_below HR0_0.out HB.out)|(with_reducible refine Kd.C_alloc ?_ _)|(with_reducible refine Kd.C_drewN ?_ _)|(with_reducible refine Kd.C_drew ?_)));(case side2=>exact HC0_0.out);(case side3=>repeat (first|exact (Kd.C_below HR0_1.out HB.out)|(with_reducible refine Kd.C_alloc ?_ _)|(with_reducible refine Kd.C_drewN ?_ _)|(with_reducible refine Kd.C_drew ?_)));(case side4=>exact HC0_1.out);rintro e w12 ⟨rfl,hb⟩;replace BK1:=yb BK1 hb;replace HB:=yB HB hb;(try clear hb);obtain ⟨hcz13_0,hcz13_1,hfz13_0,hfz13_1⟩:=blk2 BK1.out)|(go_at_call 35;(with_reducible refine (spec_l1In.calls a1 0 (wrap64 ((l0_0.length:Int) - 1)) _ _ A8.out).mono ?_);rintro e w' ⟨rfl,⟨nd,rfl⟩⟩;(try first|exact ⟨rfl,_,World.drewN_drewN _ _ _⟩|exact ⟨rfl,_,Eq.trans (World.drewN_drewN _ _ _) (congrArg (World.drewN _) (Nat.add_assoc _ _ _))⟩))|(go_at_call 36;(with_reducible refine (spec_IsWord.calls k a2 t4 _ A10.out).mono ?_);rintro e w' ⟨rfl,⟨nd,rfl⟩⟩;(try first|exact ⟨rfl,_,World.drewN_drewN _ _ _⟩|exact ⟨rfl,_,Eq.trans (World.drewN_drewN _ _ _) (congrArg (World.drewN _) (Nat.add_assoc _ _ _))⟩))))
   first
   | (
     clear fin0_
     go_meet
     case rel=>exact ⟨_,(!t4),za13,H',⟨za62⟩,⟨za0 BK1.out⟩,⟨za3⟩⟩)
   | (
     clear fin1_
     go_meet
     case rel=>exact ⟨_,(true),za13,H',⟨za62⟩,⟨za0 BK1.out⟩,⟨za3⟩⟩)
 case rest =>
  clear HC4
  obtain ⟨kq,x26_3,rfl,HA,HJ3,BK1,HB⟩:=hcut
  cases kq with
  | zero=>exact absurd HA.out (by simp [spec_RunDfa.j0])
  | succ kj3 =>
   have H:=HA.out
   clear HA
   simp only [spec_RunDfa.j0] at H
   by_cases c19:x26_3=true
   ·subst c19
    rw [if_pos rfl] at H
    try dsimp only at H
    simp only [Option.some.injEq,Prod.mk.injEq] at H
    obtain ⟨rfl,rfl⟩:=H
    go_wp2
    repeat (go_quiet (fail);try go_wp2)
    go_ret2
    exact ⟨za15,za3⟩
   ·replace c19:=Bool.eq_false_iff.mpr c19
    subst c19
    rw [if_neg zff] at H
    try dsimp only at H
    have H':=zk H
    clear H
    go_wp2
    repeat (go_quiet (fail);try go_wp2)
    try simp only [Act.put,zt,zv,zu]
    go_loopg [8,9] kj3 (fun kq v8 v9 w'=>∃ (x8_2:Int) (x9_2:Int),v8 = .int .i64 x8_2∧v9 = .int .i64 x9_2∧Aside0 (spec_RunDfa.l0 kq a2 x8_2 x9_2 l0_0 l0_1=some (r1,r2))∧Aside0 (kq≤kj3)∧Aside0 (w'.heap[gb1]? = some (.cells #[(.slice A0_0 l0_0.length c0_0),(.slice A0_1 l0_1.length c0_1)] 27 (0,0)))∧Aside0 (Below w.heap.size w w'))
    case atStart=>exact ⟨(a1),(0),za13,za13,H',⟨Nat.le_refl _⟩,⟨za0 BK1.out⟩,⟨za3⟩⟩
    case round =>
     clear H'
     try clear c19
     obtain ⟨x8_2,x9_2,rfl,rfl,HA,HK2,BK1,HB⟩:=hrel
     cases gk with
     | zero=>exact absurd HA.out (by simp [spec_RunDfa.l0])
     | succ k2 =>
      have H:=HA.out
      clear HA
      simp only [spec_RunDfa.l0] at H
      by_cases c20:x9_2 < (a2.size:Int)
      rw [if_pos c20] at H
      have c20b0:=zdl c20
      clear c20
      by_cases c21:0≤x8_2
      rw [if_pos c21] at H
      have c21b0:=zdle c21
      clear c21
      by_cases c22:x8_2 < (l0_1.length:Int)
      rw [if_pos c22] at H
      have c22b0:=zdl c22
      clear c22
      by_cases c23:0≤x9_2
      rw [if_pos c23] at H
      have c23b0:=zdle c23
      clear c23
      obtain ⟨t6,A25,H⟩:=zO H
      try dsimp only at H
      by_cases c26:0≤t6
      rw [if_pos c26] at H
      have c26b0:=zdle c26
      clear c26
      by_cases c27:t6 < ((rd_L3 l0_1 x8_2).length:Int)
      ·rw [if_pos c27] at H
       have c27b0:=zdl c27
       clear c27
       have H':=zk H
       clear H
       obtain ⟨hcz28_0,hcz28_1,hfz28_0,hfz28_1⟩:=blk2 BK1.out
       have p11005:0≤(x8_2:Int):=of_decide_eq_true za7
       have q11005:x8_2 < (l0_1.length:Int):=of_decide_eq_true za7
       obtain ⟨ad11005,A11005_0,c11005_0,e11005,hx11005_0,hl11005_0,hi11005_0⟩:=at_L3 HR0_1.out x8_2 p11005 q11005
       cases e11005
       replace hx11005_0:=zx HB.out hx11005_0
       have HR11005_0:=zk hi11005_0
       have HC11005_0:=zk hl11005_0
       clear hi11005_0 hl11005_0
       replace p11005:=eq_true p11005
       replace q11005:=eq_true q11005
       have p24:0≤(x9_2:Int):=of_decide_eq_true za7
       have q24:x9_2 < (a2.size:Int):=of_decide_eq_true za7
       have hx24:=bt_at a2 x9_2
       replace p24:=eq_true p24
       replace q24:=eq_true q24
       go_wp2_with (first|(go_at_call 37;(with_reducible refine (spec_LetterIndex.calls k2 (bt a2 x9_2) t6 _ A25.out).mono ?_);rintro e w' ⟨rfl,⟨nd,rfl⟩⟩;(try first|exact ⟨rfl,_,World.drewN_drewN _ _ _⟩|exact ⟨rfl,_,Eq.trans (World.drewN_drewN _ _ _) (congrArg (World.drewN _) (Nat.add_assoc _ _ _))⟩);have p11007:0≤(t6:Int):=of_decide_eq_true za7;have q11007:t6 < ((rd_L3 l0_1 x8_2).length:Int):=of_decide_eq_true za7;obtain ⟨ad11007,e11007,hx11007_0⟩:=Kd.at_int HR11005_0.out t6 p11007 q11007;cases e11007;replace hx11007_0:=zx HB.out hx11007_0;replace p11007:=eq_true p11007;replace q11007:=eq_true q11007))
       repeat (go_quiet (first|(go_at_call 37;(with_reducible refine (spec_LetterIndex.calls k2 (bt a2 x9_2) t6 _ A25.out).mono ?_);rintro e w' ⟨rfl,⟨nd,rfl⟩⟩;(try first|exact ⟨rfl,_,World.drewN_drewN _ _ _⟩|exact ⟨rfl,_,Eq.trans (World.drewN_drewN _ _ _) (congrArg (World.drewN _) (Nat.add_assoc _ _ _))⟩);have p11007:0≤(t6:Int):=of_decide_eq_true za7;have q11007:t6 < ((rd_L3 l0_1 x8_2).length:Int):=of_decide_eq_true za7;obtain ⟨ad11007,e11007,hx11007_0⟩:=Kd.at_int HR11005_0.out t6 p11007 q11007;cases e11007;replace hx11007_0:=zx HB.out hx11007_0;replace p11007:=eq_true p11007;replace q11007:=eq_true q11007));try go_wp2_with (first|(go_at_call 37;(with_reducible refine (spec_LetterIndex.calls k2 (bt a2 x9_2) t6 _ A25.out).mono ?_);rintro e w' ⟨rfl,⟨nd,rfl⟩⟩;(try first|exact ⟨rfl,_,World.drewN_drewN _ _ _⟩|exact ⟨rfl,_,Eq.trans (World.drewN_drewN _ _ _) (congrArg (World.drewN _) (Nat.add_assoc _ _ _))⟩);have p11007:0≤(t6:Int):=of_decide_eq_true za7;have q11007:t6 < ((rd_L3 l0_1 x8_2).length:Int):=of_decide_eq_true za7;obtain ⟨ad11007,e11007,hx11007_0⟩:=Kd.at_int HR11005_0.out t6 p11007 q11007;cases e11007;replace hx11007_0:=zx HB.out hx11007_0;replace p11007:=eq_true p11007;replace q11007:=eq_true q11007)))
       go_roundg k2
       case measure=>have:=HJ3.out;have:=HK2.out;omega
       case rel=>exact ⟨(rd (rd_L3 l0_1 x8_2) t6),(wrap64 (x9_2+1)),za13,za13,H',⟨by have:=HJ3.out;have:=HK2.out;omega⟩,⟨za0 BK1.out⟩,⟨za3⟩⟩
      ·rw [if_neg c27] at H
       exact absurd H (by simp)
      ·rw [if_neg c26] at H
       exact absurd H (by simp)
      ·rw [if_neg c23] at H
       exact absurd H (by simp)
      ·rw [if_neg c22] at H
       exact absurd H (by simp)
      ·rw [if_neg c21] at H
       exact absurd H (by simp)
      ·rw [if_neg c20] at H
       have c20b0:=zdnl c20
       clear c20
       simp only [Option.some.injEq,Prod.mk.injEq] at H
       obtain ⟨rfl,rfl⟩:=H
       go_wp2
       repeat (go_quiet (fail);try go_wp2)
       go_ret2
       exact ⟨za15,za3⟩
def spec_l5Find.l0:Nat→List Int→Int→Int→Option (Int)
 | 0,_,_,_=>none
 | k+1,x0,x1,x5=>if x5 < (x0.length:Int) then (if 0≤x5 then (if (rd x0 x5)=x1 then (some x5) else (spec_l5Find.l0 k x0 x1 (wrap64 (x5+1)))) else (none)) else (some (-1))
def spec_l5Find.f (k:Nat) (l0:List Int) (a1:Int):Option (Int):=spec_l5Find.l0 k l0 a1 0
theorem spec_l5Find.calls (k:Nat) (A0:Option Addr) (c0:Nat) (l0:List Int) (a1:Int) (r:Int) (w:World) (hr0:Kd.C (Kd.int .i64) w A0 l0.length l0) (hc0:l0.length≤c0) (h:spec_l5Find.f k l0 a1=some r) :
   Calls Try.prog 44 #[.slice A0 l0.length c0,.int .i64 a1] w fun e w'=>e = .returned (.int .i64 r)∧Drawn0 w w':=by
 have HR0:=zk hr0
 have HC0:=zk hc0
 clear hr0 hc0
 have H:=h
 unfold spec_l5Find.f at H
 clear h
 have H':=zk H
 clear H
 go_enter Try.func44,Try.ntmps44
 go_wp2
 try simp only [Act.put,zt,zv,zu]
 go_loopg [5] k (fun kq v5 w'=>∃ (x5_1:Int),v5 = .int .i64 x5_1∧Aside0 (spec_l5Find.l0 kq l0 a1 x5_1=some r)∧Aside0 (kq≤k)∧Drawn0 w w')
 case atStart=>exact ⟨(0),za13,H',⟨Nat.le_refl _⟩,za25⟩
 case round =>
  clear H'
  obtain ⟨x5_1,rfl,HA,HK1,⟨m1,rfl⟩⟩:=hrel
  cases gk with
  | zero=>exact absurd HA.out (by simp [spec_l5Find.l0])
  | succ k1 =>
   have H:=HA.out
   clear HA
   simp only [spec_l5Find.l0] at H
   by_cases c3:x5_1 < (l0.length:Int)
   rw [if_pos c3] at H
   have c3b0:=zdl c3
   clear c3
   by_cases c4:0≤x5_1
   rw [if_pos c4] at H
   have c4b0:=zdle c4
   clear c4
   by_cases c5:(rd l0 x5_1)=a1
   rw [if_pos c5] at H
   have c5b0:=zbt c5
   have c5b1:=zqn c5
   clear c5
   obtain rfl:=zi H
   have fin0_:=zk trivial
   rotate_left
   rw [if_neg c5] at H
   have c5b0:=zbn c5
   have c5b1:=zqt c5
   have H':=zk H
   clear H
   have fin1_:=zk trivial
   rotate_left
   · rw [if_neg c4] at H
     exact absurd H (by simp)
   · rw [if_neg c3] at H
     have c3b0:=zdnl c3
     clear c3
     obtain rfl:=zi H
     go_wp2
     go_ret
     exact ⟨za13,za25⟩
   all_goals
    have p44001:0≤(x5_1:Int):=of_decide_eq_true za7
    have q44001:x5_1 < (l0.length:Int):=of_decide_eq_true za7
    obtain ⟨ad44001,e44001,hx44001_0⟩:=Kd.at_int HR0.out x5_1 p44001 q44001
    cases e44001
    replace p44001:=eq_true p44001
    replace q44001:=eq_true q44001
    go_wp2
    first
    | (
      clear fin0_
      go_ret
      exact ⟨za13,za25⟩)
    | (
      clear fin1_
      go_roundg k1
      case measure=>have:=HK1.out;omega
      case rel=>exact ⟨(wrap64 (x5_1+1)),za13,H',⟨za61⟩,za25⟩)
end Go.Proofs.Ythkbgoohiinmbaa.A
namespace Go.Proofs.Ythkbgoohiinmbaa.Ext
open Go.RowKit YthkbgoohiinmbaaW.PrintWords
variable {P : Program} {ops : Array Oper} {rest : List Oper} {o : Oper} {a : Act} {Q : Exit → Act → World → Prop} {α : Type}
theorem S_lita (d:Kd α) {w0 W:World} (base:Nat) (hgd:o.guard=none) {N:Tmp} (hd:o.dst=some N) (e:TypeId) (p:α) (cs:List Value) (ok okp:Nat→Prop)
  (hrun:(execOp a.eval o).run P W = .ok (.value (.slice (some ⟨W.heap.size,0,none⟩) 1 1)) (W.alloc (.cells cs.toArray e)))
  (hl:cs.length=d.sz) (hp:d.M W base okp p cs) (hokp:∀ k,okp k→ok k∧some k ≠ (Value.slice none 0 0).ownBlock) (hfresh:∀ k,W.heap.size≤k→ok k)
  (HB:Below base w0 W) (hbase:base≤W.heap.size)
  (h:∀ v1 w1,Kd.S d e w1 base ok v1 ([] ++ [p])→Below base w0 w1→W.grownBy w1 (Value.slice none 0 0).ownBlock→(v1.ownBlock=(Value.slice none 0 0).ownBlock∨∃ b,v1.ownBlock=some b∧W.heap.size≤b)→wpList P ops Q rest (a.put o.dst v1) w1) :
  wpList P ops Q (o :: rest) a W:=by
 refine Kd.S_lits d base e hgd hd (xs:=[p]) (inner:=cs) (ok:=ok) (fun j k=>j=0∧okp k) hrun (by rw [List.length_singleton,Nat.one_mul];exact hl) ?_ (fun i j k h1 h2=>h1.1.trans h2.1.symm) (fun j k hk=>(hokp k hk.2).1) (hfresh _ (Nat.le_refl _)) HB hbase (by simp) ?_
 ·intro j x hj
  rcases j with _|j
  ·simp only [List.getElem?_cons_zero,Option.some.injEq] at hj
   subst hj
   rw [Nat.zero_mul,List.drop_zero,List.take_of_length_le (by omega)]
   exact d.M_mono (fun k hk=>⟨rfl,hk⟩) hp
  ·simp at hj
 ·intro v1 w1 hs hb hg hn
  exact h v1 w1 hs hb hg (.inr hn)
end Go.Proofs.Ythkbgoohiinmbaa.Ext
namespace Go.Proofs.Ythkbgoohiinmbaa.A
open Go.RowKit Ythkbgoohiinmbaa.Ext YthkbgoohiinmbaaW.PrintWords YthkbgoohiinmbaaW.PrintLast YthkbgoohiinmbaaW.PrintMore
attribute [local go_sem] max2_int min2_int max_two min_two max_three min_three max_four min_four
mutual
def spec_l13Letters.l0:Nat→List (List Int)→Int→List Bool→List (List Int)→Option ((List (List Int)))
 | 0,_,_,_,_=>none
 | k+1,x3,x4,x27002000,x27002001=>if x4 < 3 then (spec_l13Letters.l1 k x3 x4 (([]:List Int)) 0 x27002000 x27002001) else (some x3)
def spec_l13Letters.l1:Nat→List (List Int)→Int→List Int→Int→List Bool→List (List Int)→Option ((List (List Int)))
 | 0,_,_,_,_,_,_=>none
 | k+1,x3,x4,x5,x6,x27002000,x27002001=>if x6 < (x27002001.length:Int) then (if 0≤x6 then (if 0≤x4 then (if x4 < ((rd_L3 x27002001 x6).length:Int) then (if x5.length < 17592186044416 then (spec_l13Letters.l1 k x3 x4 (x5 ++ [rd (rd_L3 x27002001 x6) x4]) (wrap64 (x6+1)) x27002000 x27002001) else (none)) else (none)) else (none)) else (none)) else (if x3.length < 5864062014805 then (spec_l13Letters.l0 k (x3 ++ [x5]) (wrap64 (x4+1)) x27002000 x27002001) else (none))
end
def spec_l13Letters.f (k:Nat) (l0_0:List Bool) (l0_1:List (List Int)):Option ((List (List Int))):=spec_l13Letters.l0 k (([]:List (List Int))) 0 l0_0 l0_1
theorem spec_l13Letters.calls (k:Nat) (A0_0:Option Addr) (c0_0:Nat) (l0_0:List Bool) (A0_1:Option Addr) (c0_1:Nat) (l0_1:List (List Int)) (r:List (List Int)) (w:World) (hr0_0:Kd.C Kd.bool w A0_0 l0_0.length l0_0) (hc0_0:l0_0.length≤c0_0) (hr0_1:Kd.C (Kd.slice 3 (Kd.int .i64)) w A0_1 l0_1.length l0_1) (hc0_1:l0_1.length≤c0_1) (h:spec_l13Letters.f k l0_0 l0_1=some r) :
   Calls Try.prog 27 #[.agg #[.slice A0_0 l0_0.length c0_0,.slice A0_1 l0_1.length c0_1]] w fun e w'=>∃ v0_:Value,e = .returned (v0_)∧Kd.S (Kd.slice 3 (Kd.int .i64)) 29 w' w.heap.size (fun _=>True) v0_ r∧Below w.heap.size w w':=by
 have hu27:=Try.underlying27
 have HR0_0:=zk hr0_0
 have HC0_0:=zk hc0_0
 clear hr0_0 hc0_0
 have HR0_1:=zk hr0_1
 have HC0_1:=zk hc0_1
 clear hr0_1 hc0_1
 have HB:=zk (Below.refl w.heap.size w)
 have H:=h
 unfold spec_l13Letters.f at H
 clear h
 obtain ⟨y27002,hy27002⟩:∃ y_:List (List Int),y_=(([]:List (List Int))):=⟨_,rfl⟩
 replace H:(spec_l13Letters.l0 k y27002 0 l0_0 l0_1)=some r:=by first|(rw [hy27002];with_reducible exact H)|(have H2_:=(Option.bind_some _ _).symm.trans H;rw [hy27002];with_reducible exact H2_)|(have H2_:=(Option.bind_some _ _).symm.trans H;with_reducible exact H2_)|with_reducible exact H|(rw [hy27002];exact H)|exact H
 have Ny2:=zk hy27002
 clear hy27002
 have H':=zk H
 clear H
 go_enter Try.func27,Try.ntmps27
 go_wp2_with (first|((with_reducible refine gate_dst (N:=1) rfl ?_);refine zE (cs:=#[.slice A0_0 l0_0.length c0_0,.slice A0_1 l0_1.length c0_1]) (t:=27) ?_;intro gb1 hg w2 hbox hb;have BK1:=zk hbox;have GW1:=zk (zs (w:=w) hg za3);have GE1:=GW1;replace HB:=yB HB hb;clear hb hbox hg)|((with_reducible refine gate_dst (N:=7) rfl ?_);refine Kd.S_lit (Kd.slice 3 (Kd.int .i64)) _ 29 ?hg (N:=7) ?hd (xs:=([]:List (List Int))) (inner:=[]) (ok:=fun _=>True) (okp:=fun _=>True) ?hr ?hp (fun _ hk=>hk) trivial (Below.refl _ _) (Nat.le_refl _) (by simp) ?_;(case hd=>rfl);(case hg=>rfl);(case hr=>first|(go_simp;done)|(go_simp;rfl));(case hp=>exact (Reps.none _ _));intro v27003 w3 ho4 hb hg_ hnew_;clear hg_ hnew_;(first|rw [← Ny2.out] at ho4|(simp only [Int.reduceToNat] at ho4;rw [← Ny2.out] at ho4));have HO4:=zk (Kd.S_lower ho4 (below_size za3));replace BK1:=yb BK1 hb;replace HB:=yB HB hb;clear hb ho4))
 try simp only [Act.put,zt,zv,zu]
 go_loopg [3,4] k (fun kq v3 v4 w'=>∃ (x3_1:List (List Int)) (x4_1:Int),v4 = .int .i64 x4_1∧Aside0 (spec_l13Letters.l0 kq x3_1 x4_1 l0_0 l0_1=some r)∧Aside0 (kq≤k)∧Aside0 (Kd.S (Kd.slice 3 (Kd.int .i64)) 29 w' w.heap.size (fun _=>True) v3 x3_1)∧Aside0 (w'.heap[gb1]? = some (.cells #[(.slice A0_0 l0_0.length c0_0),(.slice A0_1 l0_1.length c0_1)] 27 (0,0)))∧Aside0 (Below w.heap.size w w'))
 case atStart=>exact ⟨(y27002),(0),za13,H',⟨Nat.le_refl _⟩,⟨za2 HO4.out⟩,⟨za0 BK1.out⟩,⟨za3⟩⟩
 case round =>
  clear H'
  obtain ⟨x3_1,x4_1,rfl,HA,HK1,HO_3,BK1,HB⟩:=hrel
  cases gk with
  | zero=>exact absurd HA.out (by simp [spec_l13Letters.l0])
  | succ k1 =>
   have H:=HA.out
   clear HA
   simp only [spec_l13Letters.l0] at H
   by_cases c5:x4_1 < 3
   ·rw [if_pos c5] at H
    have c5b0:=zdl c5
    clear c5
    obtain ⟨y27005,hy27005⟩:∃ y_:List Int,y_=(([]:List Int)):=⟨_,rfl⟩
    replace H:(spec_l13Letters.l1 k1 x3_1 x4_1 y27005 0 l0_0 l0_1)=some r:=by first|(rw [hy27005];with_reducible exact H)|(have H2_:=(Option.bind_some _ _).symm.trans H;rw [hy27005];with_reducible exact H2_)|(have H2_:=(Option.bind_some _ _).symm.trans H;with_reducible exact H2_)|with_reducible exact H|(rw [hy27005];exact H)|exact H
    have Ny5:=zk hy27005
    clear hy27005
    have H':=zk H
    clear H
    go_wp2_with (first|((with_reducible refine gate_dst (N:=12) rfl ?_);refine Kd.R_lit (Kd.int .i64) _ 3 ?hg (N:=12) ?hd (xs:=([]:List Int)) (inner:=[]) (ok:=fun _=>True) (okp:=fun _=>True) ?hr ?hp (fun _ hk=>hk) trivial (Below.refl _ _) (Nat.le_refl _) (by simp) ?_;(case hd=>rfl);(case hg=>rfl);(case hr=>first|(go_simp;done)|(go_simp;rfl));(case hp=>exact (Reps.none _ _));intro v27006 w6 ho7 hb hg_ hnew_;clear hg_ hnew_;(first|rw [← Ny5.out] at ho7|(simp only [Int.reduceToNat] at ho7;rw [← Ny5.out] at ho7));replace HO_3:=zk (Kd.S_elder' (za2 HO_3.out) (Kd.R_base ho7) hb);have HO7:=zk (Kd.R_lower ho7 (below_size za3));replace BK1:=yb BK1 hb;replace HB:=yB HB hb;clear hb ho7))
    try simp only [Act.put,zt,zv,zu]
    go_loopg [5,6] k1 (fun kq v5 v6 w'=>∃ (x5_2:List Int) (x6_2:Int),v6 = .int .i64 x6_2∧Aside0 (spec_l13Letters.l1 kq x3_1 x4_1 x5_2 x6_2 l0_0 l0_1=some r)∧Aside0 (kq≤k1)∧Aside0 (Kd.S (Kd.slice 3 (Kd.int .i64)) 29 w' w.heap.size (fun k_=>some k_ ≠ (v5:Value).ownBlock) u3 x3_1)∧Aside0 (Kd.R (Kd.int .i64) 3 w' w.heap.size (fun _=>True) v5 x5_2)∧Aside0 (w'.heap[gb1]? = some (.cells #[(.slice A0_0 l0_0.length c0_0),(.slice A0_1 l0_1.length c0_1)] 27 (0,0)))∧Aside0 (Below w.heap.size w w'))
    case atStart=>exact ⟨(y27005),(0),za13,H',⟨Nat.le_refl _⟩,⟨by (with_reducible repeat (first|apply Kd.S_alloc|apply Kd.S_drewN|apply Kd.S_drew));exact Kd.S_mono HO_3.out (fun _ hk=>hk.2)⟩,⟨za1 HO7.out⟩,⟨za0 BK1.out⟩,⟨za3⟩⟩
    case round =>
     clear H'
     try clear c5
     try clear c5b0
     obtain ⟨x5_2,x6_2,rfl,HA,HK2,HO_3,HO_5,BK1,HB⟩:=hrel
     cases gk with
     | zero=>exact absurd HA.out (by simp [spec_l13Letters.l1])
     | succ k2 =>
      have H:=HA.out
      clear HA
      simp only [spec_l13Letters.l1] at H
      by_cases c8:x6_2 < (l0_1.length:Int)
      rw [if_pos c8] at H
      have c8b0:=zdl c8
      clear c8
      by_cases c9:0≤x6_2
      rw [if_pos c9] at H
      have c9b0:=zdle c9
      clear c9
      by_cases c10:0≤x4_1
      rw [if_pos c10] at H
      have c10b0:=zdle c10
      clear c10
      by_cases c11:x4_1 < ((rd_L3 l0_1 x6_2).length:Int)
      rw [if_pos c11] at H
      have c11b0:=zdl c11
      clear c11
      by_cases c12:x5_2.length < 17592186044416
      rw [if_pos c12] at H
      have LMc12:=zk c12
      clear c12
      obtain ⟨y27010,hy27010⟩:∃ y_:List Int,y_=(x5_2 ++ [rd (rd_L3 l0_1 x6_2) x4_1]):=⟨_,rfl⟩
      replace H:(spec_l13Letters.l1 k2 x3_1 x4_1 y27010 (wrap64 (x6_2+1)) l0_0 l0_1)=some r:=by first|(rw [hy27010];with_reducible exact H)|(have H2_:=(Option.bind_some _ _).symm.trans H;rw [hy27010];with_reducible exact H2_)|(have H2_:=(Option.bind_some _ _).symm.trans H;with_reducible exact H2_)|with_reducible exact H|(rw [hy27010];exact H)|exact H
      have Ny10:=zk hy27010
      clear hy27010
      have H':=zk H
      clear H
      obtain ⟨hcz13_0,hcz13_1,hfz13_0,hfz13_1⟩:=blk2 BK1.out
      have p27008:0≤(x6_2:Int):=of_decide_eq_true za7
      have q27008:x6_2 < (l0_1.length:Int):=of_decide_eq_true za7
      obtain ⟨ad27008,A27008_0,c27008_0,e27008,hx27008_0,hl27008_0,hi27008_0⟩:=at_L3 HR0_1.out x6_2 p27008 q27008
      cases e27008
      replace hx27008_0:=zx HB.out hx27008_0
      have HR27008_0:=zk hi27008_0
      have HC27008_0:=zk hl27008_0
      clear hi27008_0 hl27008_0
      replace p27008:=eq_true p27008
      replace q27008:=eq_true q27008
      have p27009:0≤(x4_1:Int):=of_decide_eq_true za7
      have q27009:x4_1 < ((rd_L3 l0_1 x6_2).length:Int):=of_decide_eq_true za7
      obtain ⟨ad27009,e27009,hx27009_0⟩:=Kd.at_int HR27008_0.out x4_1 p27009 q27009
      cases e27009
      replace hx27009_0:=zx HB.out hx27009_0
      replace p27009:=eq_true p27009
      replace q27009:=eq_true q27009
      have fin1_:=zk trivial
      rotate_left
      · rw [if_neg c12] at H
        exact absurd H (by simp)
      · rw [if_neg c11] at H
        exact absurd H (by simp)
      · rw [if_neg c10] at H
        exact absurd H (by simp)
      · rw [if_neg c9] at H
        exact absurd H (by simp)
      rw [if_neg c8] at H
      have c8b0:=zdnl c8
      clear c8
      by_cases c15:x3_1.length < 5864062014805
      rw [if_pos c15] at H
      have LMc15:=zk c15
      clear c15
      obtain ⟨y27013,hy27013⟩:∃ y_:List (List Int),y_=(x3_1 ++ [x5_2]):=⟨_,rfl⟩
      replace H:(spec_l13Letters.l0 k2 y27013 (wrap64 (x4_1+1)) l0_0 l0_1)=some r:=by first|(rw [hy27013];with_reducible exact H)|(have H2_:=(Option.bind_some _ _).symm.trans H;rw [hy27013];with_reducible exact H2_)|(have H2_:=(Option.bind_some _ _).symm.trans H;with_reducible exact H2_)|with_reducible exact H|(rw [hy27013];exact H)|exact H
      have Ny13:=zk hy27013
      clear hy27013
      have H':=zk H
      clear H
      obtain ⟨hcz16_0,hcz16_1,hfz16_0,hfz16_1⟩:=blk2 BK1.out
      obtain ⟨Ao18,co18,eo18⟩:=Kd.R_slice HO_5.out
      subst eo18
      have fin0_:=zk trivial
      rotate_left
      · rw [if_neg c15] at H
        exact absurd H (by simp)
      all_goals
       go_wp2_with (first|((with_reducible refine gate_builtin (b:=.append) (xs:=#[.tmp 31,.tmp 33]) rfl ?_);at_builtin;refine Kd.S_append (Kd.slice 3 (Kd.int .i64)) (w0:=w) w.heap.size rfl (.tmp 31) (.tmp 33) 25 29 (.slice none 0 0) 24 rfl Try.underlying25 info29 rfl (by decide) (by omega) u3 x3_1 x5_2 [.slice Ao18 x5_2.length co18] (fun _=>True) (fun k_=>some k_=(.slice Ao18 x5_2.length co18:Value).ownBlock) rfl rfl ?aP (fun k_ hk_=>((Kd.R_mono (ok':=fun k_=>((fun _=>True)) k_∧some k_ ≠ (u3:Value).ownBlock) (Kd.R_apart' (HO_5.out) (Kd.S_typed HO_3.out) (by decide)) (fun k_ hk=>⟨trivial,hk.2⟩))).1 k_ hk_.symm) ?aF ?aO ?aB ?aS ?aL ?_;(case aP=>exact Kd.M_row (Kd.R_mono (Kd.R_tight rfl (Kd.R_mono (ok':=fun k_=>((fun _=>True)) k_∧some k_ ≠ (u3:Value).ownBlock) (Kd.R_apart' (HO_5.out) (Kd.S_typed HO_3.out) (by decide)) (fun k_ hk=>⟨trivial,hk.2⟩))) (fun _ h_=>h_)));(case aB=>exact za3);(case aF=>exact (fun _ _=>trivial));(case aO=>exact (by (with_reducible repeat (first|apply Kd.S_alloc|apply Kd.S_drewN|apply Kd.S_drew));exact Kd.S_mono HO_3.out (fun k_ hk=>⟨trivial,fun e_=>hk e_⟩)));(case aS=>exact (below_size za3));(case aL=>have:=LMc15.out;omega);intro v14 w17 ho hb hg hat;rw [← Ny13.out] at ho;replace BK1:=zk (blk_grown (g:=gb1) (o:=.cells #[.slice A0_0 l0_0.length c0_0,.slice A0_1 l0_1.length c0_1] 27 (0,0)) (za0 BK1.out) hg (Kd.S_ne HO_3.out BK1.out (by decide)));replace HB:=zk hb;have HO15:=zk ho;clear HO_3;clear HO_5;clear ho hb hg hat)|((with_reducible refine gate_builtin (b:=.append) (xs:=#[.tmp 20,.tmp 29]) rfl ?_);at_builtin;refine Kd.R_append (Kd.int .i64) (w0:=w) w.heap.size rfl (.tmp 20) (.tmp 29) 29 3 (.int .i64 0) 8 rfl Try.underlying29 info3 rfl (by decide) (by omega) u5 x5_2 (rd (rd_L3 l0_1 x6_2) x4_1) [.int .i64 (rd (rd_L3 l0_1 x6_2) x4_1)] (fun _=>True) (fun _=>False) rfl rfl ?aP (fun _ hk=>hk.elim) ?aF ?aO ?aB ?aS ?aL ?_;(case aP=>exact rfl);(case aB=>exact za3);(case aF=>exact (fun _ _=>trivial));(case aO=>exact (za1 HO_5.out));(case aS=>exact (below_size za3));(case aL=>have:=LMc12.out;omega);intro v11 w14 ho hb hg hat;rw [← Ny10.out] at ho;replace HO_3:=zk (Kd.S_after (ok:=(fun _=>True)) (by (with_reducible repeat (first|apply Kd.S_alloc|apply Kd.S_drewN|apply Kd.S_drew));exact Kd.S_mono HO_3.out (fun _ hk=>⟨trivial,hk⟩)) hg hat);replace BK1:=zk (blk_grown (g:=gb1) (o:=.cells #[.slice A0_0 l0_0.length c0_0,.slice (some ad27008) l0_1.length c0_1] 27 (0,0)) (za0 BK1.out) hg (Kd.R_ne HO_5.out BK1.out (by decide)));replace HB:=zk hb;have HO12:=zk ho;clear HO_5;clear ho hb hg hat))
       first
       | (
         clear fin0_
         go_roundg k2
         case measure=>have:=HK1.out;have:=HK2.out;omega
         case rel=>exact ⟨(y27013),(wrap64 (x4_1+1)),za13,H',⟨za59⟩,⟨za2 HO15.out⟩,⟨za0 BK1.out⟩,⟨za3⟩⟩)
       | (
         clear fin1_
         go_roundg k2
         case measure=>have:=HK1.out;have:=HK2.out;omega
         case rel=>exact ⟨(y27010),(wrap64 (x6_2+1)),za13,H',⟨za59⟩,⟨by (with_reducible repeat (first|apply Kd.S_alloc|apply Kd.S_drewN|apply Kd.S_drew));exact Kd.S_mono HO_3.out (fun _ hk=>hk.2)⟩,⟨za1 HO12.out⟩,⟨za0 BK1.out⟩,⟨za3⟩⟩)
   ·rw [if_neg c5] at H
    have c5b0:=zdnl c5
    clear c5
    obtain rfl:=zi H
    go_wp2
    go_ret
    exact ⟨_,za15,za2 HO_3.out,za3⟩
def spec_l13After.l0:Nat→List Int→List Int→List Int→Int→Option (List Int)
 | 0,_,_,_,_=>none
 | k+1,x0,x1,x5,x6=>if x6 < (x0.length:Int) then (if 0≤x6 then (if 0≤(rd x0 x6) then (if (rd x0 x6) < (x1.length:Int) then (if x5.length < 17592186044416 then (spec_l13After.l0 k x0 x1 (x5 ++ [rd x1 (rd x0 x6)]) (wrap64 (x6+1))) else (none)) else (none)) else (none)) else (none)) else (some x5)
def spec_l13After.f (k:Nat) (l0:List Int) (l1:List Int):Option (List Int):=spec_l13After.l0 k l0 l1 (([]:List Int)) 0
theorem spec_l13After.calls (k:Nat) (A0:Option Addr) (c0:Nat) (l0:List Int) (A1:Option Addr) (c1:Nat) (l1:List Int) (r:List Int) (w:World) (hr0:Kd.C (Kd.int .i64) w A0 l0.length l0) (hc0:l0.length≤c0) (hr1:Kd.C (Kd.int .i64) w A1 l1.length l1) (hc1:l1.length≤c1) (h:spec_l13After.f k l0 l1=some r) :
   Calls Try.prog 28 #[.slice A0 l0.length c0,.slice A1 l1.length c1] w fun e w'=>∃ v0_:Value,e = .returned (v0_)∧Kd.R (Kd.int .i64) 3 w' w.heap.size (fun _=>True) v0_ r∧Below w.heap.size w w':=by
 have HR0:=zk hr0
 have HC0:=zk hc0
 clear hr0 hc0
 have HR1:=zk hr1
 have HC1:=zk hc1
 clear hr1 hc1
 have HB:=zk (Below.refl w.heap.size w)
 have H:=h
 unfold spec_l13After.f at H
 clear h
 obtain ⟨y28001,hy28001⟩:∃ y_:List Int,y_=(([]:List Int)):=⟨_,rfl⟩
 replace H:(spec_l13After.l0 k l0 l1 y28001 0)=some r:=by first|(rw [hy28001];with_reducible exact H)|(have H2_:=(Option.bind_some _ _).symm.trans H;rw [hy28001];with_reducible exact H2_)|(have H2_:=(Option.bind_some _ _).symm.trans H;with_reducible exact H2_)|with_reducible exact H|(rw [hy28001];exact H)|exact H
 have Ny1:=zk hy28001
 clear hy28001
 have H':=zk H
 clear H
 go_enter Try.func28,Try.ntmps28
 go_wp2_with (first|((with_reducible refine gate_dst (N:=7) rfl ?_);refine Kd.R_lit (Kd.int .i64) _ 3 ?hg (N:=7) ?hd (xs:=([]:List Int)) (inner:=[]) (ok:=fun _=>True) (okp:=fun _=>True) ?hr ?hp (fun _ hk=>hk) trivial (Below.refl _ _) (Nat.le_refl _) (by simp) ?_;(case hd=>rfl);(case hg=>rfl);(case hr=>first|(go_simp;done)|(go_simp;rfl));(case hp=>exact (Reps.none _ _));intro v2 w3 ho4 hb hg_ hnew_;clear hg_ hnew_;(first|rw [← Ny1.out] at ho4|(simp only [Int.reduceToNat] at ho4;rw [← Ny1.out] at ho4));have HO3:=zk (Kd.R_lower ho4 (below_size za3));replace HB:=yB HB hb;clear hb ho4))
 try simp only [Act.put,zt,zv,zu]
 go_loopg [5,6] k (fun kq v5 v6 w'=>∃ (x5_1:List Int) (x6_1:Int),v6 = .int .i64 x6_1∧Aside0 (spec_l13After.l0 kq l0 l1 x5_1 x6_1=some r)∧Aside0 (kq≤k)∧Aside0 (Kd.R (Kd.int .i64) 3 w' w.heap.size (fun _=>True) v5 x5_1)∧Aside0 (Below w.heap.size w w'))
 case atStart=>exact ⟨(y28001),(0),za13,H',⟨Nat.le_refl _⟩,⟨za1 HO3.out⟩,⟨za3⟩⟩
 case round =>
  clear H'
  obtain ⟨x5_1,x6_1,rfl,HA,HK1,HO_5,HB⟩:=hrel
  cases gk with
  | zero=>exact absurd HA.out (by simp [spec_l13After.l0])
  | succ k1 =>
   have H:=HA.out
   clear HA
   simp only [spec_l13After.l0] at H
   by_cases c5:x6_1 < (l0.length:Int)
   rw [if_pos c5] at H
   have c5b0:=zdl c5
   clear c5
   by_cases c6:0≤x6_1
   rw [if_pos c6] at H
   have c6b0:=zdle c6
   clear c6
   by_cases c7:0≤(rd l0 x6_1)
   rw [if_pos c7] at H
   have c7b0:=zdle c7
   clear c7
   by_cases c8:(rd l0 x6_1) < (l1.length:Int)
   rw [if_pos c8] at H
   have c8b0:=zdl c8
   clear c8
   by_cases c9:x5_1.length < 17592186044416
   ·rw [if_pos c9] at H
    have LMc9:=zk c9
    clear c9
    obtain ⟨y28006,hy28006⟩:∃ y_:List Int,y_=(x5_1 ++ [rd l1 (rd l0 x6_1)]):=⟨_,rfl⟩
    replace H:(spec_l13After.l0 k1 l0 l1 y28006 (wrap64 (x6_1+1)))=some r:=by first|(rw [hy28006];with_reducible exact H)|(have H2_:=(Option.bind_some _ _).symm.trans H;rw [hy28006];with_reducible exact H2_)|(have H2_:=(Option.bind_some _ _).symm.trans H;with_reducible exact H2_)|with_reducible exact H|(rw [hy28006];exact H)|exact H
    have Ny6:=zk hy28006
    clear hy28006
    have H':=zk H
    clear H
    have p28004:0≤(x6_1:Int):=of_decide_eq_true za7
    have q28004:x6_1 < (l0.length:Int):=of_decide_eq_true za7
    obtain ⟨ad28004,e28004,hx28004_0⟩:=Kd.at_int HR0.out x6_1 p28004 q28004
    cases e28004
    replace hx28004_0:=zx HB.out hx28004_0
    replace p28004:=eq_true p28004
    replace q28004:=eq_true q28004
    have p28005:0≤((rd l0 x6_1):Int):=of_decide_eq_true za7
    have q28005:(rd l0 x6_1) < (l1.length:Int):=of_decide_eq_true za7
    obtain ⟨ad28005,e28005,hx28005_0⟩:=Kd.at_int HR1.out (rd l0 x6_1) p28005 q28005
    cases e28005
    replace hx28005_0:=zx HB.out hx28005_0
    replace p28005:=eq_true p28005
    replace q28005:=eq_true q28005
    go_wp2_with (first|((with_reducible refine gate_builtin (b:=.append) (xs:=#[.tmp 14,.tmp 22]) rfl ?_);at_builtin;refine Kd.R_append (Kd.int .i64) (w0:=w) w.heap.size rfl (.tmp 14) (.tmp 22) 29 3 (.int .i64 0) 8 rfl Try.underlying29 info3 rfl (by decide) (by omega) u5 x5_1 (rd l1 (rd l0 x6_1)) [.int .i64 (rd l1 (rd l0 x6_1))] (fun _=>True) (fun _=>False) rfl rfl ?aP (fun _ hk=>hk.elim) ?aF ?aO ?aB ?aS ?aL ?_;(case aP=>exact rfl);(case aB=>exact za3);(case aF=>exact (fun _ _=>trivial));(case aO=>exact (za1 HO_5.out));(case aS=>exact (below_size za3));(case aL=>have:=LMc9.out;omega);intro v7 w10 ho hb hg hat;rw [← Ny6.out] at ho;replace HB:=zk hb;have HO8:=zk ho;clear HO_5;clear ho hb hg hat))
    go_roundg k1
    case measure=>have:=HK1.out;omega
    case rel=>exact ⟨(y28006),(wrap64 (x6_1+1)),za13,H',⟨za61⟩,⟨za1 HO8.out⟩,⟨za3⟩⟩
   ·rw [if_neg c9] at H
    exact absurd H (by simp)
   ·rw [if_neg c8] at H
    exact absurd H (by simp)
   ·rw [if_neg c7] at H
    exact absurd H (by simp)
   ·rw [if_neg c6] at H
    exact absurd H (by simp)
   ·rw [if_neg c5] at H
    have c5b0:=zdnl c5
    clear c5
    obtain rfl:=zi H
    go_wp2
    go_ret
    exact ⟨_,za15,za1 HO_5.out,za3⟩
def spec_l13Find.l0:Nat→List (List Int)→List Int→Int→Option (Int)
 | 0,_,_,_=>none
 | k+1,x0,x1,x5=>if x5 < (x0.length:Int) then (if 0≤x5 then ((spec_l5Ints.f k (rd_L3 x0 x5) x1).bind fun t29002=>(if t29002=true then (some x5) else (spec_l13Find.l0 k x0 x1 (wrap64 (x5+1))))) else (none)) else (some (-1))
def spec_l13Find.f (k:Nat) (l0:List (List Int)) (l1:List Int):Option (Int):=spec_l13Find.l0 k l0 l1 0
theorem spec_l13Find.calls (k:Nat) (A0:Option Addr) (c0:Nat) (l0:List (List Int)) (A1:Option Addr) (c1:Nat) (l1:List Int) (r:Int) (w:World) (hr0:Kd.C (Kd.slice 3 (Kd.int .i64)) w A0 l0.length l0) (hc0:l0.length≤c0) (hr1:Kd.C (Kd.int .i64) w A1 l1.length l1) (hc1:l1.length≤c1) (h:spec_l13Find.f k l0 l1=some r) :
   Calls Try.prog 29 #[.slice A0 l0.length c0,.slice A1 l1.length c1] w fun e w'=>e = .returned (.int .i64 r)∧Drawn0 w w':=by
 have HR0:=zk hr0
 have HC0:=zk hc0
 clear hr0 hc0
 have HR1:=zk hr1
 have HC1:=zk hc1
 clear hr1 hc1
 have H:=h
 unfold spec_l13Find.f at H
 clear h
 have H':=zk H
 clear H
 go_enter Try.func29,Try.ntmps29
 go_wp2
 try simp only [Act.put,zt,zv,zu]
 go_loopg [5] k (fun kq v5 w'=>∃ (x5_1:Int),v5 = .int .i64 x5_1∧Aside0 (spec_l13Find.l0 kq l0 l1 x5_1=some r)∧Aside0 (kq≤k)∧Drawn0 w w')
 case atStart=>exact ⟨(0),za13,H',⟨Nat.le_refl _⟩,za25⟩
 case round =>
  clear H'
  obtain ⟨x5_1,rfl,HA,HK1,⟨m1,rfl⟩⟩:=hrel
  cases gk with
  | zero=>exact absurd HA.out (by simp [spec_l13Find.l0])
  | succ k1 =>
   have H:=HA.out
   clear HA
   simp only [spec_l13Find.l0] at H
   by_cases c3:x5_1 < (l0.length:Int)
   rw [if_pos c3] at H
   have c3b0:=zdl c3
   clear c3
   by_cases c4:0≤x5_1
   rw [if_pos c4] at H
   have c4b0:=zdle c4
   clear c4
   obtain ⟨t2,A5,H⟩:=zO H
   try dsimp only at H
   by_cases c6:t2=true
   subst c6
   rw [if_pos rfl] at H
   try dsimp only at H
   obtain rfl:=zi H
   have fin0_:=zk trivial
   rotate_left
   replace c6:=Bool.eq_false_iff.mpr c6
   subst c6
   rw [if_neg zff] at H
   try dsimp only at H
   have H':=zk H
   clear H
   have fin1_:=zk trivial
   rotate_left
   · rw [if_neg c4] at H
     exact absurd H (by simp)
   · rw [if_neg c3] at H
     have c3b0:=zdnl c3
     clear c3
     obtain rfl:=zi H
     go_wp2
     go_ret
     exact ⟨za13,za25⟩
   all_goals
    have p29001:0≤(x5_1:Int):=of_decide_eq_true za7
    have q29001:x5_1 < (l0.length:Int):=of_decide_eq_true za7
    obtain ⟨ad29001,A29001_0,c29001_0,e29001,hx29001_0,hl29001_0,hi29001_0⟩:=at_L3 HR0.out x5_1 p29001 q29001
    cases e29001
    have HR29001_0:=zk hi29001_0
    have HC29001_0:=zk hl29001_0
    clear hi29001_0 hl29001_0
    replace p29001:=eq_true p29001
    replace q29001:=eq_true q29001
    go_wp2_with (((with_reducible refine gate_callee (f:=51) rfl ?_);refine zg (some 17) Try.func51 #[.slice A29001_0 (rd_L3 l0 x5_1).length c29001_0,.slice A1 l1.length c1] rfl za4 ?_;(with_reducible refine (spec_l5Ints.calls k1 _ _ (rd_L3 l0 x5_1) _ _ l1 _ _ ?side1 ?side2 ?side3 ?side4 A5.out).mono ?_);(case side1=>repeat (first|exact HR29001_0.out|(with_reducible refine Kd.C_alloc ?_ _)|(with_reducible refine Kd.C_drewN ?_ _)|(with_reducible refine Kd.C_drew ?_)));(case side2=>exact HC29001_0.out);(case side3=>repeat (first|exact HR1.out|(with_reducible refine Kd.C_alloc ?_ _)|(with_reducible refine Kd.C_drewN ?_ _)|(with_reducible refine Kd.C_drew ?_)));(case side4=>exact HC1.out);rintro e w' ⟨rfl,⟨nd,rfl⟩⟩;refine ⟨_,rfl,?_⟩))
    first
    | (
      clear fin0_
      go_ret
      exact ⟨za13,za25⟩)
    | (
      clear fin1_
      go_roundg k1
      case measure=>have:=HK1.out;omega
      case rel=>exact ⟨(wrap64 (x5_1+1)),za13,H',⟨za61⟩,za25⟩)
end Go.Proofs.Ythkbgoohiinmbaa.A
