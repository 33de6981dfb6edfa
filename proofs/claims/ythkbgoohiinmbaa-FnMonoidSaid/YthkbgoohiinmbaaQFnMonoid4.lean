/- FnMonoid: what its proof needs, put together by this session's program wip/merge.py out of the texts that wip/xp.py printed and of this session's own. -/
import Derived.Test.YthkbgoohiinmbaaQFnMonoid3
import Derived.Lib.Strings
import Derived.Lib.Bytealg
import Derived.Test.YthkbgoohiinmbaaProg
import Derived.Shelf.Abstract
import Derived.Deep.LoopGhost
import Derived.Deep.QuietTactic
import Derived.BigQuiet
set_option linter.unusedVariables false
set_option linter.unusedSimpArgs false
set_option linter.unusedSectionVars false
set_option maxHeartbeats 8000000
set_option maxRecDepth 100000
namespace Go.Proofs.Ythkbgoohiinmbaa.A
open Go.RowKit Ythkbgoohiinmbaa.Ext YthkbgoohiinmbaaW.PrintWords YthkbgoohiinmbaaW.PrintLast YthkbgoohiinmbaaW.PrintMore
attribute [local go_sem] max2_int min2_int max_two min_two max_three min_three max_four min_four
mutual
def spec_MapOf.j0:Nat→ByteArray→Bool→List (List Int)→List Int→List (List Int)→Option (Int × Bool)
 | 0,_,_,_,_,_=>none
 | k+1,x1,x15,x16002000,x16002001,x16002002=>if x15=true then (some (0,false)) else (spec_MapOf.l0 k x1 0 0 x16002000 x16002001 x16002002)
def spec_MapOf.l0:Nat→ByteArray→Int→Int→List (List Int)→List Int→List (List Int)→Option (Int × Bool)
 | 0,_,_,_,_,_,_=>none
 | k+1,x1,x6,x7,x16002000,x16002001,x16002002=>if x7 < (x1.size:Int) then (if 0≤x6 then (if x6 < (x16002002.length:Int) then (if 0≤x7 then ((spec_LetterIndex.f k (bt x1 x7)).bind fun t16005=>(if 0≤t16005 then (if t16005 < (x16002001.length:Int) then (if 0≤(rd x16002001 t16005) then (if (rd x16002001 t16005) < ((rd_L3 x16002002 x6).length:Int) then (spec_MapOf.l0 k x1 (rd (rd_L3 x16002002 x6) (rd x16002001 t16005)) (wrap64 (x7+1)) x16002000 x16002001 x16002002) else (none)) else (none)) else (none)) else (none))) else (none)) else (none)) else (none)) else (some (x6,true))
end
def spec_MapOf.f (k:Nat) (l0_0:List (List Int)) (l0_1:List Int) (l0_2:List (List Int)) (a1:ByteArray):Option (Int × Bool):=(spec_l13Good.f k l0_0 l0_1 l0_2).bind fun t16002=>(if t16002=true then ((spec_IsWord.f k a1).bind fun t16003=>(spec_MapOf.j0 k a1 (!t16003) l0_0 l0_1 l0_2)) else (spec_MapOf.j0 k a1 true l0_0 l0_1 l0_2))
theorem spec_MapOf.calls (k:Nat) (A0_0:Option Addr) (c0_0:Nat) (l0_0:List (List Int)) (A0_1:Option Addr) (c0_1:Nat) (l0_1:List Int) (A0_2:Option Addr) (c0_2:Nat) (l0_2:List (List Int)) (a1:ByteArray) (r1:Int) (r2:Bool) (w:World) (hr0_0:Kd.C (Kd.slice 3 (Kd.int .i64)) w A0_0 l0_0.length l0_0) (hc0_0:l0_0.length≤c0_0) (hr0_1:Kd.C (Kd.int .i64) w A0_1 l0_1.length l0_1) (hc0_1:l0_1.length≤c0_1) (hr0_2:Kd.C (Kd.slice 3 (Kd.int .i64)) w A0_2 l0_2.length l0_2) (hc0_2:l0_2.length≤c0_2) (h:spec_MapOf.f k l0_0 l0_1 l0_2 a1=some (r1,r2)) :
   Calls Try.prog 16 #[.agg #[.slice A0_0 l0_0.length c0_0,.slice A0_1 l0_1.length c0_1,.slice A0_2 l0_2.length c0_2],.string a1] w fun e w'=>e = .returned (.tuple #[.int .i64 r1,.bool r2])∧Below w.heap.size w w':=by
 have hu31:=Try.underlying31
 have HR0_0:=zk hr0_0
 have HC0_0:=zk hc0_0
 clear hr0_0 hc0_0
 have HR0_1:=zk hr0_1
 have HC0_1:=zk hc0_1
 clear hr0_1 hc0_1
 have HR0_2:=zk hr0_2
 have HC0_2:=zk hc0_2
 clear hr0_2 hc0_2
 have HB:=zk (Below.refl w.heap.size w)
 have H:=h
 unfold spec_MapOf.f at H
 clear h
 have HC3:=zk H
 clear H
 go_enter Try.func16,Try.ntmps16
 go_upto_region 1 with (first|((with_reducible refine gate_dst (N:=2) rfl ?_);refine zE (cs:=#[.slice A0_0 l0_0.length c0_0,.slice A0_1 l0_1.length c0_1,.slice A0_2 l0_2.length c0_2]) (t:=31) ?_;intro gb1 hg w4 hbox hb;have BK1:=zk hbox;have GW1:=zk (zs (w:=w) hg za3);have GE1:=GW1;replace HB:=yB HB hb;clear hb hbox hg))
 repeat (go_quiet (first|((with_reducible refine gate_dst (N:=2) rfl ?_);refine zE (cs:=#[.slice A0_0 l0_0.length c0_0,.slice A0_1 l0_1.length c0_1,.slice A0_2 l0_2.length c0_2]) (t:=31) ?_;intro gb1 hg w4 hbox hb;have BK1:=zk hbox;have GW1:=zk (zs (w:=w) hg za3);have GE1:=GW1;replace HB:=yB HB hb;clear hb hbox hg));go_upto_region 1 with (first|((with_reducible refine gate_dst (N:=2) rfl ?_);refine zE (cs:=#[.slice A0_0 l0_0.length c0_0,.slice A0_1 l0_1.length c0_1,.slice A0_2 l0_2.length c0_2]) (t:=31) ?_;intro gb1 hg w4 hbox hb;have BK1:=zk hbox;have GW1:=zk (zs (w:=w) hg za3);have GE1:=GW1;replace HB:=yB HB hb;clear hb hbox hg)))
 (try simp only [Act.put,zt,zu,zv])
 go_cut [15] (fun v15 wc=>∃ (kq:Nat) (x15_2:Bool),v15 = .bool x15_2∧Aside0 (spec_MapOf.j0 kq a1 x15_2 l0_0 l0_1 l0_2=some (r1,r2))∧Aside0 (kq≤k)∧Aside0 (wc.heap[gb1]? = some (.cells #[(.slice A0_0 l0_0.length c0_0),(.slice A0_1 l0_1.length c0_1),(.slice A0_2 l0_2.length c0_2)] 31 (0,0)))∧Aside0 (Below w.heap.size w wc))
 case first =>
  have H:=HC3.out
  clear HC3
  obtain ⟨t2,A5,H⟩:=zO H
  try dsimp only at H
  by_cases c6:t2=true
  subst c6
  rw [if_pos rfl] at H
  try dsimp only at H
  obtain ⟨t3,A7,H⟩:=zO H
  try dsimp only at H
  have fin0_:=zk trivial
  rotate_left
  replace c6:=Bool.eq_false_iff.mpr c6
  subst c6
  rw [if_neg zff] at H
  try dsimp only at H
  have fin1_:=zk trivial
  rotate_left
  all_goals
   have H':=zk H
   clear H
   obtain ⟨hcz8_0,hcz8_1,hcz8_2,hfz8_0,hfz8_1,hfz8_2⟩:=blk3 BK1.out
   go_wp2_with (first|(go_at_call 43;(with_reducible refine (spec_l13Good.calls k _ _ l0_0 _ _ l0_1 _ _ l0_2 _ _ ?side1 ?side2 ?side3 ?side4 ?side5 ?side6 A5.out).mono ?_);(case side1=>repeat (first|exact (Kd.C_below HR0_0.out HB.out)|(with_reducible refine Kd.C_alloc ?_ _)|(with_reducible refine Kd.C_drewN ?_ _)|(with_reducible refine Kd.C_drew ?_)));(case side2=>exact HC0_0.out);(case side3=>repeat (first|exact (Kd.C_below HR0_1.out HB.out)|(with_reducible refine Kd.C_alloc ?_ _)|(with_reducible refine Kd.C_drewN ?_ _)|(with_reducible refine Kd.C_drew ?_)));(case side4=>exact HC0_1.out);(case side5=>repeat (first|exact (Kd.C_below HR0_2.out HB.out)|(with_reducible refine Kd.C_alloc ?_ _)|(with_reducible refine Kd.C_drewN ?_ _)|(with_reducible refine Kd.C_drew ?_)));(case side6=>exact HC0_2.out);rintro e w11 ⟨rfl,hb⟩;replace BK1:=yb BK1 hb;replace HB:=yB HB hb;(try clear hb))|(go_at_call 36;(with_reducible refine (spec_IsWord.calls k a1 t3 _ A7.out).mono ?_);rintro e w' ⟨rfl,⟨nd,rfl⟩⟩;(try first|exact ⟨rfl,_,World.drewN_drewN _ _ _⟩|exact ⟨rfl,_,Eq.trans (World.drewN_drewN _ _ _) (congrArg (World.drewN _) (Nat.add_assoc _ _ _))⟩)))
   repeat (go_quiet (first|(go_at_call 43;(with_reducible refine (spec_l13Good.calls k _ _ l0_0 _ _ l0_1 _ _ l0_2 _ _ ?side1 ?side2 ?side3 ?side4 ?side5 ?side6 A5.out).mono ?_);(case side1=>repeat (first|exact (Kd.C_below HR0_0.out HB.out)|(with_reducible refine Kd.C_alloc ?_ _)|(with_reducible refine Kd.C_drewN ?_ _)|(with_reducible refine Kd.C_drew ?_)));(case side2=>exact HC0_0.out);(case side3=>repeat (first|exact (Kd.C_below HR0_1.out HB.out)|(with_reducible refine Kd.C_alloc ?_ _)|(with_reducible refine Kd.C_drewN ?_ _)|(with_reducible refine Kd.C_drew ?_)));(case side4=>exact HC0_1.out);(case side5=>repeat (first|exact (Kd.C_below HR0_2.out HB.out)|(with_reducible refine Kd.C_alloc ?_ _)|(with_reducible refine Kd.C_drewN ?_ _)|(with_reducible refine Kd.C_drew ?_)));(case side6=>exact HC0_2.out);rintro e w11 ⟨rfl,hb⟩;replace BK1:=yb BK1 hb;replace HB:=yB HB hb;(try clear hb))|(go_at_call 36;(with_reducible refine (spec_IsWord.calls k a1 t3 _ A7.out).mono ?_);rintro e w' ⟨rfl,⟨nd,rfl⟩⟩;(try first|exact ⟨rfl,_,World.drewN_drewN _ _ _⟩|exact ⟨rfl,_,Eq.trans (World.drewN_drewN _ _ _) (congrArg (World.drewN _) (Nat.add_assoc _ _ _))⟩)));try go_wp2_with (first|(go_at_call 43;(with_reducible refine (spec_l13Good.calls k _ _ l0_0 _ _ l0_1 _ _ l0_2 _ _ ?side1 ?side2 ?side3 ?side4 ?side5 ?side6 A5.out).mono ?_);(case side1=>repeat (first|exact (Kd.C_below HR0_0.out HB.out)|(with_reducible refine Kd.C_alloc ?_ _)|(with_reducible refine Kd.C_drewN ?_ _)|(with_reducible refine Kd.C_drew ?_)));(case side2=>exact HC0_0.out);(case side3=>repeat (first|exact (Kd.C_below HR0_1.out HB.out)|(with_reducible refine Kd.C_alloc ?_ _)|(with_reducible refine Kd.C_drewN ?_ _)|(with_reducible refine Kd.C_drew ?_)));(case side4=>exact HC0_1.out);(case side5=>repeat (first|exact (Kd.C_below HR0_2.out HB.out)|(with_reducible refine Kd.C_alloc ?_ _)|(with_reducible refine Kd.C_drewN ?_ _)|(with_reducible refine Kd.C_drew ?_)));(case side6=>exact HC0_2.out);rintro e w11 ⟨rfl,hb⟩;replace BK1:=yb BK1 hb;replace HB:=yB HB hb;(try clear hb))|(go_at_call 36;(with_reducible refine (spec_IsWord.calls k a1 t3 _ A7.out).mono ?_);rintro e w' ⟨rfl,⟨nd,rfl⟩⟩;(try first|exact ⟨rfl,_,World.drewN_drewN _ _ _⟩|exact ⟨rfl,_,Eq.trans (World.drewN_drewN _ _ _) (congrArg (World.drewN _) (Nat.add_assoc _ _ _))⟩))))
   first
   | (
     clear fin0_
     go_meet
     case rel=>exact ⟨_,(!t3),za13,H',⟨za62⟩,⟨za0 BK1.out⟩,⟨za3⟩⟩)
   | (
     clear fin1_
     go_meet
     case rel=>exact ⟨_,(true),za13,H',⟨za62⟩,⟨za0 BK1.out⟩,⟨za3⟩⟩)
 case rest =>
  clear HC3
  obtain ⟨kq,x15_2,rfl,HA,HJ2,BK1,HB⟩:=hcut
  cases kq with
  | zero=>exact absurd HA.out (by simp [spec_MapOf.j0])
  | succ kj2 =>
   have H:=HA.out
   clear HA
   simp only [spec_MapOf.j0] at H
   by_cases c12:x15_2=true
   ·subst c12
    rw [if_pos rfl] at H
    try dsimp only at H
    simp only [Option.some.injEq,Prod.mk.injEq] at H
    obtain ⟨rfl,rfl⟩:=H
    go_wp2
    repeat (go_quiet (fail);try go_wp2)
    go_ret2
    exact ⟨za15,za3⟩
   ·replace c12:=Bool.eq_false_iff.mpr c12
    subst c12
    rw [if_neg zff] at H
    try dsimp only at H
    have H':=zk H
    clear H
    go_wp2
    repeat (go_quiet (fail);try go_wp2)
    try simp only [Act.put,zt,zv,zu]
    go_loopg [6,7] kj2 (fun kq v6 v7 w'=>∃ (x6_2:Int) (x7_2:Int),v6 = .int .i64 x6_2∧v7 = .int .i64 x7_2∧Aside0 (spec_MapOf.l0 kq a1 x6_2 x7_2 l0_0 l0_1 l0_2=some (r1,r2))∧Aside0 (kq≤kj2)∧Aside0 (w'.heap[gb1]? = some (.cells #[(.slice A0_0 l0_0.length c0_0),(.slice A0_1 l0_1.length c0_1),(.slice A0_2 l0_2.length c0_2)] 31 (0,0)))∧Aside0 (Below w.heap.size w w'))
    case atStart=>exact ⟨(0),(0),za13,za13,H',⟨Nat.le_refl _⟩,⟨za0 BK1.out⟩,⟨za3⟩⟩
    case round =>
     clear H'
     try clear c12
     obtain ⟨x6_2,x7_2,rfl,rfl,HA,HK2,BK1,HB⟩:=hrel
     cases gk with
     | zero=>exact absurd HA.out (by simp [spec_MapOf.l0])
     | succ k2 =>
      have H:=HA.out
      clear HA
      simp only [spec_MapOf.l0] at H
      by_cases c13:x7_2 < (a1.size:Int)
      rw [if_pos c13] at H
      have c13b0:=zdl c13
      clear c13
      by_cases c14:0≤x6_2
      rw [if_pos c14] at H
      have c14b0:=zdle c14
      clear c14
      by_cases c15:x6_2 < (l0_2.length:Int)
      rw [if_pos c15] at H
      have c15b0:=zdl c15
      clear c15
      by_cases c16:0≤x7_2
      rw [if_pos c16] at H
      have c16b0:=zdle c16
      clear c16
      obtain ⟨t5,A18,H⟩:=zO H
      try dsimp only at H
      by_cases c19:0≤t5
      rw [if_pos c19] at H
      have c19b0:=zdle c19
      clear c19
      by_cases c20:t5 < (l0_1.length:Int)
      rw [if_pos c20] at H
      have c20b0:=zdl c20
      clear c20
      by_cases c21:0≤(rd l0_1 t5)
      rw [if_pos c21] at H
      have c21b0:=zdle c21
      clear c21
      by_cases c22:(rd l0_1 t5) < ((rd_L3 l0_2 x6_2).length:Int)
      ·rw [if_pos c22] at H
       have c22b0:=zdl c22
       clear c22
       have H':=zk H
       clear H
       obtain ⟨hcz23_0,hcz23_1,hcz23_2,hfz23_0,hfz23_1,hfz23_2⟩:=blk3 BK1.out
       have p16004:0≤(x6_2:Int):=of_decide_eq_true za7
       have q16004:x6_2 < (l0_2.length:Int):=of_decide_eq_true za7
       obtain ⟨ad16004,A16004_0,c16004_0,e16004,hx16004_0,hl16004_0,hi16004_0⟩:=at_L3 HR0_2.out x6_2 p16004 q16004
       cases e16004
       replace hx16004_0:=zx HB.out hx16004_0
       have HR16004_0:=zk hi16004_0
       have HC16004_0:=zk hl16004_0
       clear hi16004_0 hl16004_0
       replace p16004:=eq_true p16004
       replace q16004:=eq_true q16004
       have p17:0≤(x7_2:Int):=of_decide_eq_true za7
       have q17:x7_2 < (a1.size:Int):=of_decide_eq_true za7
       have hx17:=bt_at a1 x7_2
       replace p17:=eq_true p17
       replace q17:=eq_true q17
       go_wp2_with (first|(go_at_call 37;(with_reducible refine (spec_LetterIndex.calls k2 (bt a1 x7_2) t5 _ A18.out).mono ?_);rintro e w' ⟨rfl,⟨nd,rfl⟩⟩;(try first|exact ⟨rfl,_,World.drewN_drewN _ _ _⟩|exact ⟨rfl,_,Eq.trans (World.drewN_drewN _ _ _) (congrArg (World.drewN _) (Nat.add_assoc _ _ _))⟩);have p16006:0≤(t5:Int):=of_decide_eq_true za7;have q16006:t5 < (l0_1.length:Int):=of_decide_eq_true za7;obtain ⟨ad16006,e16006,hx16006_0⟩:=Kd.at_int HR0_1.out t5 p16006 q16006;cases e16006;replace hx16006_0:=zx HB.out hx16006_0;replace p16006:=eq_true p16006;replace q16006:=eq_true q16006;have p16007:0≤((rd l0_1 t5):Int):=of_decide_eq_true za7;have q16007:(rd l0_1 t5) < ((rd_L3 l0_2 x6_2).length:Int):=of_decide_eq_true za7;obtain ⟨ad16007,e16007,hx16007_0⟩:=Kd.at_int HR16004_0.out (rd l0_1 t5) p16007 q16007;cases e16007;replace hx16007_0:=zx HB.out hx16007_0;replace p16007:=eq_true p16007;replace q16007:=eq_true q16007))
       repeat (go_quiet (first|(go_at_call 37;(with_reducible refine (spec_LetterIndex.calls k2 (bt a1 x7_2) t5 _ A18.out).mono ?_);rintro e w' ⟨rfl,⟨nd,rfl⟩⟩;(try first|exact ⟨rfl,_,World.drewN_drewN _ _ _⟩|exact ⟨rfl,_,Eq.trans (World.drewN_drewN _ _ _) (congrArg (World.drewN _) (Nat.add_assoc _ _ _))⟩);have p16006:0≤(t5:Int):=of_decide_eq_true za7;have q16006:t5 < (l0_1.length:Int):=of_decide_eq_true za7;obtain ⟨ad16006,e16006,hx16006_0⟩:=Kd.at_int HR0_1.out t5 p16006 q16006;cases e16006;replace hx16006_0:=zx HB.out hx16006_0;replace p16006:=eq_true p16006;replace q16006:=eq_true q16006;have p16007:0≤((rd l0_1 t5):Int):=of_decide_eq_true za7;have q16007:(rd l0_1 t5) < ((rd_L3 l0_2 x6_2).length:Int):=of_decide_eq_true za7;obtain ⟨ad16007,e16007,hx16007_0⟩:=Kd.at_int HR16004_0.out (rd l0_1 t5) p16007 q16007;cases e16007;replace hx16007_0:=zx HB.out hx16007_0;replace p16007:=eq_true p16007;replace q16007:=eq_true q16007));try go_wp2_with (first|(go_at_call 37;(with_reducible refine (spec_LetterIndex.calls k2 (bt a1 x7_2) t5 _ A18.out).mono ?_);rintro e w' ⟨rfl,⟨nd,rfl⟩⟩;(try first|exact ⟨rfl,_,World.drewN_drewN _ _ _⟩|exact ⟨rfl,_,Eq.trans (World.drewN_drewN _ _ _) (congrArg (World.drewN _) (Nat.add_assoc _ _ _))⟩);have p16006:0≤(t5:Int):=of_decide_eq_true za7;have q16006:t5 < (l0_1.length:Int):=of_decide_eq_true za7;obtain ⟨ad16006,e16006,hx16006_0⟩:=Kd.at_int HR0_1.out t5 p16006 q16006;cases e16006;replace hx16006_0:=zx HB.out hx16006_0;replace p16006:=eq_true p16006;replace q16006:=eq_true q16006;have p16007:0≤((rd l0_1 t5):Int):=of_decide_eq_true za7;have q16007:(rd l0_1 t5) < ((rd_L3 l0_2 x6_2).length:Int):=of_decide_eq_true za7;obtain ⟨ad16007,e16007,hx16007_0⟩:=Kd.at_int HR16004_0.out (rd l0_1 t5) p16007 q16007;cases e16007;replace hx16007_0:=zx HB.out hx16007_0;replace p16007:=eq_true p16007;replace q16007:=eq_true q16007)))
       go_roundg k2
       case measure=>have:=HJ2.out;have:=HK2.out;omega
       case rel=>exact ⟨(rd (rd_L3 l0_2 x6_2) (rd l0_1 t5)),(wrap64 (x7_2+1)),za13,za13,H',⟨by have:=HJ2.out;have:=HK2.out;omega⟩,⟨za0 BK1.out⟩,⟨za3⟩⟩
      ·rw [if_neg c22] at H
       exact absurd H (by simp)
      ·rw [if_neg c21] at H
       exact absurd H (by simp)
      ·rw [if_neg c20] at H
       exact absurd H (by simp)
      ·rw [if_neg c19] at H
       exact absurd H (by simp)
      ·rw [if_neg c16] at H
       exact absurd H (by simp)
      ·rw [if_neg c15] at H
       exact absurd H (by simp)
      ·rw [if_neg c14] at H
       exact absurd H (by simp)
      ·rw [if_neg c13] at H
       have c13b0:=zdnl c13
       clear c13
       simp only [Option.some.injEq,Prod.mk.injEq] at H
       obtain ⟨rfl,rfl⟩:=H
       go_wp2
       repeat (go_quiet (fail);try go_wp2)
       go_ret2
       exact ⟨za15,za3⟩
def spec_l2Word.l0:Nat→ByteArray→Int→Int→List Int→Int→Int→Option (ByteArray × Int × Int)
 | 0,_,_,_,_,_,_=>none
 | k+1,x5,x6,x7,x1000,x1001,x1002=>if x7 < x6 then ((spec_l1Pick.f x1000 x1001 x1002 (([⟨#[97]⟩,⟨#[98]⟩,⟨#[97]⟩,⟨#[98]⟩,⟨#[99]⟩]:List ByteArray))).bind fun bt63007=>(if x5.size+bt63007.1.size≤9223372036854775807 then (spec_l2Word.l0 k (x5 ++ bt63007.1) x6 (wrap64 (x7+1)) x1000 bt63007.2.1 bt63007.2.2) else (none))) else (some (x5,x1001,x1002))
def spec_l2Word.f (k:Nat) (s0_0:List Int) (s0_1:Int) (s0_2:Int) (a1:Int):Option (ByteArray × Int × Int):=(spec_l1Below.f s0_0 s0_1 s0_2 (wrap64 (a1+1))).bind fun bt63001=>(spec_l2Word.l0 k (⟨#[]⟩:ByteArray) bt63001.1 0 s0_0 bt63001.2.1 bt63001.2.2)
theorem spec_l2Word.calls (k:Nat) (g:Nat) (s0_0:List Int) (s0_1:Int) (s0_2:Int) (a1:Int) (r1:ByteArray) (r2:Int) (r3:Int) (w0 w:World) (hI:IsS73 w0 w g s0_0 s0_1 s0_2) (hB:Below w0.heap.size w0 w) (h:spec_l2Word.f k s0_0 s0_1 s0_2 a1=some (r1,r2,r3)) :
   Calls Try.prog 63 #[.pointer (some ⟨g,0,none⟩),.int .i64 a1] w fun e w'=>e = .returned (.string r1)∧IsS73 w0 w' g s0_0 r2 r3∧Below w0.heap.size w0 w'∧KeepBut w w' g none:=by
 have HI0:=zk hI
 have HK:=zk (KeepBut.refl w g none)
 have HL:=zk hB.size
 clear hI
 have HW0:=zk hB.size
 have HB:=zk hB
 clear hB
 have H:=h
 unfold spec_l2Word.f at H
 clear h
 obtain ⟨⟨t1,t2,t3⟩,A3,H⟩:=zO H
 try dsimp only at H
 have H':=zk H
 clear H
 go_enter Try.func63,Try.ntmps63
 go_wp2_with (first|((with_reducible refine gate_callee (f:=39) rfl ?_);refine zg (some 11) Try.func39 #[.pointer (some ⟨g,0,none⟩),.int .i64 (wrap64 (a1+1))] rfl za4 ?_;(with_reducible refine (spec_l1Below.calls g s0_0 s0_1 s0_2 (wrap64 (a1+1)) t1 t2 t3 w0 _ za6 za12 A3.out).mono ?_);rintro e w4 ⟨rfl,hi,hb,hk⟩;refine ⟨_,rfl,?_⟩;replace HK:=yK HK hk;replace HB:=zk hb;replace HI0:=zk hi;(try clear hb hk hi)))
 try simp only [Act.put,zt,zv,zu]
 go_loopg [5,7] k (fun kq v5 v7 w'=>∃ (x5_1:ByteArray) (x7_1:Int) (x1001_1:Int) (x1002_1:Int),v5 = .string x5_1∧v7 = .int .i64 x7_1∧Aside0 (spec_l2Word.l0 kq x5_1 t1 x7_1 s0_0 x1001_1 x1002_1=some (r1,r2,r3))∧Aside0 (kq≤k)∧Aside0 (IsS73 w0 w' g s0_0 x1001_1 x1002_1)∧Aside0 (KeepBut w w' g none)∧Aside0 (Below w0.heap.size w0 w'))
 case atStart=>exact ⟨((⟨#[]⟩:ByteArray)),(0),(t2),(t3),za13,za13,H',⟨Nat.le_refl _⟩,⟨za6⟩,⟨za9⟩,⟨za12⟩⟩
 case round =>
  clear H'
  obtain ⟨x5_1,x7_1,x1001_1,x1002_1,rfl,rfl,HA,HK1,HI0,HK,HB⟩:=hrel
  cases gk with
  | zero=>exact absurd HA.out (by simp [spec_l2Word.l0])
  | succ k1 =>
   have H:=HA.out
   clear HA
   simp only [spec_l2Word.l0] at H
   by_cases c5:x7_1 < t1
   rw [if_pos c5] at H
   have c5b0:=zdl c5
   clear c5
   obtain ⟨y63004,hy63004⟩:∃ y_:List ByteArray,y_=(([⟨#[97]⟩,⟨#[98]⟩,⟨#[97]⟩,⟨#[98]⟩,⟨#[99]⟩]:List ByteArray)):=⟨_,rfl⟩
   replace H:((spec_l1Pick.f s0_0 x1001_1 x1002_1 y63004).bind fun bt7=>(if x5_1.size+bt7.1.size≤9223372036854775807 then (spec_l2Word.l0 k1 (x5_1 ++ bt7.1) t1 (wrap64 (x7_1+1)) s0_0 bt7.2.1 bt7.2.2) else (none)))=some (r1,r2,r3):=by first|(rw [hy63004];with_reducible exact H)|(have H2_:=(Option.bind_some _ _).symm.trans H;rw [hy63004];with_reducible exact H2_)|(have H2_:=(Option.bind_some _ _).symm.trans H;with_reducible exact H2_)|with_reducible exact H|(rw [hy63004];exact H)|exact H
   have Ny4:=zk hy63004
   clear hy63004
   obtain ⟨⟨t7,t8,t9⟩,A6,H⟩:=zO H
   try dsimp only at H
   by_cases c7:x5_1.size+t7.size≤9223372036854775807
   ·rw [if_pos c7] at H
    have c7z:=c7
    try simp at c7z
    try replace c7z:=eq_false (Nat.not_lt.2 c7z)
    have c7b0:=eq_true c7
    have c7b1:=zdle c7
    try have c7b2:(9223372036854775807 < x5_1.size+t7.size)=False:=eq_false (Nat.not_lt.2 c7)
    have H':=zk H
    clear H
    go_wp2_with (first|((with_reducible refine gate_dst (N:=19) rfl ?_);refine Kd.R_lit Kd.string _ 9 ?hg (N:=19) ?hd (xs:=([⟨#[97]⟩,⟨#[98]⟩,⟨#[97]⟩,⟨#[98]⟩,⟨#[99]⟩]:List ByteArray)) (inner:=[.string ⟨#[97]⟩,.string ⟨#[98]⟩,.string ⟨#[97]⟩,.string ⟨#[98]⟩,.string ⟨#[99]⟩]) (ok:=fun _=>True) (okp:=fun _=>True) ?hr ?hp (fun _ hk=>hk) trivial (Below.refl _ _) (Nat.le_refl _) (by simp) ?_;(case hd=>rfl);(case hg=>rfl);(case hr=>first|(go_simp;done)|(go_simp;rfl));(case hp=>exact (Reps.one (show Kd.M Kd.string _ _ _ (⟨#[97]⟩:ByteArray) [.string ⟨#[97]⟩] from rfl) (Reps.one (show Kd.M Kd.string _ _ _ (⟨#[98]⟩:ByteArray) [.string ⟨#[98]⟩] from rfl) (Reps.one (show Kd.M Kd.string _ _ _ (⟨#[97]⟩:ByteArray) [.string ⟨#[97]⟩] from rfl) (Reps.one (show Kd.M Kd.string _ _ _ (⟨#[98]⟩:ByteArray) [.string ⟨#[98]⟩] from rfl) (Reps.one (show Kd.M Kd.string _ _ _ (⟨#[99]⟩:ByteArray) [.string ⟨#[99]⟩] from rfl) (Reps.none _ _)))))));intro v63005 w8 ho9 hb hg_ hnew_;clear hg_ hnew_;(first|rw [← Ny4.out] at ho9|(simp only [Int.reduceToNat] at ho9;rw [← Ny4.out] at ho9));have HO6:=zk (Kd.R_lower ho9 (keep_size (w:=w) (g:=g) (row:=none) za9));replace HB:=zk (below_step za12 hb);replace HI0:=zk (IsS73.below za6 hb);replace HK:=yk HK hb;clear hb ho9;obtain ⟨Ao10,co10,eo10⟩:=Kd.R_slice HO6.out;subst eo10)|((with_reducible refine gate_callee (f:=62) rfl ?_);refine zg (some 20) Try.func62 #[.pointer (some ⟨g,0,none⟩),.slice Ao10 y63004.length co10] rfl za4 ?_;(with_reducible refine (spec_l1Pick.calls g s0_0 x1001_1 x1002_1 _ _ y63004 t7 t8 t9 w0 _ za6 za12 ?side3 ?side4 ?side5 A6.out).mono ?_);(case side3=>repeat (first|exact (Kd.R_reads' HO6.out).2.2|(with_reducible refine Kd.C_alloc ?_ _)|(with_reducible refine Kd.C_drewN ?_ _)|(with_reducible refine Kd.C_drew ?_)));(case side4=>exact (Kd.R_reads' HO6.out).2.1);(case side5=>exact far_slice (IsS73.own_ne HI0.out HO6.out (by decide)));rintro e w11 ⟨rfl,hi,hb,hk⟩;refine ⟨_,rfl,?_⟩;replace HO6:=zk (Kd.R_mono (Kd.R_keep (IsS73.apart (show IsS73 w0 _ g s0_0 x1001_1 x1002_1 from za6) (za1 HO6.out) (by decide)) hk (fun _ h=>h.2)) (fun _ h=>h.1));replace HK:=yK HK hk;replace HB:=zk hb;replace HI0:=zk hi;(try clear hb hk hi)))
    go_roundg k1
    case measure=>have:=HK1.out;omega
    case rel=>exact ⟨(x5_1 ++ t7),(wrap64 (x7_1+1)),(t8),(t9),za13,za13,H',⟨za61⟩,⟨za6⟩,⟨za9⟩,⟨za12⟩⟩
   ·rw [if_neg c7] at H
    exact absurd H (by simp)
   ·rw [if_neg c5] at H
    have c5b0:=zdnl c5
    clear c5
    simp only [Option.some.injEq,Prod.mk.injEq] at H
    obtain ⟨rfl,rfl,rfl⟩:=H
    go_wp2
    go_ret
    exact ⟨za15,za6,za12,za9⟩
def spec_l2Any.f (k:Nat) (s0_0:List Int) (s0_1:Int) (s0_2:Int):Option (ByteArray × Int × Int):=(spec_l2Word.f k s0_0 s0_1 s0_2 6).bind fun bt45001=>((spec_l1Pick.f s0_0 bt45001.2.1 bt45001.2.2 (([(⟨#[]⟩:ByteArray),(⟨#[97]⟩:ByteArray),(⟨#[97,98,99]⟩:ByteArray),(⟨#[99,99]⟩:ByteArray),(⟨#[97,98,100]⟩:ByteArray),(⟨#[65]⟩:ByteArray),(⟨#[99,99,99,99,99,99,99,99,99,99,99,99,99,99,99,99,99,99,99,99,99,99,99,99,99,99,99,99,99,99]⟩:ByteArray),(⟨#[97,97,97,97,97,97,97,97,97,97,97,97,97,97,97,97,97,97,97,97,97,97,97,97,97,97,97,97,97,97,97]⟩:ByteArray),(⟨#[97,99,99]⟩:ByteArray),bt45001.1]:List ByteArray))).bind fun bt45007=>(some (bt45007.1,bt45007.2.1,bt45007.2.2)))
theorem spec_l2Any.calls (k:Nat) (g:Nat) (s0_0:List Int) (s0_1:Int) (s0_2:Int) (r1:ByteArray) (r2:Int) (r3:Int) (w0 w:World) (hI:IsS73 w0 w g s0_0 s0_1 s0_2) (hB:Below w0.heap.size w0 w) (h:spec_l2Any.f k s0_0 s0_1 s0_2=some (r1,r2,r3)) :
  Calls Try.prog 45 #[.pointer (some ⟨g,0,none⟩)] w fun e w'=>e = .returned (.string r1)∧IsS73 w0 w' g s0_0 r2 r3∧Below w0.heap.size w0 w'∧KeepBut w w' g none:=by
 have HI0:=zk hI
 have HK:=zk (KeepBut.refl w g none)
 have HL:=zk hB.size
 clear hI
 have HW0:=zk hB.size
 have HB:=zk hB
 clear hB
 have H:=h
 unfold spec_l2Any.f at H
 clear h
 obtain ⟨⟨t1,t2,t3⟩,A2,H⟩:=zO H
 try dsimp only at H
 obtain ⟨y45004,hy45004⟩:∃ y_:List ByteArray,y_=(([(⟨#[]⟩:ByteArray),(⟨#[97]⟩:ByteArray),(⟨#[97,98,99]⟩:ByteArray),(⟨#[99,99]⟩:ByteArray),(⟨#[97,98,100]⟩:ByteArray),(⟨#[65]⟩:ByteArray),(⟨#[99,99,99,99,99,99,99,99,99,99,99,99,99,99,99,99,99,99,99,99,99,99,99,99,99,99,99,99,99,99]⟩:ByteArray),(⟨#[97,97,97,97,97,97,97,97,97,97,97,97,97,97,97,97,97,97,97,97,97,97,97,97,97,97,97,97,97,97,97]⟩:ByteArray),(⟨#[97,99,99]⟩:ByteArray),t1]:List ByteArray)):=⟨_,rfl⟩
 replace H:((spec_l1Pick.f s0_0 t2 t3 y45004).bind fun bt7=>(some (bt7.1,bt7.2.1,bt7.2.2)))=some (r1,r2,r3):=by first|(rw [hy45004];with_reducible exact H)|(have H2_:=(Option.bind_some _ _).symm.trans H;rw [hy45004];with_reducible exact H2_)|(have H2_:=(Option.bind_some _ _).symm.trans H;with_reducible exact H2_)|with_reducible exact H|(rw [hy45004];exact H)|exact H
 have Ny4:=zk hy45004
 clear hy45004
 obtain ⟨⟨t7,t8,t9⟩,A3,H⟩:=zO H
 try dsimp only at H
 simp only [Option.some.injEq,Prod.mk.injEq] at H
 obtain ⟨rfl,rfl,rfl⟩:=H
 go_enter Try.func45,Try.ntmps45
 go_wp2_with (first|((with_reducible refine gate_callee (f:=63) rfl ?_);refine zg (some 5) Try.func63 #[.pointer (some ⟨g,0,none⟩),.int .i64 6] rfl za4 ?_;(with_reducible refine (spec_l2Word.calls k g s0_0 s0_1 s0_2 6 t1 t2 t3 w0 _ za6 za12 A2.out).mono ?_);rintro e w4 ⟨rfl,hi,hb,hk⟩;refine ⟨_,rfl,?_⟩;replace HK:=yK HK hk;replace HB:=zk hb;replace HI0:=zk hi;(try clear hb hk hi))|((with_reducible refine gate_dst (N:=6) rfl ?_);refine Kd.R_lit Kd.string _ 9 ?hg (N:=6) ?hd (xs:=([(⟨#[]⟩:ByteArray),(⟨#[97]⟩:ByteArray),(⟨#[97,98,99]⟩:ByteArray),(⟨#[99,99]⟩:ByteArray),(⟨#[97,98,100]⟩:ByteArray),(⟨#[65]⟩:ByteArray),(⟨#[99,99,99,99,99,99,99,99,99,99,99,99,99,99,99,99,99,99,99,99,99,99,99,99,99,99,99,99,99,99]⟩:ByteArray),(⟨#[97,97,97,97,97,97,97,97,97,97,97,97,97,97,97,97,97,97,97,97,97,97,97,97,97,97,97,97,97,97,97]⟩:ByteArray),(⟨#[97,99,99]⟩:ByteArray),t1]:List ByteArray)) (inner:=[.string ⟨#[]⟩,.string ⟨#[97]⟩,.string ⟨#[97,98,99]⟩,.string ⟨#[99,99]⟩,.string ⟨#[97,98,100]⟩,.string ⟨#[65]⟩,.string ⟨#[99,99,99,99,99,99,99,99,99,99,99,99,99,99,99,99,99,99,99,99,99,99,99,99,99,99,99,99,99,99]⟩,.string ⟨#[97,97,97,97,97,97,97,97,97,97,97,97,97,97,97,97,97,97,97,97,97,97,97,97,97,97,97,97,97,97,97]⟩,.string ⟨#[97,99,99]⟩,.string t1]) (ok:=fun _=>True) (okp:=fun _=>True) ?hr ?hp (fun _ hk=>hk) trivial (Below.refl _ _) (Nat.le_refl _) (by simp) ?_;(case hd=>rfl);(case hg=>rfl);(case hr=>first|(go_simp;done)|(go_simp;rfl));(case hp=>exact (Reps.one (show Kd.M Kd.string _ _ _ (⟨#[]⟩:ByteArray) [.string ⟨#[]⟩] from rfl) (Reps.one (show Kd.M Kd.string _ _ _ (⟨#[97]⟩:ByteArray) [.string ⟨#[97]⟩] from rfl) (Reps.one (show Kd.M Kd.string _ _ _ (⟨#[97,98,99]⟩:ByteArray) [.string ⟨#[97,98,99]⟩] from rfl) (Reps.one (show Kd.M Kd.string _ _ _ (⟨#[99,99]⟩:ByteArray) [.string ⟨#[99,99]⟩] from rfl) (Reps.one (show Kd.M Kd.string _ _ _ (⟨#[97,98,100]⟩:ByteArray) [.string ⟨#[97,98,100]⟩] from rfl) (Reps.one (show Kd.M Kd.string _ _ _ (⟨#[65]⟩:ByteArray) [.string ⟨#[65]⟩] from rfl) (Reps.one (show Kd.M Kd.string _ _ _ (⟨#[99,99,99,99,99,99,99,99,99,99,99,99,99,99,99,99,99,99,99,99,99,99,99,99,99,99,99,99,99,99]⟩:ByteArray) [.string ⟨#[99,99,99,99,99,99,99,99,99,99,99,99,99,99,99,99,99,99,99,99,99,99,99,99,99,99,99,99,99,99]⟩] from rfl) (Reps.one (show Kd.M Kd.string _ _ _ (⟨#[97,97,97,97,97,97,97,97,97,97,97,97,97,97,97,97,97,97,97,97,97,97,97,97,97,97,97,97,97,97,97]⟩:ByteArray) [.string ⟨#[97,97,97,97,97,97,97,97,97,97,97,97,97,97,97,97,97,97,97,97,97,97,97,97,97,97,97,97,97,97,97]⟩] from rfl) (Reps.one (show Kd.M Kd.string _ _ _ (⟨#[97,99,99]⟩:ByteArray) [.string ⟨#[97,99,99]⟩] from rfl) (Reps.one (show Kd.M Kd.string _ _ _ t1 [.string t1] from rfl) (Reps.none _ _))))))))))));intro v5 w5 ho6 hb hg_ hnew_;clear hg_ hnew_;(first|rw [← Ny4.out] at ho6|(simp only [Int.reduceToNat] at ho6;rw [← Ny4.out] at ho6));have HO6:=zk (Kd.R_lower ho6 (keep_size (w:=w) (g:=g) (row:=none) za9));replace HB:=zk (below_step za12 hb);replace HI0:=zk (IsS73.below za6 hb);replace HK:=yk HK hb;clear hb ho6;obtain ⟨Ao7,co7,eo7⟩:=Kd.R_slice HO6.out;subst eo7)|((with_reducible refine gate_callee (f:=62) rfl ?_);refine zg (some 7) Try.func62 #[.pointer (some ⟨g,0,none⟩),.slice Ao7 y45004.length co7] rfl za4 ?_;(with_reducible refine (spec_l1Pick.calls g s0_0 t2 t3 _ _ y45004 t7 t8 t9 w0 _ za6 za12 ?side3 ?side4 ?side5 A3.out).mono ?_);(case side3=>repeat (first|exact (Kd.R_reads' HO6.out).2.2|(with_reducible refine Kd.C_alloc ?_ _)|(with_reducible refine Kd.C_drewN ?_ _)|(with_reducible refine Kd.C_drew ?_)));(case side4=>exact (Kd.R_reads' HO6.out).2.1);(case side5=>exact far_slice (IsS73.own_ne HI0.out HO6.out (by decide)));rintro e w8 ⟨rfl,hi,hb,hk⟩;refine ⟨_,rfl,?_⟩;replace HO6:=zk (Kd.R_mono (Kd.R_keep (IsS73.apart (show IsS73 w0 _ g s0_0 t2 t3 from za6) (za1 HO6.out) (by decide)) hk (fun _ h=>h.2)) (fun _ h=>h.1));replace HK:=yK HK hk;replace HB:=zk hb;replace HI0:=zk hi;(try clear hb hk hi)))
 go_ret
 exact ⟨za15,za6,za12,za9⟩
def spec_DrawBuildMonoid.f (k:Nat) (l0:List Int):Option (List Bool × (List (List Int))):=(spec_l1New.f k l0).bind fun bt5002=>((spec_l1Once.f bt5002.1 bt5002.2.1 bt5002.2.2 4).bind fun bt5006=>(if bt5006.1=true then ((spec_l5Bent.f k bt5002.1 bt5006.2.1 bt5006.2.2).bind fun bt5009=>(some (bt5009.1,bt5009.2.1))) else ((spec_l5Draw.f k bt5002.1 bt5006.2.1 bt5006.2.2 3).bind fun bt5017=>(some (bt5017.1,bt5017.2.1)))))
theorem spec_DrawBuildMonoid.calls (k:Nat) (A0:Option Addr) (c0:Nat) (l0:List Int) (r1:List Bool) (r2:List (List Int)) (w:World) (hr0:Kd.C (Kd.int .u8) w A0 l0.length l0) (hc0:l0.length≤c0) (h:spec_DrawBuildMonoid.f k l0=some (r1,r2)) :
  Calls Try.prog 5 #[.slice A0 l0.length c0] w fun e w'=>∃ v0_ v1_:Value,e = .returned (.agg #[v0_,v1_])∧Kd.R Kd.bool 4 w' w.heap.size (fun _=>True) v0_ r1∧Kd.S (Kd.slice 3 (Kd.int .i64)) 29 w' w.heap.size (fun _=>True) v1_ r2∧Below w.heap.size w w':=by
 have hu27:=Try.underlying27
 have HR0:=zk hr0
 have HC0:=zk hc0
 clear hr0 hc0
 have HB:=zk (Below.refl w.heap.size w)
 have H:=h
 unfold spec_DrawBuildMonoid.f at H
 clear h
 obtain ⟨⟨t2,t3,t4⟩,A2,H⟩:=zO H
 try dsimp only at H
 obtain ⟨⟨t6,t7,t8⟩,A3,H⟩:=zO H
 try dsimp only at H
 by_cases c4:t6=true
 ·subst c4
  rw [if_pos rfl] at H
  try dsimp only at H
  obtain ⟨⟨t9,t12,t15,t16⟩,A5,H⟩:=zO H
  try dsimp only at H
  simp only [Option.some.injEq,Prod.mk.injEq] at H
  obtain ⟨rfl,rfl⟩:=H
  go_enter Try.func5,Try.ntmps5
  go_wp2_with (first|((with_reducible refine gate_dst (N:=2) rfl ?_);refine zE (cs:=#[.slice none 0 0,.slice none 0 0]) (t:=27) ?_;intro gb1 hg w6 hbox hb;have BK1:=zk hbox;have GW1:=zk (zs (w:=w) hg za3);have GE1:=GW1;replace HB:=yB HB hb;clear hb hbox hg)|((with_reducible refine gate_callee (f:=17) rfl ?_);refine zg (some 5) Try.func17 #[.slice A0 l0.length c0] rfl za4 ?_;(with_reducible refine (spec_l1New.calls k _ _ l0 t2 t3 t4 w _ za31 ?side2 ?side3 A2.out).mono ?_);(case side2=>exact HR0.out);(case side3=>exact HC0.out);rintro e w7 ⟨g5,rfl,hi,hb,hb2⟩;refine ⟨_,rfl,?_⟩;replace HB:=zk hb;have HI5:=zk hi;have NB5_1:=zk (IsS73.ne_blk hi (zb BK1.out hb2) (by decide));have NB1_5:=zk (Ne.symm (IsS73.ne_blk hi (zb BK1.out hb2) (by decide)));replace BK1:=yb BK1 hb2;(try clear hb hb2 hi))|((with_reducible refine gate_callee (f:=18) rfl ?_);refine zg (some 7) Try.func18 #[.pointer (some ⟨g5,0,none⟩),.int .i64 4] rfl za4 ?_;(with_reducible refine (spec_l1Once.calls g5 t2 t3 t4 4 true t7 t8 w _ za28 za14 A3.out).mono ?_);rintro e w8 ⟨rfl,hi,hb,hk⟩;refine ⟨_,rfl,?_⟩;replace BK1:=yq hk BK1 NB1_5;replace HB:=zk hb;replace HI5:=zk hi;(try clear hb hk hi))|((with_reducible refine gate_callee (f:=19) rfl ?_);refine zg (some 9) Try.func19 #[.pointer (some ⟨g5,0,none⟩)] rfl za4 ?_;(with_reducible refine (spec_l5Bent.calls k g5 t2 t7 t8 t9 t12 t15 t16 w _ za28 za14 A5.out).mono ?_);rintro e w9 ⟨v10,v13,rfl,ho0,ho1,hi,hb,hk⟩;refine ⟨_,rfl,?_⟩;replace BK1:=yq hk BK1 NB1_5;have HO11:=zk (Kd.R_lower ho0 (below_size za14));have HO14:=zk (Kd.S_lower ho1 (below_size za14));replace HB:=zk hb;replace HI5:=zk hi;(try clear hb hk hi ho0 ho1);obtain ⟨Ao10,co10,eo10⟩:=Kd.R_slice HO11.out;subst eo10;have hnb11:=NB1_5.out;have hnc11:=NB5_1.out;obtain ⟨hcz12_0,hcz12_1,hfz12_0,hfz12_1⟩:=blk2 BK1.out;obtain ⟨Ao13,co13,eo13⟩:=Kd.S_slice HO14.out;subst eo13))
  refine bodyPost_ret (results_cell_row rfl _ _ gb1 27 #[.slice Ao10 t9.length co10,.slice Ao13 t12.length co13] (0,0) _ rfl (zpu BK1.out) Try.underlying27 rfl (by kernel_rfl)) rfl ?_
  exact ⟨_,_,za15,by (with_reducible repeat (first|apply Kd.R_alloc|apply Kd.R_drewN|apply Kd.R_drew));exact Kd.R_mono (zfR (zfR (Kd.R_types HO11.out BK1.out (by decide)))) (fun _ hk=>trivial),by (with_reducible repeat (first|apply Kd.S_alloc|apply Kd.S_drewN|apply Kd.S_drew));exact Kd.S_mono (zfS (zfS (Kd.S_types HO14.out BK1.out (by decide)))) (fun _ hk=>trivial),za14⟩
 ·replace c4:=Bool.eq_false_iff.mpr c4
  subst c4
  rw [if_neg zff] at H
  try dsimp only at H
  obtain ⟨⟨t17,t20,t23,t24⟩,A14,H⟩:=zO H
  try dsimp only at H
  simp only [Option.some.injEq,Prod.mk.injEq] at H
  obtain ⟨rfl,rfl⟩:=H
  go_enter Try.func5,Try.ntmps5
  go_wp2_with (first|((with_reducible refine gate_dst (N:=2) rfl ?_);refine zE (cs:=#[.slice none 0 0,.slice none 0 0]) (t:=27) ?_;intro gb1 hg w15 hbox hb;have BK1:=zk hbox;have GW1:=zk (zs (w:=w) hg za3);have GE1:=GW1;replace HB:=yB HB hb;clear hb hbox hg)|((with_reducible refine gate_callee (f:=17) rfl ?_);refine zg (some 5) Try.func17 #[.slice A0 l0.length c0] rfl za4 ?_;(with_reducible refine (spec_l1New.calls k _ _ l0 t2 t3 t4 w _ za31 ?side2 ?side3 A2.out).mono ?_);(case side2=>exact HR0.out);(case side3=>exact HC0.out);rintro e w16 ⟨g5,rfl,hi,hb,hb2⟩;refine ⟨_,rfl,?_⟩;replace HB:=zk hb;have HI5:=zk hi;have NB5_1:=zk (IsS73.ne_blk hi (zb BK1.out hb2) (by decide));have NB1_5:=zk (Ne.symm (IsS73.ne_blk hi (zb BK1.out hb2) (by decide)));replace BK1:=yb BK1 hb2;(try clear hb hb2 hi))|((with_reducible refine gate_callee (f:=18) rfl ?_);refine zg (some 7) Try.func18 #[.pointer (some ⟨g5,0,none⟩),.int .i64 4] rfl za4 ?_;(with_reducible refine (spec_l1Once.calls g5 t2 t3 t4 4 false t7 t8 w _ za28 za14 A3.out).mono ?_);rintro e w17 ⟨rfl,hi,hb,hk⟩;refine ⟨_,rfl,?_⟩;replace BK1:=yq hk BK1 NB1_5;replace HB:=zk hb;replace HI5:=zk hi;(try clear hb hk hi))|((with_reducible refine gate_callee (f:=20) rfl ?_);refine zg (some 11) Try.func20 #[.pointer (some ⟨g5,0,none⟩),.int .i64 3] rfl za4 ?_;(with_reducible refine (spec_l5Draw.calls k g5 t2 t7 t8 3 t17 t20 t23 t24 w _ za28 za14 A14.out).mono ?_);rintro e w18 ⟨v18,v21,rfl,ho0,ho1,hi,hb,hk⟩;refine ⟨_,rfl,?_⟩;replace BK1:=yq hk BK1 NB1_5;have HO19:=zk (Kd.R_lower ho0 (below_size za14));have HO22:=zk (Kd.S_lower ho1 (below_size za14));replace HB:=zk hb;replace HI5:=zk hi;(try clear hb hk hi ho0 ho1);obtain ⟨Ao19,co19,eo19⟩:=Kd.R_slice HO19.out;subst eo19;have hnb20:=NB1_5.out;have hnc20:=NB5_1.out;obtain ⟨hcz21_0,hcz21_1,hfz21_0,hfz21_1⟩:=blk2 BK1.out;obtain ⟨Ao22,co22,eo22⟩:=Kd.S_slice HO22.out;subst eo22))
  refine bodyPost_ret (results_cell_row rfl _ _ gb1 27 #[.slice Ao19 t17.length co19,.slice Ao22 t20.length co22] (0,0) _ rfl (zpu BK1.out) Try.underlying27 rfl (by kernel_rfl)) rfl ?_
  exact ⟨_,_,za15,by (with_reducible repeat (first|apply Kd.R_alloc|apply Kd.R_drewN|apply Kd.R_drew));exact Kd.R_mono (zfR (zfR (Kd.R_types HO19.out BK1.out (by decide)))) (fun _ hk=>trivial),by (with_reducible repeat (first|apply Kd.S_alloc|apply Kd.S_drewN|apply Kd.S_drew));exact Kd.S_mono (zfS (zfS (Kd.S_types HO22.out BK1.out (by decide)))) (fun _ hk=>trivial),za14⟩
def spec_l13Draw.f (k:Nat) (s0_0:List Int) (s0_1:Int) (s0_2:Int):Option ((List (List Int)) × List Int × (List (List Int)) × Int × Int):=(spec_l5Draw.f k s0_0 s0_1 s0_2 3).bind fun bt58002=>((spec_BuildMonoid.f k bt58002.1 bt58002.2.1).bind fun bt58010=>(some (bt58010.1,bt58010.2.1,bt58010.2.2.1,bt58002.2.2.1,bt58002.2.2.2)))
theorem spec_l13Draw.apart (k:Nat) (g:Nat) (s0_0:List Int) (s0_1:Int) (s0_2:Int) (r1:List (List Int)) (r2:List Int) (r3:List (List Int)) (r4:Int) (r5:Int) (w0 w:World) (hI:IsS73 w0 w g s0_0 s0_1 s0_2) (hB:Below w0.heap.size w0 w) (h:spec_l13Draw.f k s0_0 s0_1 s0_2=some (r1,r2,r3,r4,r5)) :
  Calls Try.prog 58 #[.pointer (some ⟨g,0,none⟩)] w fun e w'=>∃ (T_:Nat) (v0_ v1_ v2_:Value),e = .returned (.agg #[v0_,v1_,v2_])∧Kd.S (Kd.slice 3 (Kd.int .i64)) 29 w' w.heap.size (fun k_=>(some k_ ≠ (v1_:Value).ownBlock∧some k_ ≠ (v2_:Value).ownBlock)∧k_ < T_) v0_ r1∧Kd.R (Kd.int .i64) 3 w' w.heap.size (fun _=>True) v1_ r2∧Kd.S (Kd.slice 3 (Kd.int .i64)) 29 w' w.heap.size (fun k_=>(some k_ ≠ (v0_:Value).ownBlock∧some k_ ≠ (v1_:Value).ownBlock)∧T_≤k_) v2_ r3∧IsS73 w0 w' g s0_0 r4 r5∧Below w0.heap.size w0 w'∧KeepBut w w' g none:=by
 have hu31:=Try.underlying31
 have HI0:=zk hI
 have HK:=zk (KeepBut.refl w g none)
 have HL:=zk hB.size
 clear hI
 have HW0:=zk hB.size
 have HB:=zk hB
 clear hB
 have H:=h
 unfold spec_l13Draw.f at H
 clear h
 obtain ⟨⟨t2,t5,t8,t9⟩,A2,H⟩:=zO H
 try dsimp only at H
 obtain ⟨⟨t10,t13,t16,t19⟩,A3,H⟩:=zO H
 try dsimp only at H
 simp only [Option.some.injEq,Prod.mk.injEq] at H
 obtain ⟨rfl,rfl,rfl,rfl,rfl⟩:=H
 go_enter Try.func58,Try.ntmps58
 go_wp2_with (first|((with_reducible refine gate_dst (N:=2) rfl ?_);refine zE (cs:=#[.slice none 0 0,.slice none 0 0,.slice none 0 0]) (t:=31) ?_;intro gb1 hg w4 hbox hb;replace HB:=zk (below_step za12 hb);have BK1:=zk hbox;have GW1:=zk ((by rw [hg];exact (keep_size (w:=w) (g:=g) (row:=none) za9):w.heap.size≤gb1));have GE1:=zk ((Nat.le_trans HW0.out (by rw [hg];exact (keep_size (w:=w) (g:=g) (row:=none) za9):w.heap.size≤gb1):w0.heap.size≤gb1));have NB0_1:=zk (zm hg (IsS73.lt (show IsS73 w0 _ g s0_0 s0_1 s0_2 from za6)));have NB1_0:=zk (zM hg (IsS73.lt (show IsS73 w0 _ g s0_0 s0_1 s0_2 from za6)));replace HI0:=zk (IsS73.below za6 hb);replace HK:=yk HK hb;clear hb hbox hg)|((with_reducible refine gate_callee (f:=20) rfl ?_);refine zg (some 7) Try.func20 #[.pointer (some ⟨g,0,none⟩),.int .i64 3] rfl za4 ?_;(with_reducible refine (spec_l5Draw.calls k g s0_0 s0_1 s0_2 3 t2 t5 t8 t9 w0 _ za8 za17 A2.out).mono ?_);rintro e w5 ⟨v3,v6,rfl,ho0,ho1,hi,hb,hk⟩;refine ⟨_,rfl,?_⟩;replace BK1:=yq hk BK1 NB1_0;have HO4:=zk (Kd.R_lower ho0 (keep_size (w:=w) (g:=g) (row:=none) za5));have HO7:=zk (Kd.S_lower ho1 (keep_size (w:=w) (g:=g) (row:=none) za5));replace HB:=zk hb;replace HI0:=zk hi;replace HK:=yK HK hk;(try clear hb hk hi ho0 ho1);obtain ⟨Ao6,co6,eo6⟩:=Kd.R_slice HO4.out;subst eo6;obtain ⟨Ao7,co7,eo7⟩:=Kd.S_slice HO7.out;subst eo7)|((with_reducible refine gate_callee (f:=7) rfl ?_);refine zg (some 8) Try.func7 #[.agg #[.slice Ao6 t2.length co6,.slice Ao7 t5.length co7]] rfl za4 ?_;(with_reducible refine (spec_BuildMonoid.apart k _ _ t2 _ _ t5 t10 t13 t16 t19 _ ?side1 ?side2 ?side3 ?side4 A3.out).mono ?_);(case side1=>repeat (first|exact (Kd.R_reads' HO4.out).2.2|(with_reducible refine Kd.C_alloc ?_ _)|(with_reducible refine Kd.C_drewN ?_ _)|(with_reducible refine Kd.C_drew ?_)));(case side2=>exact (Kd.R_reads' HO4.out).2.1);(case side3=>repeat (first|exact (Kd.S_reads' HO7.out).2.2|(with_reducible refine Kd.C_alloc ?_ _)|(with_reducible refine Kd.C_drewN ?_ _)|(with_reducible refine Kd.C_drew ?_)));(case side4=>exact (Kd.S_reads' HO7.out).2.1);rintro e w8 ⟨T_,v11,v14,v17,rfl,ho0,ho1,ho2T,hT_,hb⟩;refine ⟨_,rfl,?_⟩;have ho2:=Kd.S_lower (Kd.S_mono (Kd.S_bound ho2T) (fun _ hk=>(⟨hk.1,hk.2.1⟩:_∧T_≤_))) hT_;replace HO4:=zk (Kd.R_below (za1 HO4.out) hb);have HO12:=zk (Kd.S_lower (Kd.S_new' ho0 (Kd.S_lt (za2 HO7.out))) (keep_size (w:=w) (g:=g) (row:=none) za5));have HO15:=zk (Kd.R_lower ho1 (keep_size (w:=w) (g:=g) (row:=none) za5));have HO18:=zk (Kd.S_lower (Kd.S_new' ho2 (Kd.S_lt (za2 HO7.out))) (keep_size (w:=w) (g:=g) (row:=none) za5));replace BK1:=yb BK1 hb;replace HB:=zk (below_step za17 hb);replace HO7:=zk (Kd.S_mono (Kd.S_told (Kd.S_told (Kd.S_told (Kd.S_old (za2 HO7.out) hb) (Kd.S_base ho0)) (Kd.R_base ho1)) (Kd.S_base ho2)) (fun _ h_=>h_.1));replace HI0:=zk (IsS73.below za8 hb);replace HK:=yk HK hb;(try clear hb ho0 ho1))|((with_reducible refine gate_dst (N:=3) rfl ?_);refine zE (cs:=#[.slice none 0 0,.slice none 0 0,.slice none 0 0]) (t:=31) ?_;intro gb20 hg w9 hbox hb;replace HO4:=zk (Kd.R_below (za1 HO4.out) hb);replace HO7:=zk (Kd.S_below (za2 HO7.out) hb);replace HO12:=zk (Kd.S_below (za2 HO12.out) hb);replace HO15:=zk (Kd.R_below (za1 HO15.out) hb);replace HO18:=zk (Kd.S_below (za2 HO18.out) hb);replace HB:=zk (below_step za17 hb);have BK20:=zk hbox;have GW20:=zk ((by rw [hg];exact (keep_size (w:=w) (g:=g) (row:=none) za5):w.heap.size≤gb20));have GE20:=zk ((Nat.le_trans HW0.out (by rw [hg];exact (keep_size (w:=w) (g:=g) (row:=none) za5):w.heap.size≤gb20):w0.heap.size≤gb20));have NB1_20:=yn hg BK1;have NB20_1:=yp hg BK1;have NB0_20:=zk (zm hg (IsS73.lt (show IsS73 w0 _ g s0_0 t8 t9 from za8)));have NB20_0:=zk (zM hg (IsS73.lt (show IsS73 w0 _ g s0_0 t8 t9 from za8)));replace HI0:=zk (IsS73.below za8 hb);replace BK1:=yb BK1 hb;replace HK:=yk HK hb;clear hb hbox hg;obtain ⟨Ao10,co10,eo10⟩:=Kd.S_slice HO12.out;subst eo10;have hnb11:=NB20_1.out;have hnc11:=NB1_20.out;have hnb12:=NB20_0.out;have hnc12:=NB0_20.out;have hcz13_0:w9.cell? ⟨gb20,0,none⟩=some (.slice none 0 0):=(blk_cell BK20.out 0).trans rfl;have hcz13_1:w9.cell? ⟨gb20,1,none⟩=some (.slice none 0 0):=(blk_cell BK20.out 1).trans rfl;have hcz13_2:w9.cell? ⟨gb20,2,none⟩=some (.slice none 0 0):=(blk_cell BK20.out 2).trans rfl;have hfz13_0:=blk_frozen BK20.out 0;have hfz13_1:=blk_frozen BK20.out 1;have hfz13_2:=blk_frozen BK20.out 2;obtain ⟨Ao14,co14,eo14⟩:=Kd.R_slice HO15.out;subst eo14;obtain ⟨Ao15,co15,eo15⟩:=Kd.S_slice HO18.out;subst eo15;have hnb16:=NB1_0.out;have hnc16:=NB0_1.out;have hcz17_0:w9.cell? ⟨gb1,0,none⟩=some (.slice none 0 0):=(blk_cell BK1.out 0).trans rfl;have hcz17_1:w9.cell? ⟨gb1,1,none⟩=some (.slice none 0 0):=(blk_cell BK1.out 1).trans rfl;have hcz17_2:w9.cell? ⟨gb1,2,none⟩=some (.slice none 0 0):=(blk_cell BK1.out 2).trans rfl;have hfz17_0:=blk_frozen BK1.out 0;have hfz17_1:=blk_frozen BK1.out 1;have hfz17_2:=blk_frozen BK1.out 2))
 refine bodyPost_ret (results_cell_row rfl _ _ gb1 31 #[.slice Ao10 t10.length co10,.slice Ao14 t13.length co14,.slice Ao15 t16.length co15] (0,0) _ rfl (zpw BK1.out) Try.underlying31 rfl (by kernel_rfl)) rfl ?_
 exact ⟨T_,_,_,_,za15,by (with_reducible repeat (first|apply Kd.S_alloc|apply Kd.S_drewN|apply Kd.S_drew));exact Kd.S_mono (zfS (zfS (zfS (Kd.S_far (p:=⟨gb20,2,none⟩) (Kd.S_far (p:=⟨gb20,1,none⟩) (Kd.S_far (p:=⟨gb20,0,none⟩) (Kd.S_types (Kd.S_types HO12.out BK20.out (by decide)) BK1.out (by decide)) (fun _ hk=>hk.1.2) (.slice Ao10 t10.length co10)) (fun _ hk=>hk.1.2) (.slice Ao14 t13.length co14)) (fun _ hk=>hk.1.2) (.slice Ao15 t16.length co15))))) (fun _ hk=>hk.1.1.1),by (with_reducible repeat (first|apply Kd.R_alloc|apply Kd.R_drewN|apply Kd.R_drew));exact Kd.R_mono (zfR (zfR (zfR (Kd.R_far (p:=⟨gb20,2,none⟩) (Kd.R_far (p:=⟨gb20,1,none⟩) (Kd.R_far (p:=⟨gb20,0,none⟩) (Kd.R_types (Kd.R_types HO15.out BK20.out (by decide)) BK1.out (by decide)) (fun _ hk=>hk.1.2) (.slice Ao10 t10.length co10)) (fun _ hk=>hk.1.2) (.slice Ao14 t13.length co14)) (fun _ hk=>hk.1.2) (.slice Ao15 t16.length co15))))) (fun _ hk=>trivial),by (with_reducible repeat (first|apply Kd.S_alloc|apply Kd.S_drewN|apply Kd.S_drew));exact Kd.S_mono (zfS (zfS (zfS (Kd.S_far (p:=⟨gb20,2,none⟩) (Kd.S_far (p:=⟨gb20,1,none⟩) (Kd.S_far (p:=⟨gb20,0,none⟩) (Kd.S_types (Kd.S_types HO18.out BK20.out (by decide)) BK1.out (by decide)) (fun _ hk=>hk.1.2) (.slice Ao10 t10.length co10)) (fun _ hk=>hk.1.2) (.slice Ao14 t13.length co14)) (fun _ hk=>hk.1.2) (.slice Ao15 t16.length co15))))) (fun _ hk=>hk.1.1.1),by repeat (first|(with_reducible first|exact HI0.out|apply IsS73.alloc|apply IsS73.drewN|apply IsS73.drew|apply IsS73.set_1|apply IsS73.set_2|refine IsS73.far ?_ NB0_1.out _|refine IsS73.far ?_ NB0_20.out _)|exact HI0.out),by repeat (first|(with_reducible first|exact HB.out|apply below_alloc|apply pw_below_drewN|apply below_drew1|refine below_set ?_ (IsS73.ge HI0.out)|refine below_set ?_ GE1.out|refine below_set ?_ GE20.out)|exact HB.out),by repeat (first|(with_reducible first|exact HK.out|apply KeepBut.set_|apply keep_drewN|apply keep_drew|apply keep_alloc|refine keep_far ?_ GW1.out _|refine keep_far ?_ GW20.out _)|exact HK.out)⟩
theorem spec_l13Draw.calls (k:Nat) (g:Nat) (s0_0:List Int) (s0_1:Int) (s0_2:Int) (r1:List (List Int)) (r2:List Int) (r3:List (List Int)) (r4:Int) (r5:Int) (w0 w:World) (hI:IsS73 w0 w g s0_0 s0_1 s0_2) (hB:Below w0.heap.size w0 w) (h:spec_l13Draw.f k s0_0 s0_1 s0_2=some (r1,r2,r3,r4,r5)) :
  Calls Try.prog 58 #[.pointer (some ⟨g,0,none⟩)] w fun e w'=>∃ v0_ v1_ v2_:Value,e = .returned (.agg #[v0_,v1_,v2_])∧Kd.S (Kd.slice 3 (Kd.int .i64)) 29 w' w.heap.size (fun k_=>some k_ ≠ (v1_:Value).ownBlock∧some k_ ≠ (v2_:Value).ownBlock) v0_ r1∧Kd.R (Kd.int .i64) 3 w' w.heap.size (fun _=>True) v1_ r2∧Kd.S (Kd.slice 3 (Kd.int .i64)) 29 w' w.heap.size (fun k_=>some k_ ≠ (v0_:Value).ownBlock∧some k_ ≠ (v1_:Value).ownBlock) v2_ r3∧IsS73 w0 w' g s0_0 r4 r5∧Below w0.heap.size w0 w'∧KeepBut w w' g none :=
 (spec_l13Draw.apart k g s0_0 s0_1 s0_2 r1 r2 r3 r4 r5 w0 w hI hB h).mono fun _ _ ⟨_,v0_,v1_,v2_,he,h0,h1,h2,hr⟩=>⟨v0_,v1_,v2_,he,Kd.S_mono h0 (fun _ hk=>hk.1),h1,Kd.S_mono h2 (fun _ hk=>hk.1),hr⟩
def spec_l13Bent.f (k:Nat) (s0_0:List Int) (s0_1:Int) (s0_2:Int):Option ((List (List Int)) × List Int × (List (List Int)) × Int × Int):=(spec_l13Draw.f k s0_0 s0_1 s0_2).bind fun bt38002=>((spec_l1Below.f s0_0 bt38002.2.2.2.1 bt38002.2.2.2.2 12).bind fun bt38014=>(if bt38014.1=0 then (if bt38002.2.1.length < 17592186044416 then (some (bt38002.1,(bt38002.2.1 ++ [0]),bt38002.2.2.1,bt38014.2.1,bt38014.2.2)) else (none)) else (if bt38014.1=1 then (if bt38002.2.2.1.length < 5864062014805 then (some (bt38002.1,bt38002.2.1,(bt38002.2.2.1 ++ [(([0]:List Int))]),bt38014.2.1,bt38014.2.2)) else (none)) else (if bt38014.1=2 then (if 0 < (bt38002.2.2.1.length:Int) then ((spec_l1PickInt.f s0_0 bt38014.2.1 bt38014.2.2 (([(-1),99,0]:List Int))).bind fun bt38030=>(if 0 < ((rd_L3 bt38002.2.2.1 0).length:Int) then (some (bt38002.1,bt38002.2.1,(bt38002.2.2.1.set (0:Int).toNat ((rd_L3 bt38002.2.2.1 0).set (0:Int).toNat bt38030.1)),bt38030.2.1,bt38030.2.2)) else (none))) else (none)) else (some (bt38002.1,bt38002.2.1,bt38002.2.2.1,bt38014.2.1,bt38014.2.2))))))
def spec_l13Bent.T8:Bool × List (List Nat × List Nat):=(true,[([],[]),([0],[0]),([1],[1]),([2],[2]),([],[]),([],[]),([4,5],[4,5]),([3,0,1,2,3,4,5,6],[3]),([7,6,6,0,1,2,3,4,5,6],[6,7])])
def spec_l13Bent.B8:List Nat:=[0,1,3,7,0,0,48,127,255]
theorem spec_l13Bent.tab8:rtab .any (opsOf Try.f38 8)=spec_l13Bent.T8:=by kernel_rfl
theorem spec_l13Bent.bits8:waitsOk spec_l13Bent.T8.2 spec_l13Bent.B8=true:=by kernel_rfl
theorem spec_l13Bent.calls (k:Nat) (g:Nat) (s0_0:List Int) (s0_1:Int) (s0_2:Int) (r1:List (List Int)) (r2:List Int) (r3:List (List Int)) (r4:Int) (r5:Int) (w0 w:World) (hI:IsS73 w0 w g s0_0 s0_1 s0_2) (hB:Below w0.heap.size w0 w) (h:spec_l13Bent.f k s0_0 s0_1 s0_2=some (r1,r2,r3,r4,r5)) :
  Calls Try.prog 38 #[.pointer (some ⟨g,0,none⟩)] w fun e w'=>∃ v0_ v1_ v2_:Value,e = .returned (.agg #[v0_,v1_,v2_])∧Kd.S (Kd.slice 3 (Kd.int .i64)) 29 w' w.heap.size (fun k_=>some k_ ≠ (v1_:Value).ownBlock∧some k_ ≠ (v2_:Value).ownBlock) v0_ r1∧Kd.R (Kd.int .i64) 3 w' w.heap.size (fun _=>True) v1_ r2∧Kd.S (Kd.slice 3 (Kd.int .i64)) 29 w' w.heap.size (fun k_=>some k_ ≠ (v0_:Value).ownBlock∧some k_ ≠ (v1_:Value).ownBlock) v2_ r3∧IsS73 w0 w' g s0_0 r4 r5∧Below w0.heap.size w0 w'∧KeepBut w w' g none:=by
 have hu31:=Try.underlying31
 have HI0:=zk hI
 have HK:=zk (KeepBut.refl w g none)
 have HL:=zk hB.size
 clear hI
 have HW0:=zk hB.size
 have HB:=zk hB
 clear hB
 have H:=h
 unfold spec_l13Bent.f at H
 clear h
 obtain ⟨⟨t2,t5,t8,t11,t12⟩,A2,H⟩:=zO H
 try dsimp only at H
 obtain ⟨⟨t14,t15,t16⟩,A3,H⟩:=zO H
 try dsimp only at H
 by_cases c4:t14=0
 rw [if_pos c4] at H
 have c4b0:=zbt c4
 have c4b1:=zqn c4
 clear c4
 by_cases c5:t5.length < 17592186044416
 ·rw [if_pos c5] at H
  have LMc5:=zk c5
  clear c5
  obtain ⟨y38017,hy38017⟩:∃ y_:List Int,y_=(t5 ++ [0]):=⟨_,rfl⟩
  replace H:(some (t2,y38017,t8,t15,t16))=some (r1,r2,r3,r4,r5):=by first|(rw [hy38017];with_reducible exact H)|(have H2_:=(Option.bind_some _ _).symm.trans H;rw [hy38017];with_reducible exact H2_)|(have H2_:=(Option.bind_some _ _).symm.trans H;with_reducible exact H2_)|with_reducible exact H|(rw [hy38017];exact H)|exact H
  have Ny17:=zk hy38017
  clear hy38017
  simp only [Option.some.injEq,Prod.mk.injEq] at H
  obtain ⟨rfl,rfl,rfl,rfl,rfl⟩:=H
  go_enter Try.func38,Try.ntmps38
  go_wp2_with (first|((with_reducible refine gate_dst (N:=2) rfl ?_);refine zE (cs:=#[.slice none 0 0,.slice none 0 0,.slice none 0 0]) (t:=31) ?_;intro gb1 hg w6 hbox hb;replace HB:=zk (below_step za12 hb);have BK1:=zk hbox;have GW1:=zk ((by rw [hg];exact (keep_size (w:=w) (g:=g) (row:=none) za9):w.heap.size≤gb1));have GE1:=zk ((Nat.le_trans HW0.out (by rw [hg];exact (keep_size (w:=w) (g:=g) (row:=none) za9):w.heap.size≤gb1):w0.heap.size≤gb1));have NB0_1:=zk (zm hg (IsS73.lt (show IsS73 w0 _ g s0_0 s0_1 s0_2 from za6)));have NB1_0:=zk (zM hg (IsS73.lt (show IsS73 w0 _ g s0_0 s0_1 s0_2 from za6)));replace HI0:=zk (IsS73.below za6 hb);replace HK:=yk HK hb;clear hb hbox hg)|((with_reducible refine gate_callee (f:=58) rfl ?_);refine zg (some 5) Try.func58 #[.pointer (some ⟨g,0,none⟩)] rfl za4 ?_;(with_reducible refine (spec_l13Draw.calls k g s0_0 s0_1 s0_2 t2 t5 t8 t11 t12 w0 _ za8 za17 A2.out).mono ?_);rintro e w7 ⟨v3,v6,v9,rfl,ho0,ho1,ho2,hi,hb,hk⟩;refine ⟨_,rfl,?_⟩;replace BK1:=yq hk BK1 NB1_0;have HO4:=zk (Kd.S_lower ho0 (keep_size (w:=w) (g:=g) (row:=none) za5));have HO7:=zk (Kd.R_lower ho1 (keep_size (w:=w) (g:=g) (row:=none) za5));have HO10:=zk (Kd.S_lower ho2 (keep_size (w:=w) (g:=g) (row:=none) za5));replace HB:=zk hb;replace HI0:=zk hi;replace HK:=yK HK hk;(try clear hb hk hi ho0 ho1 ho2))|((with_reducible refine gate_dst (N:=3) rfl ?_);refine zE (cs:=#[.slice none 0 0,.slice none 0 0,.slice none 0 0]) (t:=31) ?_;intro gb13 hg w8 hbox hb;replace HO4:=zk (Kd.S_below (za2 HO4.out) hb);replace HO7:=zk (Kd.R_below (za1 HO7.out) hb);replace HO10:=zk (Kd.S_below (za2 HO10.out) hb);replace HB:=zk (below_step za17 hb);have BK13:=zk hbox;have GW13:=zk ((by rw [hg];exact (keep_size (w:=w) (g:=g) (row:=none) za5):w.heap.size≤gb13));have GE13:=zk ((Nat.le_trans HW0.out (by rw [hg];exact (keep_size (w:=w) (g:=g) (row:=none) za5):w.heap.size≤gb13):w0.heap.size≤gb13));have NB1_13:=yn hg BK1;have NB13_1:=yp hg BK1;have NB0_13:=zk (zm hg (IsS73.lt (show IsS73 w0 _ g s0_0 t11 t12 from za8)));have NB13_0:=zk (zM hg (IsS73.lt (show IsS73 w0 _ g s0_0 t11 t12 from za8)));replace HI0:=zk (IsS73.below za8 hb);replace BK1:=yb BK1 hb;replace HK:=yk HK hb;clear hb hbox hg;obtain ⟨Ao9,co9,eo9⟩:=Kd.S_slice HO4.out;subst eo9;have hnb10:=NB13_1.out;have hnc10:=NB1_13.out;have hnb11:=NB13_0.out;have hnc11:=NB0_13.out;obtain ⟨hcz12_0,hcz12_1,hcz12_2,hfz12_0,hfz12_1,hfz12_2⟩:=blk3 BK13.out;obtain ⟨Ao13,co13,eo13⟩:=Kd.R_slice HO7.out;subst eo13;obtain ⟨Ao14,co14,eo14⟩:=Kd.S_slice HO10.out;subst eo14)|((with_reducible refine gate_callee (f:=39) rfl ?_);refine zg (some 7) Try.func39 #[.pointer (some ⟨g,0,none⟩),.int .i64 12] rfl za4 ?_;(with_reducible refine (spec_l1Below.calls g s0_0 t11 t12 12 t14 t15 t16 w0 _ za10 za22 A3.out).mono ?_);rintro e w15 ⟨rfl,hi,hb,hk⟩;refine ⟨_,rfl,?_⟩;replace BK1:=zk (KeepBut.blk hk (g':=gb1) (o:=.cells #[.slice none 0 0,.slice none 0 0,.slice none 0 0] 31 (0,0)) (zpw BK1.out) NB1_0.out (by simp));replace HO4:=zk (Kd.S_mono (Kd.S_keep (IsS73.apartS (show IsS73 w0 _ g s0_0 t11 t12 from za10) za48 (by decide)) hk (fun _ h=>h.2)) (fun _ h=>h.1));replace HO7:=zk (Kd.R_mono (Kd.R_keep (IsS73.apart (show IsS73 w0 _ g s0_0 t11 t12 from za10) za49 (by decide)) hk (fun _ h=>h.2)) (fun _ h=>h.1));replace HO10:=zk (Kd.S_mono (Kd.S_keep (IsS73.apartS (show IsS73 w0 _ g s0_0 t11 t12 from za10) za43 (by decide)) hk (fun _ h=>h.2)) (fun _ h=>h.1));replace HK:=yK HK hk;replace HB:=zk hb;replace BK13:=zk (KeepBut.blk hk (g':=gb13) (o:=.cells #[.slice Ao9 t2.length co9,.slice Ao13 t5.length co13,.slice Ao14 t8.length co14] 31 (0,0)) (zpu BK13.out) NB13_0.out (by simp));replace HI0:=zk hi;(try clear hb hk hi);obtain ⟨hcz16_0,hcz16_1,hcz16_2,hfz16_0,hfz16_1,hfz16_2⟩:=blk3 BK13.out)|((with_reducible refine gate_builtin (b:=.append) (xs:=#[.tmp 11,.tmp 12]) rfl ?_);at_builtin;refine Kd.R_append (Kd.int .i64) w.heap.size rfl (.tmp 11) (.tmp 12) 29 3 (.int .i64 0) 8 rfl Try.underlying29 info3 rfl (by decide) (by omega) (.slice Ao13 t5.length co13) t5 0 [.int .i64 0] (fun _=>True) (fun _=>False) rfl rfl ?aP (fun _ hk=>hk.elim) ?aF ?aO (Below.refl _ _) ?aS ?aL ?_;(case aP=>exact rfl);(case aF=>exact (fun _ _=>trivial));(case aO=>exact (za1 HO7.out));(case aS=>exact (keep_size (w:=w) (g:=g) (row:=none) za20));(case aL=>have:=LMc5.out;omega);intro v18 w17 ho hb hg hat;rw [← Ny17.out] at ho;replace BK1:=zk (blk_grown (g:=gb1) (o:=.cells #[.slice none 0 0,.slice none 0 0,.slice none 0 0] 31 (0,0)) (za0 BK1.out) hg (Kd.R_ne HO7.out BK1.out (by decide)));replace HO4:=zk (Kd.S_after (ok:=(fun k_=>some k_ ≠ (.slice Ao14 t8.length co14:Value).ownBlock)) (by (with_reducible repeat (first|apply Kd.S_alloc|apply Kd.S_drewN|apply Kd.S_drew));exact Kd.S_mono HO4.out (fun _ hk=>⟨hk.2,hk.1⟩)) hg hat);replace HO10:=zk (Kd.S_after (ok:=(fun k_=>some k_ ≠ (.slice Ao9 t2.length co9:Value).ownBlock)) (za2 HO10.out) hg hat);replace BK13:=zk (blk_grown (g:=gb13) (o:=.cells #[.slice Ao9 t2.length co9,.slice Ao13 t5.length co13,.slice Ao14 t8.length co14] 31 (0,0)) (za0 BK13.out) hg (Kd.R_ne HO7.out BK13.out (by decide)));replace HB:=zk (below_weaken za22 HL.out hb);replace HK:=zk (KeepBut.trans za20 (KeepBut.of_grown hg g) (Kd.R_base2 HO7.out));have HO19:=zk ho;replace HI0:=zk (IsS73.grown za10 hg (IsS73.own_ne HI0.out HO7.out (by decide)));clear HO7;clear ho hb hg hat;obtain ⟨Ao18,co18,eo18⟩:=Kd.R_slice HO19.out;subst eo18;obtain ⟨hcz19_0,hcz19_1,hcz19_2,hfz19_0,hfz19_1,hfz19_2⟩:=blk3 BK13.out;have hnb20:=NB1_0.out;have hnc20:=NB0_1.out;obtain ⟨hcz21_0,hcz21_1,hcz21_2,hfz21_0,hfz21_1,hfz21_2⟩:=blk3 BK1.out))
  refine bodyPost_ret (results_cell_row rfl _ _ gb1 31 #[.slice Ao9 t2.length co9,.slice Ao18 y38017.length co18,.slice Ao14 t8.length co14] (0,0) _ rfl (zpw BK1.out) Try.underlying31 rfl (by kernel_rfl)) rfl ?_
  exact ⟨_,_,_,za15,by (with_reducible repeat (first|apply Kd.S_alloc|apply Kd.S_drewN|apply Kd.S_drew));exact Kd.S_mono (zfS (zfS (zfS (Kd.S_far (p:=⟨gb13,1,none⟩) (Kd.S_types (Kd.S_types HO4.out BK13.out (by decide)) BK1.out (by decide)) (fun _ hk=>hk.1.2) (.slice Ao18 y38017.length co18))))) (fun _ hk=>⟨hk.1.1.2,hk.1.1.1⟩),by (with_reducible repeat (first|apply Kd.R_alloc|apply Kd.R_drewN|apply Kd.R_drew));exact Kd.R_mono (zfR (zfR (zfR (Kd.R_far (p:=⟨gb13,1,none⟩) (Kd.R_types (Kd.R_types HO19.out BK13.out (by decide)) BK1.out (by decide)) (fun _ hk=>hk.1.2) (.slice Ao18 y38017.length co18))))) (fun _ hk=>trivial),by (with_reducible repeat (first|apply Kd.S_alloc|apply Kd.S_drewN|apply Kd.S_drew));exact Kd.S_mono (zfS (zfS (zfS (Kd.S_far (p:=⟨gb13,1,none⟩) (Kd.S_types (Kd.S_types HO10.out BK13.out (by decide)) BK1.out (by decide)) (fun _ hk=>hk.1.2) (.slice Ao18 y38017.length co18))))) (fun _ hk=>⟨hk.1.1.1,hk.1.1.2⟩),za10,za22,za20⟩
 ·rw [if_neg c5] at H
  exact absurd H (by simp)
 rw [if_neg c4] at H
 have c4b0:=zbn c4
 have c4b1:=zqt c4
 by_cases c22:t14=1
 rw [if_pos c22] at H
 have c22b0:=zbt c22
 have c22b1:=zqn c22
 clear c22
 obtain ⟨y38020,hy38020⟩:∃ y_:List Int,y_=(([0]:List Int)):=⟨_,rfl⟩
 replace H:(if t8.length < 5864062014805 then (some (t2,t5,(t8 ++ [y38020]),t15,t16)) else (none))=some (r1,r2,r3,r4,r5):=by first|(rw [hy38020];with_reducible exact H)|(have H2_:=(Option.bind_some _ _).symm.trans H;rw [hy38020];with_reducible exact H2_)|(have H2_:=(Option.bind_some _ _).symm.trans H;with_reducible exact H2_)|with_reducible exact H|(rw [hy38020];exact H)|exact H
 have Ny20:=zk hy38020
 clear hy38020
 by_cases c23:t8.length < 5864062014805
 ·rw [if_pos c23] at H
  have LMc23:=zk c23
  clear c23
  obtain ⟨y38023,hy38023⟩:∃ y_:List (List Int),y_=(t8 ++ [y38020]):=⟨_,rfl⟩
  replace H:(some (t2,t5,y38023,t15,t16))=some (r1,r2,r3,r4,r5):=by first|(rw [hy38023];with_reducible exact H)|(have H2_:=(Option.bind_some _ _).symm.trans H;rw [hy38023];with_reducible exact H2_)|(have H2_:=(Option.bind_some _ _).symm.trans H;with_reducible exact H2_)|with_reducible exact H|(rw [hy38023];exact H)|exact H
  have Ny23:=zk hy38023
  clear hy38023
  simp only [Option.some.injEq,Prod.mk.injEq] at H
  obtain ⟨rfl,rfl,rfl,rfl,rfl⟩:=H
  go_enter Try.func38,Try.ntmps38
  go_wp2_with (first|((with_reducible refine gate_dst (N:=2) rfl ?_);refine zE (cs:=#[.slice none 0 0,.slice none 0 0,.slice none 0 0]) (t:=31) ?_;intro gb1 hg w24 hbox hb;replace HB:=zk (below_step za12 hb);have BK1:=zk hbox;have GW1:=zk ((by rw [hg];exact (keep_size (w:=w) (g:=g) (row:=none) za9):w.heap.size≤gb1));have GE1:=zk ((Nat.le_trans HW0.out (by rw [hg];exact (keep_size (w:=w) (g:=g) (row:=none) za9):w.heap.size≤gb1):w0.heap.size≤gb1));have NB0_1:=zk (zm hg (IsS73.lt (show IsS73 w0 _ g s0_0 s0_1 s0_2 from za6)));have NB1_0:=zk (zM hg (IsS73.lt (show IsS73 w0 _ g s0_0 s0_1 s0_2 from za6)));replace HI0:=zk (IsS73.below za6 hb);replace HK:=yk HK hb;clear hb hbox hg)|((with_reducible refine gate_callee (f:=58) rfl ?_);refine zg (some 5) Try.func58 #[.pointer (some ⟨g,0,none⟩)] rfl za4 ?_;(with_reducible refine (spec_l13Draw.calls k g s0_0 s0_1 s0_2 t2 t5 t8 t11 t12 w0 _ za8 za17 A2.out).mono ?_);rintro e w25 ⟨v3,v6,v9,rfl,ho0,ho1,ho2,hi,hb,hk⟩;refine ⟨_,rfl,?_⟩;replace BK1:=yq hk BK1 NB1_0;have HO4:=zk (Kd.S_lower ho0 (keep_size (w:=w) (g:=g) (row:=none) za5));have HO7:=zk (Kd.R_lower ho1 (keep_size (w:=w) (g:=g) (row:=none) za5));have HO10:=zk (Kd.S_lower ho2 (keep_size (w:=w) (g:=g) (row:=none) za5));replace HB:=zk hb;replace HI0:=zk hi;replace HK:=yK HK hk;(try clear hb hk hi ho0 ho1 ho2))|((with_reducible refine gate_dst (N:=3) rfl ?_);refine zE (cs:=#[.slice none 0 0,.slice none 0 0,.slice none 0 0]) (t:=31) ?_;intro gb13 hg w26 hbox hb;replace HO4:=zk (Kd.S_below (za2 HO4.out) hb);replace HO7:=zk (Kd.R_below (za1 HO7.out) hb);replace HO10:=zk (Kd.S_below (za2 HO10.out) hb);replace HB:=zk (below_step za17 hb);have BK13:=zk hbox;have GW13:=zk ((by rw [hg];exact (keep_size (w:=w) (g:=g) (row:=none) za5):w.heap.size≤gb13));have GE13:=zk ((Nat.le_trans HW0.out (by rw [hg];exact (keep_size (w:=w) (g:=g) (row:=none) za5):w.heap.size≤gb13):w0.heap.size≤gb13));have NB1_13:=yn hg BK1;have NB13_1:=yp hg BK1;have NB0_13:=zk (zm hg (IsS73.lt (show IsS73 w0 _ g s0_0 t11 t12 from za8)));have NB13_0:=zk (zM hg (IsS73.lt (show IsS73 w0 _ g s0_0 t11 t12 from za8)));replace HI0:=zk (IsS73.below za8 hb);replace BK1:=yb BK1 hb;replace HK:=yk HK hb;clear hb hbox hg;obtain ⟨Ao27,co27,eo27⟩:=Kd.S_slice HO4.out;subst eo27;have hnb28:=NB13_1.out;have hnc28:=NB1_13.out;have hnb29:=NB13_0.out;have hnc29:=NB0_13.out;obtain ⟨hcz30_0,hcz30_1,hcz30_2,hfz30_0,hfz30_1,hfz30_2⟩:=blk3 BK13.out;obtain ⟨Ao31,co31,eo31⟩:=Kd.R_slice HO7.out;subst eo31;obtain ⟨Ao32,co32,eo32⟩:=Kd.S_slice HO10.out;subst eo32)|((with_reducible refine gate_callee (f:=39) rfl ?_);refine zg (some 7) Try.func39 #[.pointer (some ⟨g,0,none⟩),.int .i64 12] rfl za4 ?_;(with_reducible refine (spec_l1Below.calls g s0_0 t11 t12 12 t14 t15 t16 w0 _ za10 za22 A3.out).mono ?_);rintro e w33 ⟨rfl,hi,hb,hk⟩;refine ⟨_,rfl,?_⟩;replace BK1:=zk (KeepBut.blk hk (g':=gb1) (o:=.cells #[.slice none 0 0,.slice none 0 0,.slice none 0 0] 31 (0,0)) (zpw BK1.out) NB1_0.out (by simp));replace HO4:=zk (Kd.S_mono (Kd.S_keep (IsS73.apartS (show IsS73 w0 _ g s0_0 t11 t12 from za10) za48 (by decide)) hk (fun _ h=>h.2)) (fun _ h=>h.1));replace HO7:=zk (Kd.R_mono (Kd.R_keep (IsS73.apart (show IsS73 w0 _ g s0_0 t11 t12 from za10) za49 (by decide)) hk (fun _ h=>h.2)) (fun _ h=>h.1));replace HO10:=zk (Kd.S_mono (Kd.S_keep (IsS73.apartS (show IsS73 w0 _ g s0_0 t11 t12 from za10) za43 (by decide)) hk (fun _ h=>h.2)) (fun _ h=>h.1));replace HK:=yK HK hk;replace HB:=zk hb;replace BK13:=zk (KeepBut.blk hk (g':=gb13) (o:=.cells #[.slice Ao27 t2.length co27,.slice Ao31 t5.length co31,.slice Ao32 t8.length co32] 31 (0,0)) (zpu BK13.out) NB13_0.out (by simp));replace HI0:=zk hi;(try clear hb hk hi);obtain ⟨hcz34_0,hcz34_1,hcz34_2,hfz34_0,hfz34_1,hfz34_2⟩:=blk3 BK13.out)|((with_reducible refine gate_dst (N:=19) rfl ?_);refine Kd.R_lit (Kd.int .i64) _ 3 ?hg (N:=19) ?hd (xs:=([0]:List Int)) (inner:=[.int .i64 0]) (ok:=fun _=>True) (okp:=fun _=>True) ?hr ?hp (fun _ hk=>hk) trivial (Below.refl _ _) (Nat.le_refl _) (by simp) ?_;(case hd=>rfl);(case hg=>rfl);(case hr=>first|(go_simp;done)|(go_simp;rfl));(case hp=>exact (Reps.one (show Kd.M (Kd.int .i64) _ _ _ 0 [.int .i64 0] from rfl) (Reps.none _ _)));intro v21 w35 ho36 hb hg_ hnew_;clear hg_ hnew_;(first|rw [← Ny20.out] at ho36|(simp only [Int.reduceToNat] at ho36;rw [← Ny20.out] at ho36));replace HO4:=zk (Kd.S_elder' (za2 HO4.out) (Kd.R_base ho36) hb);replace HO10:=zk (Kd.S_elder' (za2 HO10.out) (Kd.R_base ho36) hb);have HO22:=zk (Kd.R_lower (Kd.R_new' ho36 (Kd.R_lt (za1 HO7.out))) (keep_size (w:=w) (g:=g) (row:=none) za20));replace BK1:=yb BK1 hb;replace BK13:=yb BK13 hb;replace HB:=zk (below_step za22 hb);replace HO7:=zk (Kd.R_elder' (za1 HO7.out) (Kd.R_base ho36) hb);replace HI0:=zk (IsS73.below za10 hb);replace HK:=yk HK hb;clear hb ho36;obtain ⟨Ao38,co38,eo38⟩:=Kd.R_slice HO22.out;subst eo38)|((with_reducible refine gate_builtin (b:=.append) (xs:=#[.tmp 18,.tmp 20]) rfl ?_);at_builtin;refine Kd.S_append (Kd.slice 3 (Kd.int .i64)) w.heap.size rfl (.tmp 18) (.tmp 20) 25 29 (.slice none 0 0) 24 rfl Try.underlying25 info29 rfl (by decide) (by omega) (.slice Ao32 t8.length co32) t8 y38020 [.slice Ao38 y38020.length co38] (fun k_=>some k_ ≠ (.slice Ao27 t2.length co27:Value).ownBlock∧some k_ ≠ (.slice Ao31 t5.length co31:Value).ownBlock) (fun k_=>some k_=(.slice Ao38 y38020.length co38:Value).ownBlock) rfl rfl ?aP (fun k_ hk_=>((Kd.R_mono (ok':=fun k_=>((fun k_=>some k_ ≠ (.slice Ao27 t2.length co27:Value).ownBlock∧some k_ ≠ (.slice Ao31 t5.length co31:Value).ownBlock)) k_∧some k_ ≠ (.slice Ao32 t8.length co32:Value).ownBlock) (Kd.R_apart' (Kd.R_apart' (HO22.out) (Kd.S_typed HO4.out) (by decide)) (Kd.S_typed HO10.out) (by decide)) (fun k_ hk=>⟨⟨hk.1.2,hk.1.1.2⟩,hk.2⟩))).1 k_ hk_.symm) ?aF ?aO (Below.refl _ _) ?aS ?aL ?_;(case aP=>exact Kd.M_row (Kd.R_mono (Kd.R_tight rfl (Kd.R_mono (ok':=fun k_=>((fun k_=>some k_ ≠ (.slice Ao27 t2.length co27:Value).ownBlock∧some k_ ≠ (.slice Ao31 t5.length co31:Value).ownBlock)) k_∧some k_ ≠ (.slice Ao32 t8.length co32:Value).ownBlock) (Kd.R_apart' (Kd.R_apart' (HO22.out) (Kd.S_typed HO4.out) (by decide)) (Kd.S_typed HO10.out) (by decide)) (fun k_ hk=>⟨⟨hk.1.2,hk.1.1.2⟩,hk.2⟩))) (fun _ h_=>h_)));(case aF=>exact (fun k_ hk=>⟨Kd.fresh' (Kd.S_lt (za2 HO4.out)) k_ hk,Kd.fresh' (Kd.R_lt (za1 HO7.out)) k_ hk⟩));(case aO=>exact (by (with_reducible repeat (first|apply Kd.S_alloc|apply Kd.S_drewN|apply Kd.S_drew));exact Kd.S_mono HO10.out (fun k_ hk=>⟨⟨hk.1.1,hk.1.2⟩,fun e_=>hk.2 e_⟩)));(case aS=>exact (keep_size (w:=w) (g:=g) (row:=none) za20));(case aL=>have:=LMc23.out;omega);intro v24 w37 ho hb hg hat;rw [← Ny23.out] at ho;replace BK1:=zk (blk_grown (g:=gb1) (o:=.cells #[.slice none 0 0,.slice none 0 0,.slice none 0 0] 31 (0,0)) (za0 BK1.out) hg (Kd.S_ne HO10.out BK1.out (by decide)));replace HO4:=zk (Kd.S_after (ok:=(fun k_=>some k_ ≠ (.slice Ao31 t5.length co31:Value).ownBlock∧some k_ ≠ (.slice Ao38 y38020.length co38:Value).ownBlock)) (by (with_reducible repeat (first|apply Kd.S_alloc|apply Kd.S_drewN|apply Kd.S_drew));exact Kd.S_mono HO4.out (fun _ hk=>⟨⟨hk.1.1,hk.2⟩,hk.1.2⟩)) hg hat);replace HO7:=zk (Kd.R_over' (za1 HO7.out) (Kd.S_typed (za2 HO10.out)) (by decide) hg);replace BK13:=zk (blk_grown (g:=gb13) (o:=.cells #[.slice Ao27 t2.length co27,.slice Ao31 t5.length co31,.slice Ao32 t8.length co32] 31 (0,0)) (za0 BK13.out) hg (Kd.S_ne HO10.out BK13.out (by decide)));replace HB:=zk (below_weaken za22 HL.out hb);replace HK:=zk (KeepBut.trans za20 (KeepBut.of_grown hg g) (Kd.S_base2 HO10.out));have HO25:=zk ho;replace HI0:=zk (IsS73.grown za10 hg (IsS73.own_neS HI0.out HO10.out (by decide)));clear HO10;clear HO22;clear ho hb hg hat;obtain ⟨Ao39,co39,eo39⟩:=Kd.S_slice HO25.out;subst eo39;obtain ⟨hcz40_0,hcz40_1,hcz40_2,hfz40_0,hfz40_1,hfz40_2⟩:=blk3 BK13.out;have hnb41:=NB1_0.out;have hnc41:=NB0_1.out;obtain ⟨hcz42_0,hcz42_1,hcz42_2,hfz42_0,hfz42_1,hfz42_2⟩:=blk3 BK1.out))
  refine bodyPost_ret (results_cell_row rfl _ _ gb1 31 #[.slice Ao27 t2.length co27,.slice Ao31 t5.length co31,.slice Ao39 y38023.length co39] (0,0) _ rfl (zpw BK1.out) Try.underlying31 rfl (by kernel_rfl)) rfl ?_
  exact ⟨_,_,_,za15,by (with_reducible repeat (first|apply Kd.S_alloc|apply Kd.S_drewN|apply Kd.S_drew));exact Kd.S_mono (zfS (zfS (zfS (Kd.S_far (p:=⟨gb13,2,none⟩) (Kd.S_types (Kd.S_types HO4.out BK13.out (by decide)) BK1.out (by decide)) (fun _ hk=>hk.1.2) (.slice Ao39 y38023.length co39))))) (fun _ hk=>⟨hk.1.1.1.1,hk.1.1.2⟩),by (with_reducible repeat (first|apply Kd.R_alloc|apply Kd.R_drewN|apply Kd.R_drew));exact Kd.R_mono (zfR (zfR (zfR (Kd.R_far (p:=⟨gb13,2,none⟩) (Kd.R_types (Kd.R_types HO7.out BK13.out (by decide)) BK1.out (by decide)) (fun _ hk=>hk.1.2) (.slice Ao39 y38023.length co39))))) (fun _ hk=>trivial),by (with_reducible repeat (first|apply Kd.S_alloc|apply Kd.S_drewN|apply Kd.S_drew));exact Kd.S_mono (zfS (zfS (zfS (Kd.S_far (p:=⟨gb13,2,none⟩) (Kd.S_types (Kd.S_types HO25.out BK13.out (by decide)) BK1.out (by decide)) (fun _ hk=>hk.1.2) (.slice Ao39 y38023.length co39))))) (fun _ hk=>⟨hk.1.1.1,hk.1.1.2⟩),za10,za22,za20⟩
 ·rw [if_neg c23] at H
  exact absurd H (by simp)
 rw [if_neg c22] at H
 have c22b0:=zbn c22
 have c22b1:=zqt c22
 by_cases c43:t14=2
 rw [if_pos c43] at H
 have c43b0:=zbt c43
 have c43b1:=zqn c43
 clear c43
 by_cases c44:0 < (t8.length:Int)
 rw [if_pos c44] at H
 have c44b0:=zdl c44
 have c44b1:decide (0 < t8.length)=true:=decide_eq_true (by omega)
 clear c44
 obtain ⟨y38027,hy38027⟩:∃ y_:List Int,y_=(([(-1),99,0]:List Int)):=⟨_,rfl⟩
 replace H:((spec_l1PickInt.f s0_0 t15 t16 y38027).bind fun bt30=>(if 0 < ((rd_L3 t8 0).length:Int) then (some (t2,t5,(t8.set (0:Int).toNat ((rd_L3 t8 0).set (0:Int).toNat bt30.1)),bt30.2.1,bt30.2.2)) else (none)))=some (r1,r2,r3,r4,r5):=by first|(rw [hy38027];with_reducible exact H)|(have H2_:=(Option.bind_some _ _).symm.trans H;rw [hy38027];with_reducible exact H2_)|(have H2_:=(Option.bind_some _ _).symm.trans H;with_reducible exact H2_)|with_reducible exact H|(rw [hy38027];exact H)|exact H
 have Ny27:=zk hy38027
 clear hy38027
 obtain ⟨⟨t30,t31,t32⟩,A45,H⟩:=zO H
 try dsimp only at H
 by_cases c46:0 < ((rd_L3 t8 0).length:Int)
 ·rw [if_pos c46] at H
  have c46b0:=zdl c46
  have c46b1:decide (0 < (rd_L3 t8 0).length)=true:=decide_eq_true (by omega)
  clear c46
  obtain ⟨y38033,hy38033⟩:∃ y_:List Int,y_=((rd_L3 t8 0).set (0:Int).toNat t30):=⟨_,rfl⟩
  replace H:(some (t2,t5,(t8.set (0:Int).toNat y38033),t31,t32))=some (r1,r2,r3,r4,r5):=by first|(rw [hy38033];with_reducible exact H)|(have H2_:=(Option.bind_some _ _).symm.trans H;rw [hy38033];with_reducible exact H2_)|(have H2_:=(Option.bind_some _ _).symm.trans H;with_reducible exact H2_)|with_reducible exact H|(rw [hy38033];exact H)|exact H
  have Ny33:=zk hy38033
  clear hy38033
  obtain ⟨y38035,hy38035⟩:∃ y_:List (List Int),y_=(t8.set (0:Int).toNat y38033):=⟨_,rfl⟩
  replace H:(some (t2,t5,y38035,t31,t32))=some (r1,r2,r3,r4,r5):=by first|(rw [hy38035];with_reducible exact H)|(have H2_:=(Option.bind_some _ _).symm.trans H;rw [hy38035];with_reducible exact H2_)|(have H2_:=(Option.bind_some _ _).symm.trans H;with_reducible exact H2_)|with_reducible exact H|(rw [hy38035];exact H)|exact H
  have Ny35:=zk hy38035
  clear hy38035
  simp only [Option.some.injEq,Prod.mk.injEq] at H
  obtain ⟨rfl,rfl,rfl,rfl,rfl⟩:=H
  go_enter Try.func38,Try.ntmps38
  try go_wp2_with (first|((with_reducible refine gate_dst (N:=2) rfl ?_);refine zE (cs:=#[.slice none 0 0,.slice none 0 0,.slice none 0 0]) (t:=31) ?_;intro gb1 hg w48 hbox hb;replace HB:=zk (below_step za12 hb);have BK1:=zk hbox;have GW1:=zk ((by rw [hg];exact (keep_size (w:=w) (g:=g) (row:=none) za9):w.heap.size≤gb1));have GE1:=zk ((Nat.le_trans HW0.out (by rw [hg];exact (keep_size (w:=w) (g:=g) (row:=none) za9):w.heap.size≤gb1):w0.heap.size≤gb1));have NB0_1:=zk (zm hg (IsS73.lt (show IsS73 w0 _ g s0_0 s0_1 s0_2 from za6)));have NB1_0:=zk (zM hg (IsS73.lt (show IsS73 w0 _ g s0_0 s0_1 s0_2 from za6)));replace HI0:=zk (IsS73.below za6 hb);replace HK:=yk HK hb;clear hb hbox hg)|((with_reducible refine gate_callee (f:=58) rfl ?_);refine zg (some 5) Try.func58 #[.pointer (some ⟨g,0,none⟩)] rfl za4 ?_;(with_reducible refine (spec_l13Draw.apart k g s0_0 s0_1 s0_2 t2 t5 t8 t11 t12 w0 _ za8 za17 A2.out).mono ?_);rintro e w49 ⟨T_,v3,v6,v9,rfl,ho0,ho1,ho2,hi,hb,hk⟩;refine ⟨_,rfl,?_⟩;replace BK1:=yq hk BK1 NB1_0;have HO4:=zk (Kd.S_lower ho0 (keep_size (w:=w) (g:=g) (row:=none) za5));have HO7:=zk (Kd.R_lower ho1 (keep_size (w:=w) (g:=g) (row:=none) za5));have HO10:=zk (Kd.S_lower ho2 (keep_size (w:=w) (g:=g) (row:=none) za5));replace HB:=zk hb;replace HI0:=zk hi;replace HK:=yK HK hk;(try clear hb hk hi ho0 ho1 ho2))|((with_reducible refine gate_dst (N:=3) rfl ?_);refine zE (cs:=#[.slice none 0 0,.slice none 0 0,.slice none 0 0]) (t:=31) ?_;intro gb13 hg w50 hbox hb;replace HO4:=zk (Kd.S_below (za2 HO4.out) hb);replace HO7:=zk (Kd.R_below (za1 HO7.out) hb);replace HO10:=zk (Kd.S_below (za2 HO10.out) hb);replace HB:=zk (below_step za17 hb);have BK13:=zk hbox;have GW13:=zk ((by rw [hg];exact (keep_size (w:=w) (g:=g) (row:=none) za5):w.heap.size≤gb13));have GE13:=zk ((Nat.le_trans HW0.out (by rw [hg];exact (keep_size (w:=w) (g:=g) (row:=none) za5):w.heap.size≤gb13):w0.heap.size≤gb13));have NB1_13:=yn hg BK1;have NB13_1:=yp hg BK1;have NB0_13:=zk (zm hg (IsS73.lt (show IsS73 w0 _ g s0_0 t11 t12 from za8)));have NB13_0:=zk (zM hg (IsS73.lt (show IsS73 w0 _ g s0_0 t11 t12 from za8)));replace HI0:=zk (IsS73.below za8 hb);replace BK1:=yb BK1 hb;replace HK:=yk HK hb;clear hb hbox hg;obtain ⟨Ao51,co51,eo51⟩:=Kd.S_slice HO4.out;subst eo51;have hnb52:=NB13_1.out;have hnc52:=NB1_13.out;have hnb53:=NB13_0.out;have hnc53:=NB0_13.out;obtain ⟨hcz54_0,hcz54_1,hcz54_2,hfz54_0,hfz54_1,hfz54_2⟩:=blk3 BK13.out;obtain ⟨Ao55,co55,eo55⟩:=Kd.R_slice HO7.out;subst eo55;obtain ⟨Ao56,co56,eo56⟩:=Kd.S_slice HO10.out;subst eo56)|((with_reducible refine gate_callee (f:=39) rfl ?_);refine zg (some 7) Try.func39 #[.pointer (some ⟨g,0,none⟩),.int .i64 12] rfl za4 ?_;(with_reducible refine (spec_l1Below.calls g s0_0 t11 t12 12 t14 t15 t16 w0 _ za10 za22 A3.out).mono ?_);rintro e w57 ⟨rfl,hi,hb,hk⟩;refine ⟨_,rfl,?_⟩;replace BK1:=zk (KeepBut.blk hk (g':=gb1) (o:=.cells #[.slice none 0 0,.slice none 0 0,.slice none 0 0] 31 (0,0)) (zpw BK1.out) NB1_0.out (by simp));replace HO4:=zk (Kd.S_mono (Kd.S_keep (IsS73.apartS (show IsS73 w0 _ g s0_0 t11 t12 from za10) za48 (by decide)) hk (fun _ h=>h.2)) (fun _ h=>h.1));replace HO7:=zk (Kd.R_mono (Kd.R_keep (IsS73.apart (show IsS73 w0 _ g s0_0 t11 t12 from za10) za49 (by decide)) hk (fun _ h=>h.2)) (fun _ h=>h.1));replace HO10:=zk (Kd.S_mono (Kd.S_keep (IsS73.apartS (show IsS73 w0 _ g s0_0 t11 t12 from za10) za43 (by decide)) hk (fun _ h=>h.2)) (fun _ h=>h.1));replace HK:=yK HK hk;replace HB:=zk hb;replace BK13:=zk (KeepBut.blk hk (g':=gb13) (o:=.cells #[.slice Ao51 t2.length co51,.slice Ao55 t5.length co55,.slice Ao56 t8.length co56] 31 (0,0)) (zpu BK13.out) NB13_0.out (by simp));replace HI0:=zk hi;(try clear hb hk hi)))
  replace HO4:=zk (Kd.S_drew HO4.out)
  replace HO7:=zk (Kd.R_drew HO7.out)
  replace HO10:=zk (Kd.S_drew HO10.out)
  replace BK1:=zk (blk_drew BK1.out)
  replace BK13:=zk (blk_drew BK13.out)
  replace HI0:=zk (IsS73.drew HI0.out)
  replace HK:=zk (keep_drew HK.out)
  replace HB:=zk (below_drew1 HB.out)
  have p38026:0≤(0:Int):=(by omega)
  have q38026:0 < (t8.length:Int):=of_decide_eq_true za7
  obtain ⟨ad38026,A38026_0,c38026_0,e38026,hx38026_0,hl38026_0,hi38026_0⟩:=at_L3 (Kd.S_reads' HO10.out).2.2 0 p38026 q38026
  cases e38026
  obtain ⟨ce38026,hce38026,hMe38026,hcc38026⟩:=Kd.S_get HO10.out [] 0 p38026 (by first|exact q38026|exact of_decide_eq_true za7|(have e_:=(Kd.S_reads' HO10.out).1;omega))
  obtain ⟨ve38026_0,rfl,ge38026_0⟩:=hMe38026
  have hv38026_0:=hcc38026 0 _ rfl
  rw [Nat.add_zero,show ((Kd.slice 3 (Kd.int .i64))).sz=1 from rfl,Nat.mul_one] at hv38026_0
  replace hv38026_0:=zi (hv38026_0.symm.trans hx38026_0)
  rw [hv38026_0] at ge38026_0
  have HL38026_0:=zk (show Kd.R (Kd.int .i64) 3 _ _ _ _ (rd_L3 t8 0) from ge38026_0)
  clear hv38026_0 ge38026_0
  have HX38026_0:=zk hx38026_0
  clear hcc38026 hce38026
  have qi38026:(0 < t8.length)=True:=eq_true (by omega)
  (try rw [show ((0:Int)).toNat=0 from rfl] at hx38026_0)
  (try rw [Addr.add_zero'] at hx38026_0)
  have HR38026_0:=zk hi38026_0
  have HC38026_0:=zk hl38026_0
  clear hi38026_0 hl38026_0
  replace p38026:=eq_true p38026
  replace q38026:=eq_true q38026
  refine start_ (n:=9) (S:=fun w'=>w'.cell? ⟨gb13,0,none⟩=some (.slice Ao51 t2.length co51)∧w'.cell? ⟨gb13,1,none⟩=some (.slice Ao55 t5.length co55)∧w'.cell? ⟨gb13,2,none⟩=some (.slice (some ad38026) t8.length co56)∧w'.cell? ad38026=some (.slice A38026_0 (rd_L3 t8 0).length c38026_0)) (ds:=[8]) #[false,false,false,false,false,false,false,false,false] (by kernel_rfl) rfl rfl ⟨(blk_cell BK13.out 0).trans rfl,(blk_cell BK13.out 1).trans rfl,(blk_cell BK13.out 2).trans rfl,hx38026_0⟩ (fun hHeld=>?_);refine with_tabW spec_l13Bent.tab8 spec_l13Bent.bits8 (fun HT_ HW_=>?_)
  generalize w57.drew=w58 at HO4 HO7 HO10 BK1 BK13 HI0 HK HB HL38026_0 HR38026_0 HX38026_0 hx38026_0 hHeld ⊢
  refine zy 0 (some 25) HT_.out ?_
  refine zy 4 (some 29) HT_.out ?_
  refine ztk 1 (some 26) HT_.out HW_.out hHeld ?_
  refine zy 2 (some 27) HT_.out ?_
  refine ztk 3 (some 28) HT_.out HW_.out hHeld ?_
  refine zon 5 (some 30) HT_.out (fun K hK=>?_)
  refine Kd.R_lit_step (Kd.int .i64) _ 3 ?hg (N:=30) ?hd (xs:=([(-1),99,0]:List Int)) (inner:=[.int .i64 (-1),.int .i64 99,.int .i64 0]) (ok:=fun _=>True) (okp:=fun _=>True) ?hr ?hp (fun _ hk=>hk) trivial (Below.refl _ _) (Nat.le_refl _) (by simp) ?_;(case hd=>rfl);(case hg=>rfl);(case hr=>first|(go_simp;done)|(go_simp;rfl));(case hp=>exact (Reps.one (show Kd.M (Kd.int .i64) _ _ _ (-1) [.int .i64 (-1)] from rfl) (Reps.one (show Kd.M (Kd.int .i64) _ _ _ 99 [.int .i64 99] from rfl) (Reps.one (show Kd.M (Kd.int .i64) _ _ _ 0 [.int .i64 0] from rfl) (Reps.none _ _)))))
  intro v28 w59 ho60 hb hg_ hnew_
  have HS3_:=(hb.cell (World.block_lt_of_cell? _ _ (hHeld.2.2.2))).trans (hHeld.2.2.2)
  clear hg_ hnew_
  (first|rw [← Ny27.out] at ho60|(simp only [Int.reduceToNat] at ho60;rw [← Ny27.out] at ho60))
  replace HO4:=zk (Kd.S_elder' (za2 HO4.out) (Kd.R_base ho60) hb)
  replace HO10:=zk (Kd.S_elder' (za2 HO10.out) (Kd.R_base ho60) hb)
  have HO29:=zk (Kd.R_lower (Kd.R_new' (Kd.R_new' ho60 (Kd.R_lt (za1 HO7.out))) (Kd.R_lt (za1 HL38026_0.out))) (keep_size (w:=w) (g:=g) (row:=none) za20))
  replace BK1:=yb BK1 hb
  replace BK13:=yb BK13 hb
  replace HR38026_0:=zk (Kd.C_below (by repeat (first|(with_reducible exact HR38026_0.out)|(with_reducible refine Kd.C_alloc ?_ _)|(with_reducible refine Kd.C_drewN ?_ _)|(with_reducible refine Kd.C_drew ?_)|exact HR38026_0.out)) hb)
  replace HX38026_0:=zk (pw_cell_below hb HX38026_0.out)
  replace HB:=zk (below_step za22 hb)
  replace HO7:=zk (Kd.R_elder' (za1 HO7.out) (Kd.R_base ho60) hb)
  replace HL38026_0:=zk (Kd.R_elder' (za1 HL38026_0.out) (Kd.R_base ho60) hb)
  replace HI0:=zk (IsS73.below za10 hb)
  replace HK:=yk HK hb
  clear hb ho60
  obtain ⟨Ao61,co61,eo61⟩:=Kd.R_slice HO29.out
  (first|subst eo61|(injection eo61 with f1_ f2_ f3_;have f4_:=f1_.symm;have f5_:=f3_.symm;clear f1_ f2_ f3_;subst f4_;subst f5_))
  refine hK.out _ _ ⟨(blk_cell BK13.out 0).trans rfl,(blk_cell BK13.out 1).trans rfl,(blk_cell BK13.out 2).trans rfl,HS3_⟩ (fun hHeld=>?_)
  clear hK K
  refine zno (some 30) ?_
  refine zon 6 (some 31) HT_.out (fun K hK=>?_)
  refine goes_ Try.func59 (by kernel_rfl) rfl #[.pointer (some ⟨g,0,none⟩),.slice Ao61 y38027.length co61] (by rfl) rfl rfl za4 ?_
  with_reducible refine (spec_l1PickInt.calls g s0_0 t15 t16 _ _ y38027 t30 t31 t32 w0 _ za10 za22 ?side3 ?side4 ?side5 A45.out).mono ?_
  (case side3=>repeat (first|exact (Kd.R_reads' HO29.out).2.2|(with_reducible refine Kd.C_alloc ?_ _)|(with_reducible refine Kd.C_drewN ?_ _)|(with_reducible refine Kd.C_drew ?_)))
  (case side4=>exact (Kd.R_reads' HO29.out).2.1)
  (case side5=>exact far_slice (IsS73.own_ne HI0.out HO29.out (by decide)))
  rintro e w62 ⟨rfl,hi,hb,hk⟩
  have HS3_:=keep_cell hk (hHeld.2.2.2) (by first|(rw [add_block];exact Kd.own_blk (IsS73.own_neS HI0.out HO10.out (by decide)))|(show (Addr.add _ _).block ≠ _;rw [add_block];exact Kd.own_blk (IsS73.own_neS HI0.out HO10.out (by decide)))|exact Kd.own_blk (IsS73.own_neS HI0.out HO10.out (by decide)))
  refine ⟨_,rfl,?_⟩
  replace BK1:=yq hk BK1 NB1_0
  replace HO4:=zk (Kd.S_mono (Kd.S_keep (IsS73.apartS (show IsS73 w0 _ g s0_0 t15 t16 from za10) (za2 HO4.out) (by decide)) hk (fun _ h=>h.2)) (fun _ h=>h.1))
  replace HO7:=zk (Kd.R_mono (Kd.R_keep (IsS73.apart (show IsS73 w0 _ g s0_0 t15 t16 from za10) (za1 HO7.out) (by decide)) hk (fun _ h=>h.2)) (fun _ h=>h.1))
  replace BK13:=yq hk BK13 NB13_0
  replace HL38026_0:=zk (Kd.R_mono (Kd.R_keep (IsS73.apart (show IsS73 w0 _ g s0_0 t15 t16 from za10) (za1 HL38026_0.out) (by decide)) hk (fun _ h=>h.2)) (fun _ h=>h.1))
  replace HX38026_0:=zk (keep_cell hk HX38026_0.out (by first|(rw [add_block];exact Kd.own_blk (IsS73.own_neS HI0.out HO10.out (by decide)))|(show (Addr.add _ _).block ≠ _;rw [add_block];exact Kd.own_blk (IsS73.own_neS HI0.out HO10.out (by decide)))|exact Kd.own_blk (IsS73.own_neS HI0.out HO10.out (by decide))|(dsimp only;exact Kd.own_blk (IsS73.own_neS HI0.out HO10.out (by decide)))))
  replace HO29:=zk (Kd.R_mono (Kd.R_keep (IsS73.apart (show IsS73 w0 _ g s0_0 t15 t16 from za10) (za1 HO29.out) (by decide)) hk (fun _ h=>h.2)) (fun _ h=>h.1))
  replace HK:=yK HK hk
  replace HB:=zk hb
  replace HO10:=zk (Kd.S_mono (Kd.S_keep (IsS73.apartS (show IsS73 w0 _ g s0_0 t15 t16 from za10) (za2 HO10.out) (by decide)) hk (fun _ h=>h.2)) (fun _ h=>h.1))
  replace HI0:=zk hi
  (try clear hb)
  (try clear hb2)
  (try clear hk)
  (try clear hi)
  have p47:0≤(0:Int):=(by omega)
  have q47:(0:Int) < (((rd_L3 t8 0).length:Int):Int):=of_decide_eq_true za7
  have qi47:(0 < (rd_L3 t8 0).length)=True:=eq_true (by omega)
  obtain ⟨go47,co47,eo47,gb47,gl47,cl47,HG47⟩:=Kd.R_form HL38026_0.out (by omega)
  (first|cases eo47|(injection eo47 with ea_ en_ ec_;(first|subst ea_|(injection ea_ with ea_;subst ea_));subst ec_;clear en_))
  have HTX:=zk (show T_≤go47 from by have h_:=(HL38026_0.out).1 go47 rfl;first|exact h_.2|exact h_.1.2|exact h_.1.1.2|exact h_.1.1.1.2|exact h_.2.2|exact h_.1.2.2)
  have GB47:=zk gb47
  have GG47:=zk HG47
  clear gb47 gl47 HG47
  obtain ⟨hx47_0,hf47_0⟩:=Kd.R_celln 0 HL38026_0.out (0:Int) p47 q47
  (try rw [show ((0:Int)).toNat=0 from rfl] at hx47_0)
  (try simp only [Nat.reduceMul,Nat.zero_mul,Nat.zero_add,Nat.reduceAdd] at hx47_0)
  (try rw [show ((0:Int)).toNat=0 from rfl] at hf47_0)
  (try simp only [Nat.reduceMul,Nat.zero_mul,Nat.zero_add,Nat.reduceAdd] at hf47_0)
  replace p47:=eq_true p47
  replace q47:=eq_true q47
  have n_:=zk (Kd.S_mono (ok':=(fun k_=>some k_ ≠ (.slice Ao51 t2.length co51:Value).ownBlock∧some k_ ≠ (.slice Ao55 t5.length co55:Value).ownBlock∧some k_ ≠ (.slice Ao61 y38027.length co61:Value).ownBlock)) HO10.out (fun k_ hk=>⟨hk.1.1.1,⟨hk.1.1.2,hk.2⟩⟩))
  clear HO10
  have HO10:=n_
  clear n_
  have hq63:(0:Int) < (t8.length:Int):=(by have h_:(0:Int) < ((t8.length:Int):Int):=of_decide_eq_true za7;first|exact h_|(have e_:=(Kd.S_reads' HO10.out).1;omega)|simpa only [List.length_set,List.length_set] using h_)
  obtain ⟨oki63,ce63,hcl63,hM63,hcc63,hok63,hbk63⟩:=Kd.S_borrow HO10.out [] (0:Int) (by omega) hq63
  obtain ⟨ve63_0,rfl,ge63_0⟩:=hM63
  have hv63:=hcc63 0 _ rfl
  rw [Nat.add_zero,show ((Kd.slice 3 (Kd.int .i64))).sz=1 from rfl,Nat.mul_one] at hv63
  replace hv63:=zi (hv63.symm.trans HX38026_0.out)
  subst hv63
  clear hcc63 hcl63
  replace ge63_0:=(show Kd.R (Kd.int .i64) 3 _ _ _ _ (rd_L3 t8 0) from ge63_0)
  have HP63:=Kd.R_putg ge63_0 (0:Int) t30
  have HN0_go47:=zk (show g ≠ go47 from by have h_:=IsS73.own_ne HI0.out HL38026_0.out (by decide);intro e_;exact h_ (by rw [e_];rfl))
  rw [← Ny33.out] at HP63
  have HS63:=hbk63 HP63.2 (fun k_ e_=>by injection e_ with e_;subst e_;exact ge63_0.1 _ rfl) (x':=y38033) (Kd.M_row HP63.1)
  rw [← Ny35.out] at HS63
  have HQ63:=zk HS63
  clear HP63 HS63 hbk63 hok63
  refine hK.out _ _ ⟨(blk_cell BK13.out 0).trans rfl,(blk_cell BK13.out 1).trans rfl,(blk_cell BK13.out 2).trans rfl,HS3_⟩ (fun hHeld=>?_)
  clear hK K
  refine zno (some 31) ?_
  refine zy 7 (some 32) HT_.out ?_
  refine last_ (i:=8) (N:=none) #[true,true,true,true,true,true,true,true,true] rfl rfl (one_of HT_.out (by kernel_rfl)) (by decide) (fun K hK=>?_)
  refine skip_ (w1:=?_) (by rfl) rfl ?_ ?_
  rotate_left
  ·go_simp
   rfl
  refine hK.out _ _ ?_
  clear hK K
  refine done_ (done_of HT_.out (by kernel_rfl)) ?_
  have n0_:Aside0 (Kd.S (Kd.slice 3 (Kd.int .i64)) 29 (w62.setCell ⟨go47,0,none⟩ (.int .i64 t30)) w.heap.size (fun k_=>some k_ ≠ (.slice Ao55 t5.length co55:Value).ownBlock∧some k_ ≠ (.slice (some ad38026) t8.length co56:Value).ownBlock∧some k_ ≠ (.slice Ao61 y38027.length co61:Value).ownBlock) (.slice Ao51 t2.length co51) t2):=⟨by (with_reducible repeat (first|apply Kd.S_alloc|apply Kd.S_drewN|apply Kd.S_drew));exact Kd.S_mono (zfS (Kd.S_mono HO4.out (fun k_ hk=>(⟨⟨hk.1.1,hk.2⟩,Nat.ne_of_lt (Nat.lt_of_lt_of_le hk.1.2 HTX.out)⟩:((some k_ ≠ (.slice Ao55 t5.length co55:Value).ownBlock∧some k_ ≠ (.slice (some ad38026) t8.length co56:Value).ownBlock)∧some k_ ≠ (.slice Ao61 y38027.length co61:Value).ownBlock)∧k_ ≠ go47)))) (fun _ hk=>⟨hk.1.1.1,⟨hk.1.1.2,hk.1.2⟩⟩)⟩
  have n1_:Aside0 (Kd.R (Kd.int .i64) 3 (w62.setCell ⟨go47,0,none⟩ (.int .i64 t30)) w.heap.size (fun k_=>some k_ ≠ (.slice Ao61 y38027.length co61:Value).ownBlock) (.slice Ao55 t5.length co55) t5):=⟨by (with_reducible repeat (first|apply Kd.R_alloc|apply Kd.R_drewN|apply Kd.R_drew));exact Kd.R_mono (zfR (Kd.R_far1 HO7.out rfl ((HL38026_0.out.1 _ rfl).1.1.1.2))) (fun _ hk=>hk.1.2)⟩
  have n2_:Aside0 (Kd.S (Kd.slice 3 (Kd.int .i64)) 29 (w62.setCell ⟨go47,0,none⟩ (.int .i64 t30)) w.heap.size (fun k_=>some k_ ≠ (.slice Ao51 t2.length co51:Value).ownBlock∧some k_ ≠ (.slice Ao55 t5.length co55:Value).ownBlock∧some k_ ≠ (.slice Ao61 y38027.length co61:Value).ownBlock) (.slice (some ad38026) t8.length co56) y38035):=⟨za2 HQ63.out⟩
  have n3_:Aside0 (Kd.R (Kd.int .i64) 3 (w62.setCell ⟨go47,0,none⟩ (.int .i64 t30)) w.heap.size (fun k_=>some k_ ≠ (.slice Ao55 t5.length co55:Value).ownBlock) (.slice Ao61 y38027.length co61) y38027):=⟨by (with_reducible repeat (first|apply Kd.R_alloc|apply Kd.R_drewN|apply Kd.R_drew));exact Kd.R_mono (zfR (Kd.R_far1 HO29.out rfl ((HL38026_0.out.1 _ rfl).2))) (fun _ hk=>hk.1.1.2)⟩
  have n4_:Aside0 ((w62.setCell ⟨go47,0,none⟩ (.int .i64 t30)).heap[gb1]? = some (.cells #[.slice none 0 0,.slice none 0 0,.slice none 0 0] 31 (0,0))):=⟨by (with_reducible repeat (first|refine blk_drewN ?_ _|refine blk_drew ?_|refine blk_alloc ?_ _));refine blk_far ?_ (by have h_:=Kd.R_ne HL38026_0.out BK1.out (by decide);intro e_;exact h_ (by rw [e_];rfl)) _;(with_reducible repeat (first|refine blk_drewN ?_ _|refine blk_drew ?_|refine blk_alloc ?_ _));exact BK1.out⟩
  have n5_:Aside0 ((w62.setCell ⟨go47,0,none⟩ (.int .i64 t30)).heap[gb13]? = some (.cells #[.slice Ao51 t2.length co51,.slice Ao55 t5.length co55,.slice (some ad38026) t8.length co56] 31 (0,0))):=⟨by (with_reducible repeat (first|refine blk_drewN ?_ _|refine blk_drew ?_|refine blk_alloc ?_ _));refine blk_far ?_ (by have h_:=Kd.R_ne HL38026_0.out BK13.out (by decide);intro e_;exact h_ (by rw [e_];rfl)) _;(with_reducible repeat (first|refine blk_drewN ?_ _|refine blk_drew ?_|refine blk_alloc ?_ _));exact BK13.out⟩
  have n6_:Aside0 (IsS73 w0 (w62.setCell ⟨go47,0,none⟩ (.int .i64 t30)) g s0_0 t31 t32):=⟨by repeat (first|(with_reducible first|exact HI0.out|apply IsS73.alloc|apply IsS73.drewN|apply IsS73.drew|apply IsS73.set_1|apply IsS73.set_2|refine IsS73.far ?_ HN0_go47.out _|refine IsS73.far ?_ NB0_1.out _|refine IsS73.far ?_ NB0_13.out _)|exact HI0.out)⟩
  have n7_:Aside0 (KeepBut w (w62.setCell ⟨go47,0,none⟩ (.int .i64 t30)) g none):=⟨by repeat (first|(with_reducible first|exact HK.out|apply KeepBut.set_|apply keep_drewN|apply keep_drew|apply keep_alloc|refine keep_far ?_ GB47.out _|refine keep_far ?_ GW1.out _|refine keep_far ?_ GW13.out _)|exact HK.out)⟩
  have n8_:Aside0 (Below w0.heap.size w0 (w62.setCell ⟨go47,0,none⟩ (.int .i64 t30))):=⟨by repeat (first|(with_reducible first|exact HB.out|apply below_alloc|apply pw_below_drewN|apply below_drew1|refine below_set ?_ (Nat.le_trans HL.out GB47.out)|refine below_set ?_ (IsS73.ge HI0.out)|refine below_set ?_ GE1.out|refine below_set ?_ GE13.out)|exact HB.out)⟩
  (try clear HO4)
  (try clear HO7)
  (try clear HO10)
  (try clear HO29)
  (try clear BK1)
  (try clear BK13)
  (try clear HI0)
  (try clear HK)
  (try clear HB)
  generalize (w62.setCell ⟨go47,0,none⟩ (.int .i64 t30))=w65 at n0_ n1_ n2_ n3_ n4_ n5_ n6_ n7_ n8_ ⊢
  have HO4:=n0_
  have HO7:=n1_
  have HO10:=n2_
  have HO29:=n3_
  have BK1:=n4_
  have BK13:=n5_
  have HI0:=n6_
  have HK:=n7_
  have HB:=n8_
  clear n0_ n1_ n2_ n3_ n4_ n5_ n6_ n7_ n8_
  obtain ⟨hcz66_0,hcz66_1,hcz66_2,hfz66_0,hfz66_1,hfz66_2⟩:=blk3 BK13.out
  have hnb67:=NB1_0.out
  have hnc67:=NB0_1.out
  obtain ⟨hcz68_0,hcz68_1,hcz68_2,hfz68_0,hfz68_1,hfz68_2⟩:=blk3 BK1.out
  try go_wp2
  refine bodyPost_ret (results_cell_row rfl _ _ gb1 31 #[.slice Ao51 t2.length co51,.slice Ao55 t5.length co55,.slice (some ad38026) t8.length co56] (0,0) _ rfl (zpu BK1.out) Try.underlying31 rfl (by kernel_rfl)) rfl ?_
  exact ⟨_,_,_,za15,by (with_reducible repeat (first|apply Kd.S_alloc|apply Kd.S_drewN|apply Kd.S_drew));exact Kd.S_mono (zfS (zfS (zfS (Kd.S_types HO4.out BK1.out (by decide))))) (fun _ hk=>⟨hk.1.1,hk.1.2.1⟩),za103,by (with_reducible repeat (first|apply Kd.S_alloc|apply Kd.S_drewN|apply Kd.S_drew));exact Kd.S_mono (zfS (zfS (zfS (Kd.S_types HO10.out BK1.out (by decide))))) (fun _ hk=>⟨hk.1.1,hk.1.2.1⟩),za10,za22,za20⟩
 ·rw [if_neg c46] at H
  exact absurd H (by simp)
 ·rw [if_neg c44] at H
  exact absurd H (by simp)
 ·rw [if_neg c43] at H
  have c43b0:=zbn c43
  have c43b1:=zqt c43
  simp only [Option.some.injEq,Prod.mk.injEq] at H
  obtain ⟨rfl,rfl,rfl,rfl,rfl⟩:=H
  go_enter Try.func38,Try.ntmps38
  go_wp2_with (first|((with_reducible refine gate_dst (N:=2) rfl ?_);refine zE (cs:=#[.slice none 0 0,.slice none 0 0,.slice none 0 0]) (t:=31) ?_;intro gb1 hg w69 hbox hb;replace HB:=zk (below_step za12 hb);have BK1:=zk hbox;have GW1:=zk ((by rw [hg];exact (keep_size (w:=w) (g:=g) (row:=none) za9):w.heap.size≤gb1));have GE1:=zk ((Nat.le_trans HW0.out (by rw [hg];exact (keep_size (w:=w) (g:=g) (row:=none) za9):w.heap.size≤gb1):w0.heap.size≤gb1));have NB0_1:=zk (zm hg (IsS73.lt (show IsS73 w0 _ g s0_0 s0_1 s0_2 from za6)));have NB1_0:=zk (zM hg (IsS73.lt (show IsS73 w0 _ g s0_0 s0_1 s0_2 from za6)));replace HI0:=zk (IsS73.below za6 hb);replace HK:=yk HK hb;clear hb hbox hg)|((with_reducible refine gate_callee (f:=58) rfl ?_);refine zg (some 5) Try.func58 #[.pointer (some ⟨g,0,none⟩)] rfl za4 ?_;(with_reducible refine (spec_l13Draw.calls k g s0_0 s0_1 s0_2 t2 t5 t8 t11 t12 w0 _ za8 za17 A2.out).mono ?_);rintro e w70 ⟨v3,v6,v9,rfl,ho0,ho1,ho2,hi,hb,hk⟩;refine ⟨_,rfl,?_⟩;replace BK1:=yq hk BK1 NB1_0;have HO4:=zk (Kd.S_lower ho0 (keep_size (w:=w) (g:=g) (row:=none) za5));have HO7:=zk (Kd.R_lower ho1 (keep_size (w:=w) (g:=g) (row:=none) za5));have HO10:=zk (Kd.S_lower ho2 (keep_size (w:=w) (g:=g) (row:=none) za5));replace HB:=zk hb;replace HI0:=zk hi;replace HK:=yK HK hk;(try clear hb hk hi ho0 ho1 ho2))|((with_reducible refine gate_dst (N:=3) rfl ?_);refine zE (cs:=#[.slice none 0 0,.slice none 0 0,.slice none 0 0]) (t:=31) ?_;intro gb13 hg w71 hbox hb;replace HO4:=zk (Kd.S_below (za2 HO4.out) hb);replace HO7:=zk (Kd.R_below (za1 HO7.out) hb);replace HO10:=zk (Kd.S_below (za2 HO10.out) hb);replace HB:=zk (below_step za17 hb);have BK13:=zk hbox;have GW13:=zk ((by rw [hg];exact (keep_size (w:=w) (g:=g) (row:=none) za5):w.heap.size≤gb13));have GE13:=zk ((Nat.le_trans HW0.out (by rw [hg];exact (keep_size (w:=w) (g:=g) (row:=none) za5):w.heap.size≤gb13):w0.heap.size≤gb13));have NB1_13:=yn hg BK1;have NB13_1:=yp hg BK1;have NB0_13:=zk (zm hg (IsS73.lt (show IsS73 w0 _ g s0_0 t11 t12 from za8)));have NB13_0:=zk (zM hg (IsS73.lt (show IsS73 w0 _ g s0_0 t11 t12 from za8)));replace HI0:=zk (IsS73.below za8 hb);replace BK1:=yb BK1 hb;replace HK:=yk HK hb;clear hb hbox hg;obtain ⟨Ao72,co72,eo72⟩:=Kd.S_slice HO4.out;subst eo72;have hnb73:=NB13_1.out;have hnc73:=NB1_13.out;have hnb74:=NB13_0.out;have hnc74:=NB0_13.out;obtain ⟨hcz75_0,hcz75_1,hcz75_2,hfz75_0,hfz75_1,hfz75_2⟩:=blk3 BK13.out;obtain ⟨Ao76,co76,eo76⟩:=Kd.R_slice HO7.out;subst eo76;obtain ⟨Ao77,co77,eo77⟩:=Kd.S_slice HO10.out;subst eo77)|((with_reducible refine gate_callee (f:=39) rfl ?_);refine zg (some 7) Try.func39 #[.pointer (some ⟨g,0,none⟩),.int .i64 12] rfl za4 ?_;(with_reducible refine (spec_l1Below.calls g s0_0 t11 t12 12 t14 t15 t16 w0 _ za10 za22 A3.out).mono ?_);rintro e w78 ⟨rfl,hi,hb,hk⟩;refine ⟨_,rfl,?_⟩;replace BK1:=zk (KeepBut.blk hk (g':=gb1) (o:=.cells #[.slice none 0 0,.slice none 0 0,.slice none 0 0] 31 (0,0)) (zpw BK1.out) NB1_0.out (by simp));replace HO4:=zk (Kd.S_mono (Kd.S_keep (IsS73.apartS (show IsS73 w0 _ g s0_0 t11 t12 from za10) za48 (by decide)) hk (fun _ h=>h.2)) (fun _ h=>h.1));replace HO7:=zk (Kd.R_mono (Kd.R_keep (IsS73.apart (show IsS73 w0 _ g s0_0 t11 t12 from za10) za49 (by decide)) hk (fun _ h=>h.2)) (fun _ h=>h.1));replace HO10:=zk (Kd.S_mono (Kd.S_keep (IsS73.apartS (show IsS73 w0 _ g s0_0 t11 t12 from za10) za43 (by decide)) hk (fun _ h=>h.2)) (fun _ h=>h.1));replace HK:=yK HK hk;replace HB:=zk hb;replace BK13:=zk (KeepBut.blk hk (g':=gb13) (o:=.cells #[.slice Ao72 t2.length co72,.slice Ao76 t5.length co76,.slice Ao77 t8.length co77] 31 (0,0)) (zpu BK13.out) NB13_0.out (by simp));replace HI0:=zk hi;(try clear hb hk hi);obtain ⟨hcz79_0,hcz79_1,hcz79_2,hfz79_0,hfz79_1,hfz79_2⟩:=blk3 BK13.out;have hnb80:=NB1_0.out;have hnc80:=NB0_1.out;obtain ⟨hcz81_0,hcz81_1,hcz81_2,hfz81_0,hfz81_1,hfz81_2⟩:=blk3 BK1.out))
  refine bodyPost_ret (results_cell_row rfl _ _ gb1 31 #[.slice Ao72 t2.length co72,.slice Ao76 t5.length co76,.slice Ao77 t8.length co77] (0,0) _ rfl (zpu BK1.out) Try.underlying31 rfl (by kernel_rfl)) rfl ?_
  exact ⟨_,_,_,za15,by (with_reducible repeat (first|apply Kd.S_alloc|apply Kd.S_drewN|apply Kd.S_drew));exact Kd.S_mono (zfS (zfS (zfS (Kd.S_types HO4.out BK1.out (by decide))))) (fun _ hk=>⟨hk.1.1,hk.1.2⟩),za103,by (with_reducible repeat (first|apply Kd.S_alloc|apply Kd.S_drewN|apply Kd.S_drew));exact Kd.S_mono (zfS (zfS (zfS (Kd.S_types HO10.out BK1.out (by decide))))) (fun _ hk=>⟨hk.1.1,hk.1.2⟩),za10,za22,za20⟩
def spec_DrawWordOfMap.f (k:Nat) (l0:List Int):Option ((List (List Int)) × List Int × (List (List Int)) × Int):=(spec_l1New.f k l0).bind fun bt12002=>((spec_l13Bent.f k bt12002.1 bt12002.2.1 bt12002.2.2).bind fun bt12006=>((spec_l1Below.f bt12002.1 bt12006.2.2.2.1 bt12006.2.2.2.2 (wrap64 ((bt12006.1.length:Int)+2))).bind fun bt12018=>(some (bt12006.1,bt12006.2.1,bt12006.2.2.1,wrap64 (bt12018.1 - 1)))))
def spec_DrawWordOfMap.T3:Bool × List (List Nat × List Nat):=(true,[([],[]),([],[]),([],[]),([2],[2]),([3],[3]),([4],[4]),([1,5],[1,5]),([6],[6]),([0,6,0],[0]),([7,8,0,1,2,3,4,5,6,7,8],[7])])
def spec_DrawWordOfMap.B3:List Nat:=[0,0,0,4,12,28,62,126,127,511]
theorem spec_DrawWordOfMap.tab3:rtab .any (opsOf Try.f12 3)=spec_DrawWordOfMap.T3:=by kernel_rfl
theorem spec_DrawWordOfMap.bits3:waitsOk spec_DrawWordOfMap.T3.2 spec_DrawWordOfMap.B3=true:=by kernel_rfl
theorem spec_DrawWordOfMap.calls (k:Nat) (A0:Option Addr) (c0:Nat) (l0:List Int) (r1:List (List Int)) (r2:List Int) (r3:List (List Int)) (r4:Int) (w:World) (hr0:Kd.C (Kd.int .u8) w A0 l0.length l0) (hc0:l0.length≤c0) (h:spec_DrawWordOfMap.f k l0=some (r1,r2,r3,r4)) :
  Calls Try.prog 12 #[.slice A0 l0.length c0] w fun e w'=>∃ v0_ v1_ v2_:Value,e = .returned (.tuple #[.agg #[v0_,v1_,v2_],.int .i64 r4])∧Kd.S (Kd.slice 3 (Kd.int .i64)) 29 w' w.heap.size (fun k_=>some k_ ≠ (v1_:Value).ownBlock∧some k_ ≠ (v2_:Value).ownBlock) v0_ r1∧Kd.R (Kd.int .i64) 3 w' w.heap.size (fun _=>True) v1_ r2∧Kd.S (Kd.slice 3 (Kd.int .i64)) 29 w' w.heap.size (fun k_=>some k_ ≠ (v0_:Value).ownBlock∧some k_ ≠ (v1_:Value).ownBlock) v2_ r3∧Below w.heap.size w w':=by
 have hu31:=Try.underlying31
 have HR0:=zk hr0
 have HC0:=zk hc0
 clear hr0 hc0
 have HB:=zk (Below.refl w.heap.size w)
 have H:=h
 unfold spec_DrawWordOfMap.f at H
 clear h
 obtain ⟨⟨t2,t3,t4⟩,A2,H⟩:=zO H
 try dsimp only at H
 obtain ⟨⟨t6,t9,t12,t15,t16⟩,A3,H⟩:=zO H
 try dsimp only at H
 obtain ⟨⟨t18,t19,t20⟩,A4,H⟩:=zO H
 try dsimp only at H
 simp only [Option.some.injEq,Prod.mk.injEq] at H
 obtain ⟨rfl,rfl,rfl,rfl⟩:=H
 go_enter Try.func12,Try.ntmps12
 try go_wp2_with (first|((with_reducible refine gate_dst (N:=2) rfl ?_);refine zE (cs:=#[.slice none 0 0,.slice none 0 0,.slice none 0 0]) (t:=31) ?_;intro gb1 hg w5 hbox hb;have BK1:=zk hbox;have GW1:=zk (zs (w:=w) hg za3);have GE1:=GW1;replace HB:=yB HB hb;clear hb hbox hg)|((with_reducible refine gate_callee (f:=17) rfl ?_);refine zg (some 7) Try.func17 #[.slice A0 l0.length c0] rfl za4 ?_;(with_reducible refine (spec_l1New.calls k _ _ l0 t2 t3 t4 w _ za31 ?side2 ?side3 A2.out).mono ?_);(case side2=>exact HR0.out);(case side3=>exact HC0.out);rintro e w6 ⟨g5,rfl,hi,hb,hb2⟩;refine ⟨_,rfl,?_⟩;replace HB:=zk hb;have HI5:=zk hi;have NB5_1:=zk (IsS73.ne_blk hi (zb BK1.out hb2) (by decide));have NB1_5:=zk (Ne.symm (IsS73.ne_blk hi (zb BK1.out hb2) (by decide)));replace BK1:=yb BK1 hb2;(try clear hb hb2 hi))|((with_reducible refine gate_callee (f:=38) rfl ?_);refine zg (some 9) Try.func38 #[.pointer (some ⟨g5,0,none⟩)] rfl za4 ?_;(with_reducible refine (spec_l13Bent.calls k g5 t2 t3 t4 t6 t9 t12 t15 t16 w _ za28 za14 A3.out).mono ?_);rintro e w7 ⟨v7,v10,v13,rfl,ho0,ho1,ho2,hi,hb,hk⟩;refine ⟨_,rfl,?_⟩;replace BK1:=yq hk BK1 NB1_5;have HO8:=zk (Kd.S_lower ho0 (below_size za14));have HO11:=zk (Kd.R_lower ho1 (below_size za14));have HO14:=zk (Kd.S_lower ho2 (below_size za14));replace HB:=zk hb;replace HI5:=zk hi;(try clear hb hk hi ho0 ho1 ho2))|((with_reducible refine gate_dst (N:=5) rfl ?_);refine zE (cs:=#[.slice none 0 0,.slice none 0 0,.slice none 0 0]) (t:=31) ?_;intro gb17 hg w8 hbox hb;replace HO8:=zk (Kd.S_below (za2 HO8.out) hb);replace HO11:=zk (Kd.R_below (za1 HO11.out) hb);replace HO14:=zk (Kd.S_below (za2 HO14.out) hb);have BK17:=zk hbox;have GW17:=zk (zs (w:=w) hg za14);have GE17:=GW17;have NB1_17:=yn hg BK1;have NB17_1:=yp hg BK1;have NB5_17:=zk (zm hg (IsS73.lt (show IsS73 w _ g5 t2 t15 t16 from za28)));have NB17_5:=zk (zM hg (IsS73.lt (show IsS73 w _ g5 t2 t15 t16 from za28)));replace BK1:=yb BK1 hb;replace HB:=zk (below_step za14 hb);replace HI5:=zk (IsS73.below za28 hb);clear hb hbox hg;obtain ⟨Ao9,co9,eo9⟩:=Kd.S_slice HO8.out;subst eo9;have hnb10:=NB17_1.out;have hnc10:=NB1_17.out;have hnb11:=NB17_5.out;have hnc11:=NB5_17.out;obtain ⟨hcz12_0,hcz12_1,hcz12_2,hfz12_0,hfz12_1,hfz12_2⟩:=blk3 BK17.out;obtain ⟨Ao13,co13,eo13⟩:=Kd.R_slice HO11.out;subst eo13;obtain ⟨Ao14,co14,eo14⟩:=Kd.S_slice HO14.out;subst eo14))
 have n0_:Aside0 (Kd.S (Kd.slice 3 (Kd.int .i64)) 29 (((w8.setCell ⟨gb17,0,none⟩ (.slice Ao9 t6.length co9)).setCell ⟨gb17,1,none⟩ (.slice Ao13 t9.length co13)).setCell ⟨gb17,2,none⟩ (.slice Ao14 t12.length co14)) w.heap.size (fun k_=>some k_ ≠ (.slice Ao13 t9.length co13:Value).ownBlock∧some k_ ≠ (.slice Ao14 t12.length co14:Value).ownBlock) (.slice Ao9 t6.length co9) t6):=⟨za68⟩
 have n1_:Aside0 (Kd.R (Kd.int .i64) 3 (((w8.setCell ⟨gb17,0,none⟩ (.slice Ao9 t6.length co9)).setCell ⟨gb17,1,none⟩ (.slice Ao13 t9.length co13)).setCell ⟨gb17,2,none⟩ (.slice Ao14 t12.length co14)) w.heap.size (fun _=>True) (.slice Ao13 t9.length co13) t9):=⟨za89⟩
 have n2_:Aside0 (Kd.S (Kd.slice 3 (Kd.int .i64)) 29 (((w8.setCell ⟨gb17,0,none⟩ (.slice Ao9 t6.length co9)).setCell ⟨gb17,1,none⟩ (.slice Ao13 t9.length co13)).setCell ⟨gb17,2,none⟩ (.slice Ao14 t12.length co14)) w.heap.size (fun k_=>some k_ ≠ (.slice Ao9 t6.length co9:Value).ownBlock∧some k_ ≠ (.slice Ao13 t9.length co13:Value).ownBlock) (.slice Ao14 t12.length co14) t12):=⟨za66⟩
 have n3_:Aside0 ((((w8.setCell ⟨gb17,0,none⟩ (.slice Ao9 t6.length co9)).setCell ⟨gb17,1,none⟩ (.slice Ao13 t9.length co13)).setCell ⟨gb17,2,none⟩ (.slice Ao14 t12.length co14)).heap[gb1]? = some (.cells #[.slice none 0 0,.slice none 0 0,.slice none 0 0] 31 (0,0))):=⟨zpw BK1.out⟩
 have n4_:Aside0 ((((w8.setCell ⟨gb17,0,none⟩ (.slice Ao9 t6.length co9)).setCell ⟨gb17,1,none⟩ (.slice Ao13 t9.length co13)).setCell ⟨gb17,2,none⟩ (.slice Ao14 t12.length co14)).heap[gb17]? = some (.cells #[.slice Ao9 t6.length co9,.slice Ao13 t9.length co13,.slice Ao14 t12.length co14] 31 (0,0))):=⟨zpu BK17.out⟩
 have n5_:Aside0 (IsS73 w (((w8.setCell ⟨gb17,0,none⟩ (.slice Ao9 t6.length co9)).setCell ⟨gb17,1,none⟩ (.slice Ao13 t9.length co13)).setCell ⟨gb17,2,none⟩ (.slice Ao14 t12.length co14)) g5 t2 t15 t16):=⟨za29⟩
 have n6_:Aside0 (Below w.heap.size w (((w8.setCell ⟨gb17,0,none⟩ (.slice Ao9 t6.length co9)).setCell ⟨gb17,1,none⟩ (.slice Ao13 t9.length co13)).setCell ⟨gb17,2,none⟩ (.slice Ao14 t12.length co14))):=⟨za32⟩
 (try clear HO8)
 (try clear HO11)
 (try clear HO14)
 (try clear BK1)
 (try clear BK17)
 (try clear HI5)
 (try clear HB)
 generalize (((w8.setCell ⟨gb17,0,none⟩ (.slice Ao9 t6.length co9)).setCell ⟨gb17,1,none⟩ (.slice Ao13 t9.length co13)).setCell ⟨gb17,2,none⟩ (.slice Ao14 t12.length co14))=w15 at n0_ n1_ n2_ n3_ n4_ n5_ n6_ ⊢
 have HO8:=n0_
 have HO11:=n1_
 have HO14:=n2_
 have BK1:=n3_
 have BK17:=n4_
 have HI5:=n5_
 have HB:=n6_
 clear n0_ n1_ n2_ n3_ n4_ n5_ n6_
 replace HO8:=zk (Kd.S_drew HO8.out)
 replace HO11:=zk (Kd.R_drew HO11.out)
 replace HO14:=zk (Kd.S_drew HO14.out)
 replace BK1:=zk (blk_drew BK1.out)
 replace BK17:=zk (blk_drew BK17.out)
 replace HI5:=zk (IsS73.drew HI5.out)
 replace HB:=zk (below_drew1 HB.out)
 refine start_ (n:=10) (S:=fun w'=>w'.cell? ⟨gb17,0,none⟩=some (.slice Ao9 t6.length co9)∧w'.cell? ⟨gb17,1,none⟩=some (.slice Ao13 t9.length co13)∧w'.cell? ⟨gb17,2,none⟩=some (.slice Ao14 t12.length co14)) (ds:=[]) #[false,false,false,false,false,false,false,false,false,false] (by kernel_rfl) rfl rfl ⟨(blk_cell BK17.out 0).trans rfl,(blk_cell BK17.out 1).trans rfl,(blk_cell BK17.out 2).trans rfl⟩ (fun hHeld=>?_);refine with_tabW spec_DrawWordOfMap.tab3 spec_DrawWordOfMap.bits3 (fun HT_ HW_=>?_)
 generalize w15.drew=w16 at HO8 HO11 HO14 BK1 BK17 HI5 HB hHeld ⊢
 refine zy 1 (some 11) HT_.out ?_
 refine zy 2 (some 12) HT_.out ?_
 refine ztk 0 (some 10) HT_.out HW_.out hHeld ?_
 refine ztk 3 (some 13) HT_.out HW_.out hHeld ?_
 refine zy 4 (some 14) HT_.out ?_
 refine zy 5 (some 15) HT_.out ?_
 refine zon 6 (some 16) HT_.out (fun K hK=>?_)
 refine goes_ Try.func39 (by kernel_rfl) rfl #[.pointer (some ⟨g5,0,none⟩),.int .i64 (wrap64 ((t6.length:Int)+2))] (by rfl) rfl rfl za4 ?_
 with_reducible refine (spec_l1Below.calls g5 t2 t15 t16 (wrap64 ((t6.length:Int)+2)) t18 t19 t20 w _ za29 za32 A4.out).mono ?_
 rintro e w17 ⟨rfl,hi,hb,hk⟩
 refine ⟨_,rfl,?_⟩
 replace BK1:=yq hk BK1 NB1_5
 replace HO8:=zk (Kd.S_mono (Kd.S_keep (IsS73.apartS (show IsS73 w _ g5 t2 t15 t16 from za29) (za2 HO8.out) (by decide)) hk (fun _ h=>h.2)) (fun _ h=>h.1))
 replace HO11:=zk (Kd.R_mono (Kd.R_keep (IsS73.apart (show IsS73 w _ g5 t2 t15 t16 from za29) (za1 HO11.out) (by decide)) hk (fun _ h=>h.2)) (fun _ h=>h.1))
 replace HO14:=zk (Kd.S_mono (Kd.S_keep (IsS73.apartS (show IsS73 w _ g5 t2 t15 t16 from za29) (za2 HO14.out) (by decide)) hk (fun _ h=>h.2)) (fun _ h=>h.1))
 replace BK17:=yq hk BK17 NB17_5
 replace HB:=zk hb
 replace HI5:=zk hi
 (try clear hb)
 (try clear hb2)
 (try clear hk)
 (try clear hi)
 refine hK.out _ _ ⟨(blk_cell BK17.out 0).trans rfl,(blk_cell BK17.out 1).trans rfl,(blk_cell BK17.out 2).trans rfl⟩ (fun hHeld=>?_)
 clear hK K
 refine zno (some 16) ?_
 refine zy 7 (some 17) HT_.out ?_
 refine zon 8 none HT_.out (fun K hK=>?_)
 have hs18:w17.cell? ⟨gb1,0,none⟩=some (.slice none 0 0):=(blk_cell BK1.out 0).trans rfl
 have hfs18:=blk_frozen BK1.out 0
 have hns18_1:=NB17_1.out
 have hms18_1:=NB1_17.out
 have hs19:w17.cell? ⟨gb1,1,none⟩=some (.slice none 0 0):=(blk_cell BK1.out 1).trans rfl
 have hfs19:=blk_frozen BK1.out 1
 have hns19_1:=NB17_1.out
 have hms19_1:=NB1_17.out
 have hs20:w17.cell? ⟨gb1,2,none⟩=some (.slice none 0 0):=(blk_cell BK1.out 2).trans rfl
 have hfs20:=blk_frozen BK1.out 2
 have hns20_1:=NB17_1.out
 have hms20_1:=NB1_17.out
 refine skip_ (w1:=?_) (by rfl) rfl ?_ ?_
 rotate_left
 ·go_simp
  rfl
 refine hK.out _ _ ⟨((cell_far (p:=⟨gb1,_,none⟩) NB17_1.out _).trans (((cell_far (p:=⟨gb1,_,none⟩) NB17_1.out _).trans (((cell_far (p:=⟨gb1,_,none⟩) NB17_1.out _).trans (hHeld.1)))))),((cell_far (p:=⟨gb1,_,none⟩) NB17_1.out _).trans (((cell_far (p:=⟨gb1,_,none⟩) NB17_1.out _).trans (((cell_far (p:=⟨gb1,_,none⟩) NB17_1.out _).trans (hHeld.2.1)))))),((cell_far (p:=⟨gb1,_,none⟩) NB17_1.out _).trans (((cell_far (p:=⟨gb1,_,none⟩) NB17_1.out _).trans (((cell_far (p:=⟨gb1,_,none⟩) NB17_1.out _).trans (hHeld.2.2))))))⟩ (fun hHeld=>?_)
 clear hK K
 refine zy 9 (some 3) HT_.out ?_
 refine done_ (done_of HT_.out (by kernel_rfl)) ?_
 try go_wp2
 refine bodyPost_ret (results_ct rfl _ _ gb1 31 #[.slice Ao9 t6.length co9,.slice Ao13 t9.length co13,.slice Ao14 t12.length co14] (0,0) _ rfl (zpu BK1.out) Try.underlying31 rfl (by kernel_rfl)) rfl ?_
 exact ⟨_,_,_,za15,za70,za97,za69,za32⟩
def spec_DrawMapOf.f (k:Nat) (l0:List Int):Option ((List (List Int)) × List Int × (List (List Int)) × ByteArray):=(spec_l1New.f k l0).bind fun bt15002=>((spec_l13Bent.f k bt15002.1 bt15002.2.1 bt15002.2.2).bind fun bt15006=>((spec_l2Any.f k bt15002.1 bt15006.2.2.2.1 bt15006.2.2.2.2).bind fun bt15018=>(some (bt15006.1,bt15006.2.1,bt15006.2.2.1,bt15018.1))))
theorem spec_DrawMapOf.calls (k:Nat) (A0:Option Addr) (c0:Nat) (l0:List Int) (r1:List (List Int)) (r2:List Int) (r3:List (List Int)) (r4:ByteArray) (w:World) (hr0:Kd.C (Kd.int .u8) w A0 l0.length l0) (hc0:l0.length≤c0) (h:spec_DrawMapOf.f k l0=some (r1,r2,r3,r4)) :
  Calls Try.prog 15 #[.slice A0 l0.length c0] w fun e w'=>∃ v0_ v1_ v2_:Value,e = .returned (.tuple #[.agg #[v0_,v1_,v2_],.string r4])∧Kd.S (Kd.slice 3 (Kd.int .i64)) 29 w' w.heap.size (fun k_=>some k_ ≠ (v1_:Value).ownBlock∧some k_ ≠ (v2_:Value).ownBlock) v0_ r1∧Kd.R (Kd.int .i64) 3 w' w.heap.size (fun _=>True) v1_ r2∧Kd.S (Kd.slice 3 (Kd.int .i64)) 29 w' w.heap.size (fun k_=>some k_ ≠ (v0_:Value).ownBlock∧some k_ ≠ (v1_:Value).ownBlock) v2_ r3∧Below w.heap.size w w':=by
 have hu31:=Try.underlying31
 have HR0:=zk hr0
 have HC0:=zk hc0
 clear hr0 hc0
 have HB:=zk (Below.refl w.heap.size w)
 have H:=h
 unfold spec_DrawMapOf.f at H
 clear h
 obtain ⟨⟨t2,t3,t4⟩,A2,H⟩:=zO H
 try dsimp only at H
 obtain ⟨⟨t6,t9,t12,t15,t16⟩,A3,H⟩:=zO H
 try dsimp only at H
 obtain ⟨⟨t18,t19,t20⟩,A4,H⟩:=zO H
 try dsimp only at H
 simp only [Option.some.injEq,Prod.mk.injEq] at H
 obtain ⟨rfl,rfl,rfl,rfl⟩:=H
 go_enter Try.func15,Try.ntmps15
 try go_wp2_with (first|((with_reducible refine gate_dst (N:=2) rfl ?_);refine zE (cs:=#[.slice none 0 0,.slice none 0 0,.slice none 0 0]) (t:=31) ?_;intro gb1 hg w5 hbox hb;have BK1:=zk hbox;have GW1:=zk (zs (w:=w) hg za3);have GE1:=GW1;replace HB:=yB HB hb;clear hb hbox hg)|((with_reducible refine gate_callee (f:=17) rfl ?_);refine zg (some 7) Try.func17 #[.slice A0 l0.length c0] rfl za4 ?_;(with_reducible refine (spec_l1New.calls k _ _ l0 t2 t3 t4 w _ za31 ?side2 ?side3 A2.out).mono ?_);(case side2=>exact HR0.out);(case side3=>exact HC0.out);rintro e w6 ⟨g5,rfl,hi,hb,hb2⟩;refine ⟨_,rfl,?_⟩;replace HB:=zk hb;have HI5:=zk hi;have NB5_1:=zk (IsS73.ne_blk hi (zb BK1.out hb2) (by decide));have NB1_5:=zk (Ne.symm (IsS73.ne_blk hi (zb BK1.out hb2) (by decide)));replace BK1:=yb BK1 hb2;(try clear hb hb2 hi))|((with_reducible refine gate_callee (f:=38) rfl ?_);refine zg (some 9) Try.func38 #[.pointer (some ⟨g5,0,none⟩)] rfl za4 ?_;(with_reducible refine (spec_l13Bent.calls k g5 t2 t3 t4 t6 t9 t12 t15 t16 w _ za28 za14 A3.out).mono ?_);rintro e w7 ⟨v7,v10,v13,rfl,ho0,ho1,ho2,hi,hb,hk⟩;refine ⟨_,rfl,?_⟩;replace BK1:=yq hk BK1 NB1_5;have HO8:=zk (Kd.S_lower ho0 (below_size za14));have HO11:=zk (Kd.R_lower ho1 (below_size za14));have HO14:=zk (Kd.S_lower ho2 (below_size za14));replace HB:=zk hb;replace HI5:=zk hi;(try clear hb hk hi ho0 ho1 ho2))|((with_reducible refine gate_dst (N:=5) rfl ?_);refine zE (cs:=#[.slice none 0 0,.slice none 0 0,.slice none 0 0]) (t:=31) ?_;intro gb17 hg w8 hbox hb;replace HO8:=zk (Kd.S_below (za2 HO8.out) hb);replace HO11:=zk (Kd.R_below (za1 HO11.out) hb);replace HO14:=zk (Kd.S_below (za2 HO14.out) hb);have BK17:=zk hbox;have GW17:=zk (zs (w:=w) hg za14);have GE17:=GW17;have NB1_17:=yn hg BK1;have NB17_1:=yp hg BK1;have NB5_17:=zk (zm hg (IsS73.lt (show IsS73 w _ g5 t2 t15 t16 from za28)));have NB17_5:=zk (zM hg (IsS73.lt (show IsS73 w _ g5 t2 t15 t16 from za28)));replace BK1:=yb BK1 hb;replace HB:=zk (below_step za14 hb);replace HI5:=zk (IsS73.below za28 hb);clear hb hbox hg;obtain ⟨Ao9,co9,eo9⟩:=Kd.S_slice HO8.out;subst eo9;have hnb10:=NB17_1.out;have hnc10:=NB1_17.out;have hnb11:=NB17_5.out;have hnc11:=NB5_17.out;obtain ⟨hcz12_0,hcz12_1,hcz12_2,hfz12_0,hfz12_1,hfz12_2⟩:=blk3 BK17.out;obtain ⟨Ao13,co13,eo13⟩:=Kd.R_slice HO11.out;subst eo13;obtain ⟨Ao14,co14,eo14⟩:=Kd.S_slice HO14.out;subst eo14))
 have n0_:Aside0 (Kd.S (Kd.slice 3 (Kd.int .i64)) 29 (((w8.setCell ⟨gb17,0,none⟩ (.slice Ao9 t6.length co9)).setCell ⟨gb17,1,none⟩ (.slice Ao13 t9.length co13)).setCell ⟨gb17,2,none⟩ (.slice Ao14 t12.length co14)) w.heap.size (fun k_=>some k_ ≠ (.slice Ao13 t9.length co13:Value).ownBlock∧some k_ ≠ (.slice Ao14 t12.length co14:Value).ownBlock) (.slice Ao9 t6.length co9) t6):=⟨za68⟩
 have n1_:Aside0 (Kd.R (Kd.int .i64) 3 (((w8.setCell ⟨gb17,0,none⟩ (.slice Ao9 t6.length co9)).setCell ⟨gb17,1,none⟩ (.slice Ao13 t9.length co13)).setCell ⟨gb17,2,none⟩ (.slice Ao14 t12.length co14)) w.heap.size (fun _=>True) (.slice Ao13 t9.length co13) t9):=⟨za89⟩
 have n2_:Aside0 (Kd.S (Kd.slice 3 (Kd.int .i64)) 29 (((w8.setCell ⟨gb17,0,none⟩ (.slice Ao9 t6.length co9)).setCell ⟨gb17,1,none⟩ (.slice Ao13 t9.length co13)).setCell ⟨gb17,2,none⟩ (.slice Ao14 t12.length co14)) w.heap.size (fun k_=>some k_ ≠ (.slice Ao9 t6.length co9:Value).ownBlock∧some k_ ≠ (.slice Ao13 t9.length co13:Value).ownBlock) (.slice Ao14 t12.length co14) t12):=⟨za66⟩
 have n3_:Aside0 ((((w8.setCell ⟨gb17,0,none⟩ (.slice Ao9 t6.length co9)).setCell ⟨gb17,1,none⟩ (.slice Ao13 t9.length co13)).setCell ⟨gb17,2,none⟩ (.slice Ao14 t12.length co14)).heap[gb1]? = some (.cells #[.slice none 0 0,.slice none 0 0,.slice none 0 0] 31 (0,0))):=⟨zpw BK1.out⟩
 have n4_:Aside0 ((((w8.setCell ⟨gb17,0,none⟩ (.slice Ao9 t6.length co9)).setCell ⟨gb17,1,none⟩ (.slice Ao13 t9.length co13)).setCell ⟨gb17,2,none⟩ (.slice Ao14 t12.length co14)).heap[gb17]? = some (.cells #[.slice Ao9 t6.length co9,.slice Ao13 t9.length co13,.slice Ao14 t12.length co14] 31 (0,0))):=⟨zpu BK17.out⟩
 have n5_:Aside0 (IsS73 w (((w8.setCell ⟨gb17,0,none⟩ (.slice Ao9 t6.length co9)).setCell ⟨gb17,1,none⟩ (.slice Ao13 t9.length co13)).setCell ⟨gb17,2,none⟩ (.slice Ao14 t12.length co14)) g5 t2 t15 t16):=⟨za29⟩
 have n6_:Aside0 (Below w.heap.size w (((w8.setCell ⟨gb17,0,none⟩ (.slice Ao9 t6.length co9)).setCell ⟨gb17,1,none⟩ (.slice Ao13 t9.length co13)).setCell ⟨gb17,2,none⟩ (.slice Ao14 t12.length co14))):=⟨za32⟩
 (try clear HO8)
 (try clear HO11)
 (try clear HO14)
 (try clear BK1)
 (try clear BK17)
 (try clear HI5)
 (try clear HB)
 generalize (((w8.setCell ⟨gb17,0,none⟩ (.slice Ao9 t6.length co9)).setCell ⟨gb17,1,none⟩ (.slice Ao13 t9.length co13)).setCell ⟨gb17,2,none⟩ (.slice Ao14 t12.length co14))=w15 at n0_ n1_ n2_ n3_ n4_ n5_ n6_ ⊢
 have HO8:=n0_
 have HO11:=n1_
 have HO14:=n2_
 have BK1:=n3_
 have BK17:=n4_
 have HI5:=n5_
 have HB:=n6_
 clear n0_ n1_ n2_ n3_ n4_ n5_ n6_
 replace HO8:=zk (Kd.S_drew HO8.out)
 replace HO11:=zk (Kd.R_drew HO11.out)
 replace HO14:=zk (Kd.S_drew HO14.out)
 replace BK1:=zk (blk_drew BK1.out)
 replace BK17:=zk (blk_drew BK17.out)
 replace HI5:=zk (IsS73.drew HI5.out)
 replace HB:=zk (below_drew1 HB.out)
 refine start_ (n:=5) (S:=fun w'=>w'.cell? ⟨gb17,0,none⟩=some (.slice Ao9 t6.length co9)∧w'.cell? ⟨gb17,1,none⟩=some (.slice Ao13 t9.length co13)∧w'.cell? ⟨gb17,2,none⟩=some (.slice Ao14 t12.length co14)) (ds:=[]) #[false,false,false,false,false] (by kernel_rfl) rfl rfl ⟨(blk_cell BK17.out 0).trans rfl,(blk_cell BK17.out 1).trans rfl,(blk_cell BK17.out 2).trans rfl⟩ (fun hHeld=>?_)
 generalize w15.drew=w16 at HO8 HO11 HO14 BK1 BK17 HI5 HB hHeld ⊢
 refine zyk 1 (some 11) ?_
 refine ztkk 0 (some 10) hHeld ?_
 refine one_ (i:=2) (N:=some 12) #[true,true,true,false,false] rfl rfl (by kernel_rfl) (by decide) (fun K hK=>?_)
 refine goes_ Try.func45 (by kernel_rfl) rfl #[.pointer (some ⟨g5,0,none⟩)] (by rfl) rfl rfl za4 ?_
 with_reducible refine (spec_l2Any.calls k g5 t2 t15 t16 t18 t19 t20 w _ za29 za32 A4.out).mono ?_
 rintro e w17 ⟨rfl,hi,hb,hk⟩
 refine ⟨_,rfl,?_⟩
 replace BK1:=yq hk BK1 NB1_5
 replace HO8:=zk (Kd.S_mono (Kd.S_keep (IsS73.apartS (show IsS73 w _ g5 t2 t15 t16 from za29) (za2 HO8.out) (by decide)) hk (fun _ h=>h.2)) (fun _ h=>h.1))
 replace HO11:=zk (Kd.R_mono (Kd.R_keep (IsS73.apart (show IsS73 w _ g5 t2 t15 t16 from za29) (za1 HO11.out) (by decide)) hk (fun _ h=>h.2)) (fun _ h=>h.1))
 replace HO14:=zk (Kd.S_mono (Kd.S_keep (IsS73.apartS (show IsS73 w _ g5 t2 t15 t16 from za29) (za2 HO14.out) (by decide)) hk (fun _ h=>h.2)) (fun _ h=>h.1))
 replace BK17:=yq hk BK17 NB17_5
 replace HB:=zk hb
 replace HI5:=zk hi
 (try clear hb)
 (try clear hb2)
 (try clear hk)
 (try clear hi)
 refine hK.out _ _ ⟨(blk_cell BK17.out 0).trans rfl,(blk_cell BK17.out 1).trans rfl,(blk_cell BK17.out 2).trans rfl⟩ (fun hHeld=>?_)
 clear hK K
 refine zno (some 12) ?_
 refine one_ (i:=3) (N:=none) #[true,true,true,true,false] rfl rfl (by kernel_rfl) (by decide) (fun K hK=>?_)
 have hs18:w17.cell? ⟨gb1,0,none⟩=some (.slice none 0 0):=(blk_cell BK1.out 0).trans rfl
 have hfs18:=blk_frozen BK1.out 0
 have hns18_1:=NB17_1.out
 have hms18_1:=NB1_17.out
 have hs19:w17.cell? ⟨gb1,1,none⟩=some (.slice none 0 0):=(blk_cell BK1.out 1).trans rfl
 have hfs19:=blk_frozen BK1.out 1
 have hns19_1:=NB17_1.out
 have hms19_1:=NB1_17.out
 have hs20:w17.cell? ⟨gb1,2,none⟩=some (.slice none 0 0):=(blk_cell BK1.out 2).trans rfl
 have hfs20:=blk_frozen BK1.out 2
 have hns20_1:=NB17_1.out
 have hms20_1:=NB1_17.out
 refine skip_ (w1:=?_) (by rfl) rfl ?_ ?_
 rotate_left
 ·go_simp
  rfl
 refine hK.out _ _ ⟨((cell_far (p:=⟨gb1,_,none⟩) NB17_1.out _).trans (((cell_far (p:=⟨gb1,_,none⟩) NB17_1.out _).trans (((cell_far (p:=⟨gb1,_,none⟩) NB17_1.out _).trans (hHeld.1)))))),((cell_far (p:=⟨gb1,_,none⟩) NB17_1.out _).trans (((cell_far (p:=⟨gb1,_,none⟩) NB17_1.out _).trans (((cell_far (p:=⟨gb1,_,none⟩) NB17_1.out _).trans (hHeld.2.1)))))),((cell_far (p:=⟨gb1,_,none⟩) NB17_1.out _).trans (((cell_far (p:=⟨gb1,_,none⟩) NB17_1.out _).trans (((cell_far (p:=⟨gb1,_,none⟩) NB17_1.out _).trans (hHeld.2.2))))))⟩ (fun hHeld=>?_)
 clear hK K
 refine zyk 4 (some 3) ?_
 refine done_ (by kernel_rfl) ?_
 try go_wp2
 refine bodyPost_ret (results_ct rfl _ _ gb1 31 #[.slice Ao9 t6.length co9,.slice Ao13 t9.length co13,.slice Ao14 t12.length co14] (0,0) _ rfl (zpu BK1.out) Try.underlying31 rfl (by kernel_rfl)) rfl ?_
 exact ⟨_,_,_,za15,za70,za97,za69,za32⟩
def slices_Equal_int_int.l0:Nat→List Int→List Int→Int→Int→Option (Bool)
 | 0,_,_,_,_=>none
 | k+1,x0,x1,x12,x13=>if x13 < x12 then (if 0≤x13 then (if x13 < (x0.length:Int) then (if x13 < (x1.length:Int) then (if (rd x0 x13)=(rd x1 x13) then (slices_Equal_int_int.l0 k x0 x1 x12 (wrap64 (x13+1))) else (some false)) else (none)) else (none)) else (none)) else (some true)
def slices_Equal_int_int.f (k:Nat) (l0:List Int) (l1:List Int):Option (Bool):=if (l0.length:Int)=(l1.length:Int) then (slices_Equal_int_int.l0 k l0 l1 (l0.length:Int) 0) else (some false)
theorem slices_Equal_int_int.calls (k:Nat) (A0:Option Addr) (c0:Nat) (l0:List Int) (A1:Option Addr) (c1:Nat) (l1:List Int) (r:Bool) (w:World) (hr0:Kd.C (Kd.int .i64) w A0 l0.length l0) (hc0:l0.length≤c0) (hr1:Kd.C (Kd.int .i64) w A1 l1.length l1) (hc1:l1.length≤c1) (h:slices_Equal_int_int.f k l0 l1=some r) :
  Calls Try.prog 25 #[.slice A0 l0.length c0,.slice A1 l1.length c1] w fun e w'=>e = .returned (.bool r)∧Drawn0 w w':=by
 have HR0:=zk hr0
 have HC0:=zk hc0
 clear hr0 hc0
 have HR1:=zk hr1
 have HC1:=zk hc1
 clear hr1 hc1
 have H:=h
 unfold slices_Equal_int_int.f at H
 clear h
 by_cases c3:(l0.length:Int)=(l1.length:Int)
 ·rw [if_pos c3] at H
  have c3b0:=zbt c3
  have c3b1:=zqn c3
  have c3b2:(l0.length == l1.length)=true:=by first|simpa using c3|(simp at c3 ⊢;omega)
  clear c3
  have H':=zk H
  clear H
  go_enter Try.func25,Try.ntmps25
  go_wp2
  repeat (go_quiet (fail);try go_wp2)
  try simp only [Act.put,zt,zv,zu]
  go_loopg [13] k (fun kq v13 w'=>∃ (x13_1:Int),v13 = .int .i64 x13_1∧Aside0 (slices_Equal_int_int.l0 kq l0 l1 (l0.length:Int) x13_1=some r)∧Aside0 (kq≤k)∧Drawn0 w w')
  case atStart=>exact ⟨(0),za13,H',⟨Nat.le_refl _⟩,za25⟩
  case round =>
   clear H'
   try clear c3
   try clear c3b0
   try clear c3b1
   try clear c3b2
   obtain ⟨x13_1,rfl,HA,HK1,⟨m1,rfl⟩⟩:=hrel
   cases gk with
   | zero=>exact absurd HA.out (by simp [slices_Equal_int_int.l0])
   | succ k1 =>
    have H:=HA.out
    clear HA
    simp only [slices_Equal_int_int.l0] at H
    by_cases c4:x13_1 < (l0.length:Int)
    rw [if_pos c4] at H
    have c4b0:=zdl c4
    clear c4
    by_cases c5:0≤x13_1
    rw [if_pos c5] at H
    have c5b0:=zdle c5
    clear c5
    by_cases c6:x13_1 < (l0.length:Int)
    rw [if_pos c6] at H
    have c6b0:=zdl c6
    clear c6
    by_cases c7:x13_1 < (l1.length:Int)
    rw [if_pos c7] at H
    have c7b0:=zdl c7
    clear c7
    by_cases c8:(rd l0 x13_1)=(rd l1 x13_1)
    rw [if_pos c8] at H
    have c8b0:=zbt c8
    have c8b1:=zqn c8
    clear c8
    have H':=zk H
    clear H
    have fin0_:=zk trivial
    rotate_left
    rw [if_neg c8] at H
    have c8b0:=zbn c8
    have c8b1:=zqt c8
    obtain rfl:=zi H
    have fin1_:=zk trivial
    rotate_left
    · rw [if_neg c7] at H
      exact absurd H (by simp)
    · rw [if_neg c6] at H
      exact absurd H (by simp)
    · rw [if_neg c5] at H
      exact absurd H (by simp)
    · rw [if_neg c4] at H
      have c4b0:=zdnl c4
      clear c4
      obtain rfl:=zi H
      go_wp2
      repeat (go_quiet (fail);try go_wp2)
      go_ret
      exact ⟨za13,za25⟩
    all_goals
     have p25001:0≤(x13_1:Int):=of_decide_eq_true za7
     have q25001:x13_1 < (l0.length:Int):=of_decide_eq_true za7
     obtain ⟨ad25001,e25001,hx25001_0⟩:=Kd.at_int HR0.out x13_1 p25001 q25001
     cases e25001
     replace p25001:=eq_true p25001
     replace q25001:=eq_true q25001
     have p25002:0≤(x13_1:Int):=of_decide_eq_true za7
     have q25002:x13_1 < (l1.length:Int):=of_decide_eq_true za7
     obtain ⟨ad25002,e25002,hx25002_0⟩:=Kd.at_int HR1.out x13_1 p25002 q25002
     cases e25002
     replace p25002:=eq_true p25002
     replace q25002:=eq_true q25002
     go_wp2
     repeat (go_quiet (fail);try go_wp2)
     first
     | (
       clear fin0_
       go_roundg k1
       case measure=>have:=HK1.out;omega
       case rel=>exact ⟨(wrap64 (x13_1+1)),za13,H',⟨za61⟩,za25⟩)
     | (
       clear fin1_
       go_ret
       exact ⟨za13,za25⟩)
 ·rw [if_neg c3] at H
  have c3b0:=zbn c3
  have c3b1:=zqt c3
  have c3b2:(l0.length == l1.length)=false:=by first|simpa using c3|(simp at c3 ⊢;omega)
  obtain rfl:=zi H
  go_enter Try.func25,Try.ntmps25
  go_wp2
  repeat (go_quiet (fail);try go_wp2)
  go_ret
  exact ⟨za13,za25⟩
def impl_LetterIndex.f (a0:Int):Option (Int):=(strings_IndexByte.f (⟨#[97,98,99]⟩:ByteArray) a0).bind fun t57001=>(some t57001)
theorem impl_LetterIndex.calls (a0:Int) (r:Int) (w:World) (h:impl_LetterIndex.f a0=some r) :
  Calls Try.prog 57 #[.int .u8 a0] w fun e w'=>e = .returned (.int .i64 r)∧Drawn0 w w':=by
 have H:=h
 unfold impl_LetterIndex.f at H
 clear h
 obtain ⟨t1,A2,H⟩:=zO H
 try dsimp only at H
 obtain rfl:=zi H
 go_enter Try.func57,Try.ntmps57
 go_wp2_with (first|((with_reducible refine gate_callee (f:=65) rfl ?_);refine zg (some 4) Try.func65 #[.string ⟨#[97,98,99]⟩,.int .u8 a0] rfl za4 ?_;(with_reducible refine (strings_IndexByte.calls (⟨#[97,98,99]⟩:ByteArray) a0 t1 _ A2.out).mono ?_);rintro e w' ⟨rfl,⟨nd,rfl⟩⟩;refine ⟨_,rfl,?_⟩))
 go_ret
 exact ⟨za13,za25⟩
def impl_isLetters.l0:Nat→ByteArray→Int→Option (Bool)
 | 0,_,_=>none
 | k+1,x0,x3=>if x3 < (x0.size:Int) then (if 0≤x3 then ((impl_LetterIndex.f (bt x0 x3)).bind fun t54001=>(if t54001 < 0 then (some false) else (impl_isLetters.l0 k x0 (wrap64 (x3+1))))) else (none)) else (some true)
def impl_isLetters.f (k:Nat) (a0:ByteArray):Option (Bool):=impl_isLetters.l0 k a0 0
theorem impl_isLetters.calls (k:Nat) (a0:ByteArray) (r:Bool) (w:World) (h:impl_isLetters.f k a0=some r) :
   Calls Try.prog 54 #[.string a0] w fun e w'=>e = .returned (.bool r)∧Drawn0 w w':=by
 have H:=h
 unfold impl_isLetters.f at H
 clear h
 have H':=zk H
 clear H
 go_enter Try.func54,Try.ntmps54
 go_wp2
 try simp only [Act.put,zt,zv,zu]
 go_loopg [3] k (fun kq v3 w'=>∃ (x3_1:Int),v3 = .int .i64 x3_1∧Aside0 (impl_isLetters.l0 kq a0 x3_1=some r)∧Aside0 (kq≤k)∧Drawn0 w w')
 case atStart=>exact ⟨(0),za13,H',⟨Nat.le_refl _⟩,za25⟩
 case round =>
  clear H'
  obtain ⟨x3_1,rfl,HA,HK1,⟨m1,rfl⟩⟩:=hrel
  cases gk with
  | zero=>exact absurd HA.out (by simp [impl_isLetters.l0])
  | succ k1 =>
   have H:=HA.out
   clear HA
   simp only [impl_isLetters.l0] at H
   by_cases c2:x3_1 < (a0.size:Int)
   rw [if_pos c2] at H
   have c2b0:=zdl c2
   clear c2
   by_cases c3:0≤x3_1
   rw [if_pos c3] at H
   have c3b0:=zdle c3
   clear c3
   obtain ⟨t1,A5,H⟩:=zO H
   try dsimp only at H
   by_cases c6:t1 < 0
   rw [if_pos c6] at H
   have c6b0:=zdl c6
   clear c6
   obtain rfl:=zi H
   have fin0_:=zk trivial
   rotate_left
   rw [if_neg c6] at H
   have c6b0:=zdnl c6
   clear c6
   have H':=zk H
   clear H
   have fin1_:=zk trivial
   rotate_left
   · rw [if_neg c3] at H
     exact absurd H (by simp)
   · rw [if_neg c2] at H
     have c2b0:=zdnl c2
     clear c2
     obtain rfl:=zi H
     go_wp2
     go_ret
     exact ⟨za13,za25⟩
   all_goals
    have p4:0≤(x3_1:Int):=of_decide_eq_true za7
    have q4:x3_1 < (a0.size:Int):=of_decide_eq_true za7
    have hx4:=bt_at a0 x3_1
    replace p4:=eq_true p4
    replace q4:=eq_true q4
    go_wp2_with (((with_reducible refine gate_callee (f:=57) rfl ?_);refine zg (some 13) Try.func57 #[.int .u8 (bt a0 x3_1)] rfl za4 ?_;(with_reducible refine (impl_LetterIndex.calls (bt a0 x3_1) t1 _ A5.out).mono ?_);rintro e w' ⟨rfl,⟨nd,rfl⟩⟩;refine ⟨_,rfl,?_⟩))
    first
    | (
      clear fin0_
      go_ret
      exact ⟨za13,za25⟩)
    | (
      clear fin1_
      go_roundg k1
      case measure=>have:=HK1.out;omega
      case rel=>exact ⟨(wrap64 (x3_1+1)),za13,H',⟨za61⟩,za25⟩)
def impl_IsWord.f (k:Nat) (a0:ByteArray):Option (Bool):=if (a0.size:Int)≤30 then ((impl_isLetters.f k a0).bind fun t32001=>(some t32001)) else (some false)
theorem impl_IsWord.calls (k:Nat) (a0:ByteArray) (r:Bool) (w:World) (h:impl_IsWord.f k a0=some r) :
   Calls Try.prog 32 #[.string a0] w fun e w'=>e = .returned (.bool r)∧Drawn0 w w':=by
 have H:=h
 unfold impl_IsWord.f at H
 clear h
 by_cases c2:(a0.size:Int)≤30
 rw [if_pos c2] at H
 have c2b0:=zdle c2
 have c2b1:decide (a0.size≤30)=true:=decide_eq_true (by omega)
 clear c2
 obtain ⟨t1,A3,H⟩:=zO H
 try dsimp only at H
 rotate_left
 rw [if_neg c2] at H
 have c2b0:=zdnle c2
 have c2b1:decide (a0.size≤30)=false:=decide_eq_false (by omega)
 clear c2
 rotate_left
 all_goals
  obtain rfl:=zi H
  go_enter Try.func32,Try.ntmps32
  go_wp2_with ((go_at_call 54;(with_reducible refine (impl_isLetters.calls k a0 t1 _ A3.out).mono ?_);rintro e w' ⟨rfl,⟨nd,rfl⟩⟩))
  go_ret
  exact ⟨za13,za25⟩
end Go.Proofs.Ythkbgoohiinmbaa.A
namespace Go.Proofs.Ythkbgoohiinmbaa.Pl
open Go.RowKit YthkbgoohiinmbaaW.PrintWords
def Evt {α:Type} (g:Nat→Option α) (r:α):Prop:=∃ K,∀ k,K≤k→g k=some r
section
variable {α β : Type}
theorem Evt.const {g:Option α} {r:α} (h:g=some r):Evt (fun _=>g) r:=⟨0,fun _ _=>h⟩
theorem Evt.ret (r:α):Evt (fun _=>some r) r:=Evt.const rfl
theorem Evt.bind {g:Nat→Option α} {f:Nat→α→Option β} {a:α} {r:β} (hg:Evt g a) (hf:Evt (fun k=>f k a) r):Evt (fun k=>(g k).bind (f k)) r:=by
 obtain ⟨K,hK⟩:=hg
 obtain ⟨L,hL⟩:=hf
 exact ⟨max K L,fun k hk=>by show (g k).bind (f k)=some r;rw [hK k (by omega)];exact hL k (by omega)⟩
theorem Evt.bindc {g:Option α} {f:Nat→α→Option β} {a:α} {r:β} (hg:g=some a) (hf:Evt (fun k=>f k a) r):Evt (fun k=>g.bind (f k)) r:=Evt.bind (Evt.const hg) hf
theorem Evt.step {g:Nat→Option α} {r:α} (h:Evt (fun k=>g (k+1)) r):Evt g r:=by
 obtain ⟨K,hK⟩:=h
 exact ⟨K+1,fun k hk=>by
  obtain ⟨m,rfl⟩:∃ m,k=m+1:=⟨k - 1,by omega⟩
  exact hK m (by omega)⟩
theorem Evt.pos {c:Prop} [Decidable c] {t e:Nat→Option α} {r:α} (h:c) (ht:Evt t r):Evt (fun k=>if c then t k else e k) r:=by
 obtain ⟨K,hK⟩:=ht
 exact ⟨K,fun k hk=>(if_pos h).trans (hK k hk)⟩
theorem Evt.neg {c:Prop} [Decidable c] {t e:Nat→Option α} {r:α} (h:¬ c) (ht:Evt e r):Evt (fun k=>if c then t k else e k) r:=by
 obtain ⟨K,hK⟩:=ht
 exact ⟨K,fun k hk=>(if_neg h).trans (hK k hk)⟩
theorem Evt.ite {c:Prop} [Decidable c] {t e:Nat→Option α} {x y:α} (ht:c→Evt t x) (he:¬ c→Evt e y):Evt (fun k=>if c then t k else e k) (if c then x else y):=by
 by_cases h:c
 ·rw [if_pos h];exact Evt.pos h (ht h)
 ·rw [if_neg h];exact Evt.neg h (he h)
theorem Evt.get {g:Nat→Option α} {r:α} (h:Evt g r):∃ k,g k=some r:=by
 obtain ⟨K,hK⟩:=h
 exact ⟨K,hK K (Nat.le_refl _)⟩
theorem Evt.cast {g:Nat→Option α} {r r':α} (h:Evt g r) (e:r=r'):Evt g r':=e ▸ h
theorem Evt.up (l:Nat→Int→Option α) (n:Nat) (R:Nat→α) (hend:Evt (fun k=>l k (n:Int)) (R n))
  (hstep:∀ i:Nat,i < n→Evt (fun k=>l k ((i+1:Nat):Int)) (R (i+1))→Evt (fun k=>l k (i:Int)) (R i)):Evt (fun k=>l k 0) (R 0):=by
 have h:∀ d i:Nat,i+d=n→Evt (fun k=>l k (i:Int)) (R i):=by
  intro d
  induction d with
  | zero =>
   intro i hi
   obtain rfl:i=n:=by omega
   exact hend
  | succ d ih =>
   intro i hi
   exact hstep i (by omega) (ih (i+1) (by omega))
 exact h n 0 (by omega)
end
theorem w64 {x:Int} (h : -9223372036854775808≤x) (h':x≤9223372036854775807):wrap64 x=x:=by unfold wrap64;omega
theorem w64s {i:Nat} (h:i < 9223372036854775807):wrap64 ((i:Int)+1)=((i+1:Nat):Int):=by
 rw [w64 (by omega) (by omega)];omega
theorem bt0 (s:ByteArray) (i:Int):0≤bt s i:=(bt_range s i).1
theorem bt255 (s:ByteArray) (i:Int):bt s i≤255:=(bt_range s i).2
theorem bt_get (s:ByteArray) (i:Nat) (h:i < (bytesOf s).length):bt s (i:Int)=(bytesOf s)[i]:=by
 rw [← rd_bytesOf]
 simp [rd,h]
theorem bytesOf_append (s t:ByteArray):bytesOf (s ++ t)=bytesOf s ++ bytesOf t:=by
 simp [bytesOf,ByteArray.data_append]
def ltI (c:Int):Int:=if 97=c then 0 else if 98=c then 1 else if 99=c then 2 else -1
theorem ix_abc:∀ n:Nat,n < 256→Lib.indexByte [97,98,99] n.toUInt8=ltI (n:Int):=by decide +kernel
theorem ltI_le (c:Int):ltI c≤2:=by
 unfold ltI
 repeat' split
 all_goals omega
theorem bt_abc0:bt (⟨#[97,98,99]⟩:ByteArray) 0=97:=by decide
theorem bt_abc1:bt (⟨#[97,98,99]⟩:ByteArray) 1=98:=by decide
theorem bt_abc2:bt (⟨#[97,98,99]⟩:ByteArray) 2=99:=by decide
theorem w64_a:wrap64 1=1:=by unfold wrap64;omega
theorem w64_b:wrap64 2=2:=by unfold wrap64;omega
theorem w64_c:wrap64 3=3:=by unfold wrap64;omega
theorem w64_1:wrap64 (0+1)=1:=by unfold wrap64;omega
theorem w64_2:wrap64 (1+1)=2:=by unfold wrap64;omega
end Go.Proofs.Ythkbgoohiinmbaa.Pl
namespace Go.Proofs.Ythkbgoohiinmbaa.F
open Go.RowKit YthkbgoohiinmbaaW.PrintWords Ythkbgoohiinmbaa.Pl Ythkbgoohiinmbaa.A
theorem rd_at (l:List Int) (i:Nat) (h:i < l.length):rd l (i:Int)=l[i]:=by simp [rd,h]
theorem l5Ints_ev (l l':List Int) (hl:l.length≤9223372036854775807):Evt (fun k=>spec_l5Ints.f k l l') (decide (l=l')):=by
 simp only [spec_l5Ints.f]
 by_cases he:l.length=l'.length
 ·refine Evt.pos (by omega) ?_
  have h:=Evt.up (fun k i=>spec_l5Ints.l0 k l l' i) l.length (fun i=>decide (l.drop i=l'.drop i)) ?_ ?_
  ·simpa using h
  ·refine Evt.step ?_
   simp only [spec_l5Ints.l0]
   refine Evt.neg (by omega) (Evt.const ?_)
   rw [List.drop_of_length_le (Nat.le_refl _),List.drop_of_length_le (by omega)]
   rfl
  ·intro i hi h
   refine Evt.step ?_
   simp only [spec_l5Ints.l0]
   have hi':i < l'.length:=by omega
   refine Evt.pos (by omega) (Evt.pos (by omega) (Evt.pos (by omega) ?_))
   rw [List.drop_eq_getElem_cons hi,List.drop_eq_getElem_cons hi',w64s (by omega),rd_at l i hi,rd_at l' i hi']
   by_cases hc:l[i]=l'[i]
   ·exact Evt.pos hc (h.cast (by rw [hc];simp only [List.cons.injEq,true_and]))
   ·exact Evt.neg hc (Evt.const (by rw [decide_eq_false (fun e=>hc (List.cons.inj e).1)]))
 ·refine Evt.neg (by omega) (Evt.const ?_)
  have:l ≠ l':=fun e=>he (by rw [e])
  simp [this]
theorem slEq_ev (l l':List Int) (hl:l.length≤9223372036854775807):Evt (fun k=>slices_Equal_int_int.f k l l') (decide (l=l')):=by
 simp only [slices_Equal_int_int.f]
 by_cases he:l.length=l'.length
 ·refine Evt.pos (by omega) ?_
  have h:=Evt.up (fun k i=>slices_Equal_int_int.l0 k l l' (l.length:Int) i) l.length (fun i=>decide (l.drop i=l'.drop i)) ?_ ?_
  ·simpa using h
  ·refine Evt.step ?_
   simp only [slices_Equal_int_int.l0]
   refine Evt.neg (by omega) (Evt.const ?_)
   rw [List.drop_of_length_le (Nat.le_refl _),List.drop_of_length_le (by omega)]
   rfl
  ·intro i hi h
   refine Evt.step ?_
   simp only [slices_Equal_int_int.l0]
   have hi':i < l'.length:=by omega
   refine Evt.pos (by omega) (Evt.pos (by omega) (Evt.pos (by omega) (Evt.pos (by omega) ?_)))
   rw [List.drop_eq_getElem_cons hi,List.drop_eq_getElem_cons hi',w64s (by omega),rd_at l i hi,rd_at l' i hi']
   by_cases hc:l[i]=l'[i]
   ·exact Evt.pos hc (h.cast (by rw [hc];simp only [List.cons.injEq,true_and]))
   ·exact Evt.neg hc (Evt.const (by rw [decide_eq_false (fun e=>hc (List.cons.inj e).1)]))
 ·refine Evt.neg (by omega) (Evt.const ?_)
  have:l ≠ l':=fun e=>he (by rw [e])
  simp [this]
end Go.Proofs.Ythkbgoohiinmbaa.F
namespace Go.Proofs.Ythkbgoohiinmbaa.Ext
open Go.RowKit YthkbgoohiinmbaaW.PrintWords YthkbgoohiinmbaaW.PrintLast
theorem at_rows {e_:Nat} {k:IntKind} {w:World} {A:Option Addr} {n:Nat} {xs:List (List Int)} (h:Kd.C (Kd.slice e_ (Kd.int k)) w A n xs) (i:Int) (h0:0≤i) (h1:i < n) :
  ∃ ad A' c' row,A=some ad∧w.cell? (ad.add i.toNat)=some (.slice A' row.length c')∧row.length≤c'∧Kd.C (Kd.int k) w A' row.length row∧Aside0 (xs.getD i.toNat []=row):=by
 obtain ⟨ad,c,e,_,hK,hc⟩:=Kd.C_get h [] i h0 h1
 obtain ⟨A0,c0,rfl,l0,g0⟩:=hK
 exact ⟨ad,A0,c0,_,e,by have hq:=hc 0 _ rfl;rwa [show (Kd.slice e_ (Kd.int k)).sz=1 from rfl,Nat.mul_one,Nat.add_zero] at hq,l0,g0,⟨rfl⟩⟩
end Go.Proofs.Ythkbgoohiinmbaa.Ext
namespace Go.Proofs.Ythkbgoohiinmbaa.Ext
open Go.RowKit YthkbgoohiinmbaaW.PrintWords YthkbgoohiinmbaaW.PrintLast Ythkbgoohiinmbaa.A Ythkbgoohiinmbaa.F Ythkbgoohiinmbaa.Pl
set_option maxHeartbeats 1000000 in
theorem rows_clo (A B:Option Addr) (c d:Nat) (xs ys:List Int) (r:Bool) (w:World) (hx:Kd.C (Kd.int .i64) w A xs.length xs) (hc:xs.length≤c) (hy:Kd.C (Kd.int .i64) w B ys.length ys) (hd:ys.length≤d) (hr:decide (xs=ys)=r) :
  Calls Try.prog 53 #[.slice A xs.length c,.slice B ys.length d] w fun e w'=>e = .returned (.bool r)∧Drawn0 w w':=by
 obtain ⟨k,hk⟩:=Evt.get ((slEq_ev xs ys hx.2.1).cast hr)
 have HK:=zk hk
 have HX:=zk hx
 have HC:=zk hc
 have HY:=zk hy
 have HD:=zk hd
 clear hk hx hc hy hd hr
 go_enter Try.func53,Try.ntmps53
 go_wp2_with (go_at_call 25;refine (slices_Equal_int_int.calls k _ _ xs _ _ ys _ _ HX.out HC.out HY.out HD.out HK.out).mono ?_;rintro e w' ⟨rfl,⟨nd,rfl⟩⟩)
 go_ret
 exact ⟨rfl,Drawn0.step (Drawn0.refl _) _⟩
theorem take_next {α:Type} [DecidableEq α] {xs ys:List α} (z:α) {i:Nat} (hi:i < xs.length) (hi':i < ys.length) (h:xs.take i=ys.take i):(xs.take (i+1)=ys.take (i+1)) ↔ xs.getD i z=ys.getD i z:=by
 have e1:=List.take_succ_eq_append_getElem hi
 have e2:=List.take_succ_eq_append_getElem hi'
 rw [e1,e2,h,List.append_right_inj]
 simp [List.getD,hi,hi']
-- EXT loop.example/g582/impl.equalRows
def impl_equalRows.f (xs ys:List (List Int)):Option Bool:=some (decide (xs=ys))
set_option maxHeartbeats 4000000 in
theorem rows_func (A B:Option Addr) (c d:Nat) (xs ys:List (List Int)) (w:World) (hx:Kd.C (Kd.slice 3 (Kd.int .i64)) w A xs.length xs) (hy:Kd.C (Kd.slice 3 (Kd.int .i64)) w B ys.length ys) :
  Calls Try.prog 52 #[.slice A xs.length c,.slice B ys.length d,.func (.func 53) #[] #[]] w fun e w'=>e = .returned (.bool (decide (xs=ys)))∧Drawn0 w w':=by
 have eg:=enters_of Try.func53 (by kernel_rfl) rfl
 have HM:=zk hx.2.1
 have HX:=zk hx
 have HY:=zk hy
 clear hx hy
 by_cases hl:xs.length=ys.length
 ·have c3b0:((xs.length:Int) == (ys.length:Int))=true:=by rw [hl];exact beq_self_eq_true _
  have c3b1:((xs.length:Int) != (ys.length:Int))=false:=by rw [hl];exact bne_self_eq_false _
  have c3b2:(xs.length == ys.length)=true:=by rw [hl];exact beq_self_eq_true _
  have HL:=zk hl
  clear hl
  go_enter Try.func52,Try.ntmps52
  go_wp2
  go_loopg [17] xs.length (fun gk v wr=>∃ (x:Int),v = .int .i64 x∧Aside0 (0≤x)∧Aside0 (x≤xs.length)∧Aside0 ((xs.length:Int) - x≤gk)∧Aside0 (xs.take x.toNat=ys.take x.toNat)∧Drawn0 w wr)
  case atStart=>exact ⟨0,rfl,⟨by omega⟩,⟨by omega⟩,⟨by omega⟩,⟨by simp⟩,za25⟩
  case round =>
   try clear c3b0
   try clear c3b1
   try clear c3b2
   obtain ⟨x,rfl,H0,H1,HG,HT,⟨m1,rfl⟩⟩:=hrel
   by_cases hlt:x < (xs.length:Int)
   ·have c4b0:decide (x < (xs.length:Int))=true:=decide_eq_true hlt
    have hlt2:x < (ys.length:Int):=by have:=HL.out;omega
    obtain ⟨ad,A1,c1,rx,rfl,hx1,hl1,hi1,ERX⟩:=at_rows HX.out x H0.out hlt
    obtain ⟨bd,B1,d1,ry,rfl,hy1,hm1,hj1,ERY⟩:=at_rows HY.out x H0.out hlt2
    have HI:=zk hi1
    have HJ:=zk hj1
    have HLI:=zk hl1
    have HLJ:=zk hm1
    have hx0:=H0.out
    clear hi1 hj1 hl1 hm1
    by_cases hq:rx=ry
    ·have HQ:=zk (show decide (rx=ry)=true from decide_eq_true hq)
     have HN:=zk ((take_next [] (i:=x.toNat) (by omega) (by omega) HT.out).2 (ERX.out.trans (hq.trans ERY.out.symm)))
     have P4:=zk hlt
     have p4:=eq_true hx0
     have q4:=eq_true hlt
     have q5:=eq_true hlt2
     clear hq hlt hlt2 hx0
     go_wp2_with (go_at_call 53;refine (rows_clo _ _ _ _ rx ry true _ ?s1 HLI.out ?s2 HLJ.out HQ.out).mono ?_;(case s1=>repeat (first|(with_reducible exact HI.out)|(with_reducible refine Kd.C_drewN ?_ _)|(with_reducible refine Kd.C_drew ?_)));(case s2=>repeat (first|(with_reducible exact HJ.out)|(with_reducible refine Kd.C_drewN ?_ _)|(with_reducible refine Kd.C_drew ?_)));rintro e w' ⟨rfl,⟨nd,rfl⟩⟩)
     have hw:wrap64 (x+1)=x+1:=by have:=P4.out;have:=H0.out;have:=HM.out;unfold wrap64;omega
     go_roundg (gk - 1)
     case measure=>have:=HG.out;have:=P4.out;omega
     case rel=>exact ⟨wrap64 (x+1),za13,⟨by rw [hw];have:=H0.out;omega⟩,⟨by rw [hw];have:=P4.out;omega⟩,⟨by rw [hw];have:=HG.out;omega⟩,⟨by rw [hw,show (x+1).toNat=x.toNat+1 by have:=H0.out;omega];exact HN.out⟩,za25⟩
    ·have HQ:=zk (show decide (rx=ry)=false from decide_eq_false hq)
     have hne:decide (xs=ys)=false:=decide_eq_false (fun e=>hq (ERX.out.symm.trans ((by rw [e]):xs.getD x.toNat []=ys.getD x.toNat []) |>.trans ERY.out))
     have HNE:=zk hne
     have p4:=eq_true hx0
     have q4:=eq_true hlt
     have q5:=eq_true hlt2
     clear hq hlt hlt2 hx0 hne
     go_wp2_with (go_at_call 53;refine (rows_clo _ _ _ _ rx ry false _ ?s1 HLI.out ?s2 HLJ.out HQ.out).mono ?_;(case s1=>repeat (first|(with_reducible exact HI.out)|(with_reducible refine Kd.C_drewN ?_ _)|(with_reducible refine Kd.C_drew ?_)));(case s2=>repeat (first|(with_reducible exact HJ.out)|(with_reducible refine Kd.C_drewN ?_ _)|(with_reducible refine Kd.C_drew ?_)));rintro e w' ⟨rfl,⟨nd,rfl⟩⟩)
     go_ret
     exact ⟨congrArg (fun b=>Ending.returned (Value.bool b)) HNE.out.symm,za25⟩
   ·have c4b0:decide (x < (xs.length:Int))=false:=decide_eq_false hlt
    have hx:x=xs.length:=by have:=H1.out;omega
    have he:decide (xs=ys)=true:=by
     have h:=HT.out
     rw [List.take_of_length_le (by omega),List.take_of_length_le (by have:=HL.out;omega)] at h
     exact decide_eq_true h
    have HE:=zk he
    clear he hx hlt
    go_wp2
    go_ret
    exact ⟨congrArg (fun b=>Ending.returned (Value.bool b)) HE.out.symm,za25⟩
 ·have c3b0:((xs.length:Int) == (ys.length:Int))=false:=beq_eq_false_iff_ne.mpr (by omega)
  have c3b1:((xs.length:Int) != (ys.length:Int))=true:=bne_iff_ne.mpr (by omega)
  have c3b2:(xs.length == ys.length)=false:=beq_eq_false_iff_ne.mpr hl
  have HE:=zk (show decide (xs=ys)=false from decide_eq_false (fun e=>hl (by rw [e])))
  clear hl
  go_enter Try.func52,Try.ntmps52
  go_wp2
  go_ret
  exact ⟨congrArg (fun b=>Ending.returned (Value.bool b)) HE.out.symm,za25⟩
set_option maxHeartbeats 1000000 in
theorem impl_equalRows.calls (A0:Option Addr) (c0:Nat) (l0:List (List Int)) (A1:Option Addr) (c1:Nat) (l1:List (List Int)) (r:Bool) (w:World) (hr0:Kd.C (Kd.slice 3 (Kd.int .i64)) w A0 l0.length l0) (hc0:l0.length≤c0) (hr1:Kd.C (Kd.slice 3 (Kd.int .i64)) w A1 l1.length l1) (hc1:l1.length≤c1) (h:impl_equalRows.f l0 l1=some r) :
  Calls Try.prog 30 #[.slice A0 l0.length c0,.slice A1 l1.length c1] w fun e w'=>e = .returned (.bool r)∧Drawn0 w w':=by
 obtain rfl:=zi h
 have H0:=zk hr0
 have H1:=zk hr1
 clear hr0 hc0 hr1 hc1 h
 go_enter Try.func30,Try.ntmps30
 go_wp2_with (go_at_call 52;refine (rows_func _ _ _ _ l0 l1 _ H0.out H1.out).mono ?_;rintro e w' ⟨rfl,⟨nd,rfl⟩⟩)
 go_ret
 exact ⟨rfl,za25⟩
end Go.Proofs.Ythkbgoohiinmbaa.Ext
