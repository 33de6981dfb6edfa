/- FnMoves: what its proof needs, put together by this session's program wip/merge.py out of the texts that wip/xp.py printed and of this session's own. -/
import Derived.Test.YtgajchjnljekgaaQFnMoves5
import Derived.Test.YtgajchjnljekgaaProg
import Derived.Shelf.Abstract
import Derived.Deep.LoopGhost
import Derived.Deep.QuietTactic
import Derived.BigQuiet
import Derived.Below
set_option linter.unusedVariables false
set_option linter.unusedSimpArgs false
set_option linter.unusedSectionVars false
set_option maxHeartbeats 8000000
set_option maxRecDepth 100000
namespace Go.Proofs.Ytgajchjnljekgaa.A
open Go.RowKit Ytgajchjnljekgaa.Ext YtgajchjnljekgaaW.PrintWords YtgajchjnljekgaaW.PrintLast YtgajchjnljekgaaW.PrintMore
attribute [local go_sem] max2_int min2_int max_two min_two max_three min_three max_four min_four
mutual
def impl_IsValidConstraint.j0:Nat→Bool→Int→ByteArray→ByteArray→Int→ByteArray→List (S58)→List Int→Int→Option (Bool)
 | 0,_,_,_,_,_,_,_,_,_=>none
 | k+1,x16,x56002000,x56002001,x56002002,x56002003,x56002004,x56002005,x56002006,x56002007=>if x16=true then (some false) else (if x56002000=1 then (impl_IsValidConstraint.j1 k x56002000 (x56002000 == 1) x56002000 x56002001 x56002002 x56002003 x56002004 x56002005 x56002006 x56002007) else (impl_IsValidConstraint.j1 k x56002000 (x56002000 == 2) x56002000 x56002001 x56002002 x56002003 x56002004 x56002005 x56002006 x56002007))
def impl_IsValidConstraint.j1:Nat→Int→Bool→Int→ByteArray→ByteArray→Int→ByteArray→List (S58)→List Int→Int→Option (Bool)
 | 0,_,_,_,_,_,_,_,_,_,_=>none
 | k+1,x18,x19,x56002000,x56002001,x56002002,x56002003,x56002004,x56002005,x56002006,x56002007=>if x19=true then ((impl_IsTerm.f k x56002001).bind fun t56002=>(if t56002=true then ((impl_IsTerm.f k x56002002).bind fun t56003=>(if t56003=true then ((impl_isZeroRegex.f x56002003 x56002004 x56002005).bind fun t56004=>(some t56004)) else (some false))) else (some false))) else (if x18=3 then (impl_IsValidConstraint.j2 k x18 (x18 == 3) x56002000 x56002001 x56002002 x56002003 x56002004 x56002005 x56002006 x56002007) else (impl_IsValidConstraint.j2 k x18 (x18 == 4) x56002000 x56002001 x56002002 x56002003 x56002004 x56002005 x56002006 x56002007))
def impl_IsValidConstraint.j2:Nat→Int→Bool→Int→ByteArray→ByteArray→Int→ByteArray→List (S58)→List Int→Int→Option (Bool)
 | 0,_,_,_,_,_,_,_,_,_,_=>none
 | k+1,x18,x35,x56002000,x56002001,x56002002,x56002003,x56002004,x56002005,x56002006,x56002007=>if x35=true then ((impl_IsTerm.f k x56002001).bind fun t56005=>(if t56005=true then (if x56002002.toList=([]:List UInt8) then ((impl_IsValidRegex.f k x56002003 x56002004 x56002005).bind fun t56006=>(some t56006)) else (some false)) else (some false))) else (if x18=5 then (if x56002001.toList=([]:List UInt8) then (if x56002002.toList=([]:List UInt8) then ((impl_isZeroRegex.f x56002003 x56002004 x56002005).bind fun t56007=>(if t56007=true then (if (x56002006.length:Int)=3 then ((impl_within.f x56002007 (-99) 99).bind fun t56008=>(if t56008=true then ((slices_ContainsFunc_int_int.f k x56002006).bind fun t56009=>(some (!t56009))) else (some false))) else (some false)) else (some false))) else (some false)) else (some false)) else (some false))
end
def impl_IsValidConstraint.f (k:Nat) (a0_0:Int) (a0_1:ByteArray) (a0_2:ByteArray) (a0_3:Int) (a0_4:ByteArray) (l0_5:List (S58)) (l0_6:List Int) (a0_7:Int):Option (Bool):=if a0_0=5 then (impl_IsValidConstraint.j0 k false a0_0 a0_1 a0_2 a0_3 a0_4 l0_5 l0_6 a0_7) else (if (l0_6.length:Int)=0 then (impl_IsValidConstraint.j0 k (a0_7 != 0) a0_0 a0_1 a0_2 a0_3 a0_4 l0_5 l0_6 a0_7) else (impl_IsValidConstraint.j0 k true a0_0 a0_1 a0_2 a0_3 a0_4 l0_5 l0_6 a0_7))
theorem impl_IsValidConstraint.calls (k:Nat) (a0_0:Int) (a0_1:ByteArray) (a0_2:ByteArray) (a0_3:Int) (a0_4:ByteArray) (A0_5:Option Addr) (c0_5:Nat) (l0_5:List (S58)) (A0_6:Option Addr) (c0_6:Nat) (l0_6:List Int) (a0_7:Int) (r:Bool) (w:World) (hr0_5:Kd.C k58 w A0_5 l0_5.length l0_5) (hc0_5:l0_5.length≤c0_5) (hr0_6:Kd.C (Kd.int .i64) w A0_6 l0_6.length l0_6) (hc0_6:l0_6.length≤c0_6) (h:impl_IsValidConstraint.f k a0_0 a0_1 a0_2 a0_3 a0_4 l0_5 l0_6 a0_7=some r) :
   Calls Try.prog 56 #[.agg #[.int .i64 a0_0,.string a0_1,.string a0_2,.int .i64 a0_3,.string a0_4,.slice A0_5 l0_5.length c0_5,.slice A0_6 l0_6.length c0_6,.int .i64 a0_7]] w fun e w'=>e = .returned (.bool r)∧Below w.heap.size w w':=by
 have hu61:=Try.underlying61
 have hu58:=Try.underlying58
 have HR0_5:=zk hr0_5
 have HC0_5:=zk hc0_5
 clear hr0_5 hc0_5
 have HR0_6:=zk hr0_6
 have HC0_6:=zk hc0_6
 clear hr0_6 hc0_6
 have HB:=zk (Below.refl w.heap.size w)
 have H:=h
 unfold impl_IsValidConstraint.f at H
 clear h
 have HC2:=zk H
 clear H
 go_enter Try.func56,Try.ntmps56
 go_upto_region 1 with (first|((with_reducible refine gate_dst (N:=1) rfl ?_);(try (refine gate_guard (by rfl) ?_;dsimp only));refine zE (N:=1) (cs:=#[.int .i64 a0_0,.string a0_1,.string a0_2,.int .i64 a0_3,.string a0_4,.slice A0_5 l0_5.length c0_5,.slice A0_6 l0_6.length c0_6,.int .i64 a0_7]) (t:=61) ?_;intro gb56001 hg w3 hbox hb;have BK56001:=zk (hbox);have GW56001:=zk (zs (w:=w) hg za3);have GE56001:=zk (zs (w:=w) hg za3);replace HB:=zk (below_step za3 hb);clear hb hbox hg))
 (try simp only [Act.put,zt,zu,zv])
 go_cut [16] (fun v16 wc=>∃ (kq:Nat) (x16_1:Bool),v16 = .bool x16_1∧Aside0 (impl_IsValidConstraint.j0 kq x16_1 a0_0 a0_1 a0_2 a0_3 a0_4 l0_5 l0_6 a0_7=some r)∧Aside0 (kq≤k)∧Aside0 (wc.heap[gb56001]? = some (.cells #[.int .i64 a0_0,.string a0_1,.string a0_2,.int .i64 a0_3,.string a0_4,(.slice A0_5 l0_5.length c0_5),(.slice A0_6 l0_6.length c0_6),.int .i64 a0_7] 61 (0,0)))∧Aside0 (Below w.heap.size w wc))
 case first =>
  have H:=HC2.out
  clear HC2
  by_cases c4:a0_0=5
  · rw [if_pos c4] at H
    have c4b0:=zbt c4
    have c4b1:=zqn c4
    clear c4
    (first|rw [c4b0]|(simp only [i64_w,i32_w];rw [c4b0])|skip)
    have H':=zk H
    clear H
    obtain ⟨hcz5_0,hcz5_1,hcz5_2,hcz5_3,hcz5_4,hcz5_5,hcz5_6,hcz5_7,hfz5_0,hfz5_1,hfz5_2,hfz5_3,hfz5_4,hfz5_5,hfz5_6,hfz5_7⟩:=blk8 BK56001.out
    go_wp2
    go_meet
    case rel=>exact ⟨_,(false),za8,H',⟨za63⟩,⟨za1 BK56001.out⟩,⟨za3⟩⟩
  rw [if_neg c4] at H
  have c4b0:=zbn c4
  have c4b1:=zqt c4
  (first|rw [c4b0]|(simp only [i64_w,i32_w];rw [c4b0])|skip)
  by_cases c6:(l0_6.length:Int)=0
  · rw [if_pos c6] at H
    have c6b0:=zbt c6
    have c6b1:=zqn c6
    clear c6
    have H':=zk H
    clear H
    obtain ⟨hcz7_0,hcz7_1,hcz7_2,hcz7_3,hcz7_4,hcz7_5,hcz7_6,hcz7_7,hfz7_0,hfz7_1,hfz7_2,hfz7_3,hfz7_4,hfz7_5,hfz7_6,hfz7_7⟩:=blk8 BK56001.out
    go_wp2
    go_meet
    case rel=>exact ⟨_,((a0_7 != 0)),za8,H',⟨za63⟩,⟨za1 BK56001.out⟩,⟨za3⟩⟩
  · rw [if_neg c6] at H
    have c6b0:=zbn c6
    have c6b1:=zqt c6
    have c6b2:¬ (l0_6 = []):=fun h_=>c6 (by rw [h_];rfl)
    have H':=zk H
    clear H
    obtain ⟨hcz8_0,hcz8_1,hcz8_2,hcz8_3,hcz8_4,hcz8_5,hcz8_6,hcz8_7,hfz8_0,hfz8_1,hfz8_2,hfz8_3,hfz8_4,hfz8_5,hfz8_6,hfz8_7⟩:=blk8 BK56001.out
    go_wp2
    go_meet
    case rel=>exact ⟨_,(true),za8,H',⟨za63⟩,⟨za1 BK56001.out⟩,⟨za3⟩⟩
 case rest =>
  clear HC2
  obtain ⟨kq,x16_1,rfl,HA,HJ1,BK56001,HB⟩:=hcut
  cases kq with
  | zero=>exact absurd HA.out (by simp [impl_IsValidConstraint.j0])
  | succ kj1 =>
   have H:=HA.out
   clear HA
   simp only [impl_IsValidConstraint.j0] at H
   by_cases c9:x16_1=true
   · subst c9
     rw [if_pos rfl] at H
     try dsimp only at H
     obtain rfl:=zi H
     go_wp2
     go_ret
     exact ⟨za9,za3⟩
   · replace c9:=Bool.eq_false_iff.mpr c9
     subst c9
     rw [if_neg (show ¬ (false=true) by decide)] at H
     try dsimp only at H
     have HC10:=zk H
     clear H
     obtain ⟨hcz11_0,hcz11_1,hcz11_2,hcz11_3,hcz11_4,hcz11_5,hcz11_6,hcz11_7,hfz11_0,hfz11_1,hfz11_2,hfz11_3,hfz11_4,hfz11_5,hfz11_6,hfz11_7⟩:=blk8 BK56001.out
     go_upto_if 19 with (fail)
     go_cut [19] (fun v19 wc=>∃ (kq:Nat) (x19_9:Bool),v19 = .bool x19_9∧Aside0 (impl_IsValidConstraint.j1 kq a0_0 x19_9 a0_0 a0_1 a0_2 a0_3 a0_4 l0_5 l0_6 a0_7=some r)∧Aside0 (kq≤kj1)∧Aside0 (wc.heap[gb56001]? = some (.cells #[.int .i64 a0_0,.string a0_1,.string a0_2,.int .i64 a0_3,.string a0_4,(.slice A0_5 l0_5.length c0_5),(.slice A0_6 l0_6.length c0_6),.int .i64 a0_7] 61 (0,0)))∧Aside0 (Below w.heap.size w wc))
     case first =>
      have H:=HC10.out
      clear HC10
      by_cases c12:a0_0=1
      · rw [if_pos c12] at H
        have c12b0:=zbt c12
        have c12b1:=zqn c12
        clear c12
        (first|rw [c12b0]|(simp only [i64_w,i32_w];rw [c12b0])|skip)
        have H':=zk H
        clear H
        go_wp2
        go_meet
        case rel=>exact ⟨_,((a0_0 == 1)),za8,H',⟨za100⟩,⟨za1 BK56001.out⟩,⟨za3⟩⟩
      · rw [if_neg c12] at H
        have c12b0:=zbn c12
        have c12b1:=zqt c12
        (first|rw [c12b0]|(simp only [i64_w,i32_w];rw [c12b0])|skip)
        have H':=zk H
        clear H
        go_wp2
        go_meet
        case rel=>exact ⟨_,((a0_0 == 2)),za8,H',⟨za100⟩,⟨za1 BK56001.out⟩,⟨za3⟩⟩
     case rest =>
      clear HC10
      try clear c9
      try clear hcz11_0
      try clear hcz11_1
      try clear hcz11_2
      try clear hcz11_3
      try clear hcz11_4
      try clear hcz11_5
      try clear hcz11_6
      try clear hcz11_7
      try clear hfz11_0
      try clear hfz11_1
      try clear hfz11_2
      try clear hfz11_3
      try clear hfz11_4
      try clear hfz11_5
      try clear hfz11_6
      try clear hfz11_7
      obtain ⟨kq,x19_9,rfl,HA,HJ9,BK56001,HB⟩:=hcut
      cases kq with
      | zero=>exact absurd HA.out (by simp [impl_IsValidConstraint.j1])
      | succ kj9 =>
       have H:=HA.out
       clear HA
       simp only [impl_IsValidConstraint.j1] at H
       by_cases c13:x19_9=true
       subst c13
       rw [if_pos rfl] at H
       try dsimp only at H
       replace H:=zo H
       obtain ⟨t56002,A140,H⟩:=H
       try dsimp only at H
       have A14:=zk A140
       clear A140
       by_cases c15:t56002=true
       subst c15
       rw [if_pos rfl] at H
       try dsimp only at H
       replace H:=zo H
       obtain ⟨t56003,A160,H⟩:=H
       try dsimp only at H
       have A16:=zk A160
       clear A160
       by_cases c17:t56003=true
       subst c17
       rw [if_pos rfl] at H
       try dsimp only at H
       replace H:=zo H
       obtain ⟨t56004,A180,H⟩:=H
       try dsimp only at H
       have A18:=zk A180
       clear A180
       rotate_left
       replace c17:=Bool.eq_false_iff.mpr c17
       subst c17
       rw [if_neg (show ¬ (false=true) by decide)] at H
       try dsimp only at H
       rotate_left
       replace c15:=Bool.eq_false_iff.mpr c15
       subst c15
       rw [if_neg (show ¬ (false=true) by decide)] at H
       try dsimp only at H
       rotate_left
       · replace c13:=Bool.eq_false_iff.mpr c13
         subst c13
         rw [if_neg (show ¬ (false=true) by decide)] at H
         try dsimp only at H
         have HC23:=zk H
         clear H
         go_upto_if 35 with (fail)
         go_cut [35] (fun v35 wc=>∃ (kq:Nat) (x35_22:Bool),v35 = .bool x35_22∧Aside0 (impl_IsValidConstraint.j2 kq a0_0 x35_22 a0_0 a0_1 a0_2 a0_3 a0_4 l0_5 l0_6 a0_7=some r)∧Aside0 (kq≤kj9)∧Aside0 (wc.heap[gb56001]? = some (.cells #[.int .i64 a0_0,.string a0_1,.string a0_2,.int .i64 a0_3,.string a0_4,(.slice A0_5 l0_5.length c0_5),(.slice A0_6 l0_6.length c0_6),.int .i64 a0_7] 61 (0,0)))∧Aside0 (Below w.heap.size w wc))
         case first =>
          have H:=HC23.out
          clear HC23
          by_cases c24:a0_0=3
          · rw [if_pos c24] at H
            have c24b0:=zbt c24
            have c24b1:=zqn c24
            clear c24
            (first|rw [c24b0]|(simp only [i64_w,i32_w];rw [c24b0])|skip)
            have H':=zk H
            clear H
            go_wp2
            go_meet
            case rel=>exact ⟨_,((a0_0 == 3)),za8,H',⟨by have:=HJ1.out;have:=HJ9.out;first|omega|exact Nat.le_refl _⟩,⟨za1 BK56001.out⟩,⟨za3⟩⟩
          · rw [if_neg c24] at H
            have c24b0:=zbn c24
            have c24b1:=zqt c24
            (first|rw [c24b0]|(simp only [i64_w,i32_w];rw [c24b0])|skip)
            have H':=zk H
            clear H
            go_wp2
            go_meet
            case rel=>exact ⟨_,((a0_0 == 4)),za8,H',⟨by have:=HJ1.out;have:=HJ9.out;first|omega|exact Nat.le_refl _⟩,⟨za1 BK56001.out⟩,⟨za3⟩⟩
         case rest =>
          clear HC23
          try clear c9
          try clear c13
          try clear hcz11_0
          try clear hcz11_1
          try clear hcz11_2
          try clear hcz11_3
          try clear hcz11_4
          try clear hcz11_5
          try clear hcz11_6
          try clear hcz11_7
          try clear hfz11_0
          try clear hfz11_1
          try clear hfz11_2
          try clear hfz11_3
          try clear hfz11_4
          try clear hfz11_5
          try clear hfz11_6
          try clear hfz11_7
          obtain ⟨kq,x35_22,rfl,HA,HJ22,BK56001,HB⟩:=hcut
          cases kq with
          | zero=>exact absurd HA.out (by simp [impl_IsValidConstraint.j2])
          | succ kj22 =>
           have H:=HA.out
           clear HA
           simp only [impl_IsValidConstraint.j2] at H
           by_cases c25:x35_22=true
           subst c25
           rw [if_pos rfl] at H
           try dsimp only at H
           replace H:=zo H
           obtain ⟨t56005,A260,H⟩:=H
           try dsimp only at H
           have A26:=zk A260
           clear A260
           by_cases c27:t56005=true
           subst c27
           rw [if_pos rfl] at H
           try dsimp only at H
           by_cases c28:a0_2.toList=([]:List UInt8)
           rw [if_pos c28] at H
           have c28b0:=zbt c28
           have c28b1:=zqn c28
           clear c28
           replace H:=zo H
           obtain ⟨t56006,A290,H⟩:=H
           try dsimp only at H
           have A29:=zk A290
           clear A290
           rotate_left
           rw [if_neg c28] at H
           have c28b0:=zbn c28
           have c28b1:=zqt c28
           rotate_left
           replace c27:=Bool.eq_false_iff.mpr c27
           subst c27
           rw [if_neg (show ¬ (false=true) by decide)] at H
           try dsimp only at H
           rotate_left
           replace c25:=Bool.eq_false_iff.mpr c25
           subst c25
           rw [if_neg (show ¬ (false=true) by decide)] at H
           try dsimp only at H
           by_cases c34:a0_0=5
           rw [if_pos c34] at H
           have c34b0:=zbt c34
           have c34b1:=zqn c34
           clear c34
           by_cases c35:a0_1.toList=([]:List UInt8)
           rw [if_pos c35] at H
           have c35b0:=zbt c35
           have c35b1:=zqn c35
           clear c35
           by_cases c36:a0_2.toList=([]:List UInt8)
           rw [if_pos c36] at H
           have c36b0:=zbt c36
           have c36b1:=zqn c36
           clear c36
           replace H:=zo H
           obtain ⟨t56007,A370,H⟩:=H
           try dsimp only at H
           have A37:=zk A370
           clear A370
           by_cases c38:t56007=true
           subst c38
           rw [if_pos rfl] at H
           try dsimp only at H
           by_cases c39:(l0_6.length:Int)=3
           rw [if_pos c39] at H
           have c39b0:=zbt c39
           have c39b1:=zqn c39
           clear c39
           replace H:=zo H
           obtain ⟨t56008,A400,H⟩:=H
           try dsimp only at H
           have A40:=zk A400
           clear A400
           by_cases c41:t56008=true
           subst c41
           rw [if_pos rfl] at H
           try dsimp only at H
           replace H:=zo H
           obtain ⟨t56009,A420,H⟩:=H
           try dsimp only at H
           have A42:=zk A420
           clear A420
           rotate_left
           replace c41:=Bool.eq_false_iff.mpr c41
           subst c41
           rw [if_neg (show ¬ (false=true) by decide)] at H
           try dsimp only at H
           rotate_left
           rw [if_neg c39] at H
           have c39b0:=zbn c39
           have c39b1:=zqt c39
           rotate_left
           replace c38:=Bool.eq_false_iff.mpr c38
           subst c38
           rw [if_neg (show ¬ (false=true) by decide)] at H
           try dsimp only at H
           rotate_left
           rw [if_neg c36] at H
           have c36b0:=zbn c36
           have c36b1:=zqt c36
           rotate_left
           rw [if_neg c35] at H
           have c35b0:=zbn c35
           have c35b1:=zqt c35
           rotate_left
           · rw [if_neg c34] at H
             have c34b0:=zbn c34
             have c34b1:=zqt c34
             obtain rfl:=zi H
             go_wp2
             go_ret
             exact ⟨za9,za3⟩
           all_goals
            obtain rfl:=zi H
            obtain ⟨hcz43_0,hcz43_1,hcz43_2,hcz43_3,hcz43_4,hcz43_5,hcz43_6,hcz43_7,hfz43_0,hfz43_1,hfz43_2,hfz43_3,hfz43_4,hfz43_5,hfz43_6,hfz43_7⟩:=blk8 BK56001.out
            go_wp2_with (first|(go_at_call 66;(with_reducible refine (impl_isZeroRegex.calls a0_3 a0_4 _ _ l0_5 _ _ ?side1 ?side2 A37.out).mono ?_);(case side1=>repeat (first|exact (Kd.C_below HR0_5.out HB.out)|(with_reducible refine Kd.C_alloc ?_ _)|(with_reducible refine Kd.C_drewN ?_ _)|(with_reducible refine Kd.C_drew ?_)));(case side2=>exact HC0_5.out);rintro e w44 ⟨rfl,hb⟩;replace BK56001:=zk (zb BK56001.out hb);replace HB:=zk (below_step za3 hb);(try clear hb);(try clear hb2);(try clear hk);(try clear hi);obtain ⟨hcz45_0,hcz45_1,hcz45_2,hcz45_3,hcz45_4,hcz45_5,hcz45_6,hcz45_7,hfz45_0,hfz45_1,hfz45_2,hfz45_3,hfz45_4,hfz45_5,hfz45_6,hfz45_7⟩:=blk8 BK56001.out)|(go_at_call 68;(with_reducible refine (impl_within.calls a0_7 (-99) 99 _ _ A40.out).mono ?_);rintro e w' ⟨rfl,⟨nd,rfl⟩⟩)|((with_reducible refine gate_callee (f:=69) rfl ?_);refine goesL_ (some 81) rfl rfl Try.func69 (by kernel_rfl) rfl #[.slice A0_6 l0_6.length c0_6,.func (.func 70) #[] #[]] rfl za4 ?_;(with_reducible refine (slices_ContainsFunc_int_int.calls kj22 _ _ l0_6 t56009 _ ?side1 ?side2 A42.out).mono ?_);(case side1=>repeat (first|exact (Kd.C_below HR0_6.out za3)|(with_reducible refine Kd.C_alloc ?_ _)|(with_reducible refine Kd.C_drewN ?_ _)|(with_reducible refine Kd.C_drew ?_)));(case side2=>exact HC0_6.out);rintro e w' ⟨rfl,⟨nd,rfl⟩⟩;refine ⟨_,rfl,?_⟩)|((with_reducible refine gate_callee (f:=65) rfl ?_);refine goesL_ (some 40) rfl rfl Try.func65 (by kernel_rfl) rfl #[.string a0_1] rfl za4 ?_;(with_reducible refine (impl_IsTerm.calls kj22 a0_1 _ _ A26.out).mono ?_);rintro e w' ⟨rfl,⟨nd,rfl⟩⟩;refine ⟨_,rfl,?_⟩)|(go_at_call 67;(with_reducible refine (impl_IsValidRegex.calls kj22 a0_3 a0_4 _ _ l0_5 t56006 _ ?side1 ?side2 A29.out).mono ?_);(case side1=>repeat (first|exact (Kd.C_below HR0_5.out za3)|(with_reducible refine Kd.C_alloc ?_ _)|(with_reducible refine Kd.C_drewN ?_ _)|(with_reducible refine Kd.C_drew ?_)));(case side2=>exact HC0_5.out);rintro e w31 ⟨rfl,hb⟩;replace BK56001:=zk (zb BK56001.out hb);replace HB:=zk (below_step za3 hb);(try clear hb);(try clear hb2);(try clear hk);(try clear hi)))
            go_ret
            exact ⟨za9,za3⟩
       all_goals
        obtain rfl:=zi H
        obtain ⟨hcz19_0,hcz19_1,hcz19_2,hcz19_3,hcz19_4,hcz19_5,hcz19_6,hcz19_7,hfz19_0,hfz19_1,hfz19_2,hfz19_3,hfz19_4,hfz19_5,hfz19_6,hfz19_7⟩:=blk8 BK56001.out
        go_wp2_with (first|((with_reducible refine gate_callee (f:=65) rfl ?_);refine goesL_ (some 24) rfl rfl Try.func65 (by kernel_rfl) rfl #[.string a0_1] rfl za4 ?_;(with_reducible refine (impl_IsTerm.calls kj9 a0_1 _ _ A14.out).mono ?_);rintro e w' ⟨rfl,⟨nd,rfl⟩⟩;refine ⟨_,rfl,?_⟩)|(go_at_call 65;(with_reducible refine (impl_IsTerm.calls kj9 a0_2 _ _ A16.out).mono ?_);rintro e w' ⟨rfl,⟨nd,rfl⟩⟩)|(go_at_call 66;(with_reducible refine (impl_isZeroRegex.calls a0_3 a0_4 _ _ l0_5 t56004 _ ?side1 ?side2 A18.out).mono ?_);(case side1=>repeat (first|exact (Kd.C_below HR0_5.out za3)|(with_reducible refine Kd.C_alloc ?_ _)|(with_reducible refine Kd.C_drewN ?_ _)|(with_reducible refine Kd.C_drew ?_)));(case side2=>exact HC0_5.out);rintro e w20 ⟨rfl,hb⟩;replace BK56001:=zk (zb BK56001.out hb);replace HB:=zk (below_step za3 hb);(try clear hb);(try clear hb2);(try clear hk);(try clear hi)))
        go_ret
        exact ⟨za9,za3⟩
def impl_IsValidProblem_1.f (k:Nat) (a0_0:Int) (a0_1:ByteArray) (a0_2:ByteArray) (a0_3:Int) (a0_4:ByteArray) (l0_5:List (S58)) (l0_6:List Int) (a0_7:Int):Option (Bool):=(impl_IsValidConstraint.f k a0_0 a0_1 a0_2 a0_3 a0_4 l0_5 l0_6 a0_7).bind fun t55002=>(some (!t55002))
theorem impl_IsValidProblem_1.calls (k:Nat) (a0_0:Int) (a0_1:ByteArray) (a0_2:ByteArray) (a0_3:Int) (a0_4:ByteArray) (A0_5:Option Addr) (c0_5:Nat) (l0_5:List (S58)) (A0_6:Option Addr) (c0_6:Nat) (l0_6:List Int) (a0_7:Int) (r:Bool) (w:World) (hr0_5:Kd.C k58 w A0_5 l0_5.length l0_5) (hc0_5:l0_5.length≤c0_5) (hr0_6:Kd.C (Kd.int .i64) w A0_6 l0_6.length l0_6) (hc0_6:l0_6.length≤c0_6) (h:impl_IsValidProblem_1.f k a0_0 a0_1 a0_2 a0_3 a0_4 l0_5 l0_6 a0_7=some r) :
  Calls Try.prog 55 #[.agg #[.int .i64 a0_0,.string a0_1,.string a0_2,.int .i64 a0_3,.string a0_4,.slice A0_5 l0_5.length c0_5,.slice A0_6 l0_6.length c0_6,.int .i64 a0_7]] w fun e w'=>e = .returned (.bool r)∧Below w.heap.size w w':=by
 have hu61:=Try.underlying61
 have HR0_5:=zk hr0_5
 have HC0_5:=zk hc0_5
 clear hr0_5 hc0_5
 have HR0_6:=zk hr0_6
 have HC0_6:=zk hc0_6
 clear hr0_6 hc0_6
 have HB:=zk (Below.refl w.heap.size w)
 have H:=h
 unfold impl_IsValidProblem_1.f at H
 clear h
 replace H:=zo H
 obtain ⟨t55002,A20,H⟩:=H
 try dsimp only at H
 have A2:=zk A20
 clear A20
 obtain rfl:=zi H
 go_enter Try.func55,Try.ntmps55
 go_wp2_with (first|((with_reducible refine gate_dst (N:=1) rfl ?_);refine zE (N:=1) (cs:=#[.int .i64 a0_0,.string a0_1,.string a0_2,.int .i64 a0_3,.string a0_4,.slice A0_5 l0_5.length c0_5,.slice A0_6 l0_6.length c0_6,.int .i64 a0_7]) (t:=61) ?_;intro gb55001 hg w3 hbox hb;have BK55001:=zk (hbox);have GW55001:=zk (zs (w:=w) hg za3);have GE55001:=zk (zs (w:=w) hg za3);replace HB:=zk (below_step za3 hb);clear hb hbox hg;obtain ⟨hcz4_0,hcz4_1,hcz4_2,hcz4_3,hcz4_4,hcz4_5,hcz4_6,hcz4_7,hfz4_0,hfz4_1,hfz4_2,hfz4_3,hfz4_4,hfz4_5,hfz4_6,hfz4_7⟩:=blk8 BK55001.out)|((with_reducible refine gate_callee (f:=56) rfl ?_);refine goesL_ (some 4) rfl rfl Try.func56 (by kernel_rfl) rfl #[.agg #[.int .i64 a0_0,.string a0_1,.string a0_2,.int .i64 a0_3,.string a0_4,.slice A0_5 l0_5.length c0_5,.slice A0_6 l0_6.length c0_6,.int .i64 a0_7]] rfl za4 ?_;(with_reducible refine (impl_IsValidConstraint.calls k a0_0 a0_1 a0_2 a0_3 a0_4 _ _ l0_5 _ _ l0_6 a0_7 t55002 _ ?side1 ?side2 ?side3 ?side4 A2.out).mono ?_);(case side1=>repeat (first|exact (Kd.C_below HR0_5.out HB.out)|(with_reducible refine Kd.C_alloc ?_ _)|(with_reducible refine Kd.C_drewN ?_ _)|(with_reducible refine Kd.C_drew ?_)));(case side2=>exact HC0_5.out);(case side3=>repeat (first|exact (Kd.C_below HR0_6.out HB.out)|(with_reducible refine Kd.C_alloc ?_ _)|(with_reducible refine Kd.C_drewN ?_ _)|(with_reducible refine Kd.C_drew ?_)));(case side4=>exact HC0_6.out);rintro e w5 ⟨rfl,hb⟩;refine ⟨_,rfl,?_⟩;replace BK55001:=zk (zb BK55001.out hb);replace HB:=zk (below_step za3 hb);(try clear hb);(try clear hb2);(try clear hk);(try clear hi)))
 go_ret
 exact ⟨za9,za3⟩
def impl_Constraint_64.l0:Nat→List (S61)→Int→Int→Option (Int)
 | 0,_,_,_=>none
 | k+1,x0,x7,x8=>if x8 < x7 then (if 0≤x8 then (if x8 < (x0.length:Int) then ((impl_IsValidProblem_1.f k ((rd_T61 x0 x8).f0) ((rd_T61 x0 x8).f1) ((rd_T61 x0 x8).f2) ((rd_T61 x0 x8).f3.f0) ((rd_T61 x0 x8).f3.f1) ((rd_T61 x0 x8).f3.f2) ((rd_T61 x0 x8).f4) ((rd_T61 x0 x8).f5)).bind fun t64002=>(if t64002=true then (some x8) else (impl_Constraint_64.l0 k x0 x7 (wrap64 (x8+1))))) else (none)) else (none)) else (some (-1))
def impl_Constraint_64.f (k:Nat) (l0:List (S61)):Option (Int):=impl_Constraint_64.l0 k l0 (l0.length:Int) 0
theorem impl_Constraint_64.calls (k:Nat) (A0:Option Addr) (c0:Nat) (l0:List (S61)) (r:Int) (w:World) (hr0:Kd.C k61 w A0 l0.length l0) (hc0:l0.length≤c0) (h:impl_Constraint_64.f k l0=some r) :
   Calls Try.prog 64 #[.slice A0 l0.length c0,.func (.func 55) #[] #[]] w fun e w'=>e = .returned (.int .i64 r)∧Below w.heap.size w w':=by
 have hu61:=Try.underlying61
 have HR0:=zk hr0
 have HC0:=zk hc0
 clear hr0 hc0
 have HB:=zk (Below.refl w.heap.size w)
 have H:=h
 unfold impl_Constraint_64.f at H
 clear h
 have H':=zk H
 clear H
 go_enter Try.func64,Try.ntmps64
 go_wp2
 try simp only [Act.put,zt,zv,zu]
 go_loopg [8] k (fun kq v8 w'=>∃ (x8_1:Int),v8 = .int .i64 x8_1∧Aside0 (impl_Constraint_64.l0 kq l0 (l0.length:Int) x8_1=some r)∧Aside0 (kq≤k)∧Aside0 (Below w.heap.size w w'))
 case atStart=>exact ⟨(0),za8,H',⟨Nat.le_refl _⟩,⟨za3⟩⟩
 case round =>
  clear H'
  obtain ⟨x8_1,rfl,HA,HK1,HB⟩:=hrel
  cases gk with
  | zero=>exact absurd HA.out (by simp [impl_Constraint_64.l0])
  | succ k1 =>
   have H:=HA.out
   clear HA
   simp only [impl_Constraint_64.l0] at H
   by_cases c2:x8_1 < (l0.length:Int)
   rw [if_pos c2] at H
   have c2b0:=zdl c2
   clear c2
   by_cases c3:0≤x8_1
   rw [if_pos c3] at H
   have c3b0:=zdle c3
   clear c3
   by_cases c4:x8_1 < (l0.length:Int)
   rw [if_pos c4] at H
   have c4b0:=zdl c4
   clear c4
   replace H:=zo H
   obtain ⟨t64002,A50,H⟩:=H
   try dsimp only at H
   have A5:=zk A50
   clear A50
   by_cases c6:t64002=true
   subst c6
   rw [if_pos rfl] at H
   try dsimp only at H
   obtain rfl:=zi H
   have fin0_:=zk trivial
   rotate_left
   replace c6:=Bool.eq_false_iff.mpr c6
   subst c6
   rw [if_neg (show ¬ (false=true) by decide)] at H
   try dsimp only at H
   have H':=zk H
   clear H
   have fin1_:=zk trivial
   rotate_left
   · rw [if_neg c4] at H
     exact absurd H (by simp)
   · rw [if_neg c3] at H
     exact absurd H (by simp)
   · rw [if_neg c2] at H
     have c2b0:=zdnl c2
     clear c2
     obtain rfl:=zi H
     go_wp2
     go_ret
     exact ⟨za9,za3⟩
   all_goals
    have p64001:0≤(x8_1:Int):=of_decide_eq_true za7
    have q64001:x8_1 < (l0.length:Int):=of_decide_eq_true za7
    obtain ⟨ad64001,A64001_5,c64001_5,A64001_6,c64001_6,e64001,hx64001_0,hx64001_1,hx64001_2,hx64001_3,hx64001_4,hx64001_5,hx64001_6,hx64001_7,hl64001_5,hi64001_5,hl64001_6,hi64001_6⟩:=at_T61 HR0.out x8_1 p64001 q64001
    cases e64001
    replace hx64001_0:=zx HB.out hx64001_0
    replace hx64001_1:=zx HB.out hx64001_1
    replace hx64001_2:=zx HB.out hx64001_2
    replace hx64001_3:=zx HB.out hx64001_3
    replace hx64001_4:=zx HB.out hx64001_4
    replace hx64001_5:=zx HB.out hx64001_5
    replace hx64001_6:=zx HB.out hx64001_6
    replace hx64001_7:=zx HB.out hx64001_7
    have HR64001_5:=zk hi64001_5
    have HC64001_5:=zk hl64001_5
    clear hi64001_5 hl64001_5
    have HR64001_6:=zk hi64001_6
    have HC64001_6:=zk hl64001_6
    clear hi64001_6 hl64001_6
    replace p64001:=eq_true p64001
    replace q64001:=eq_true q64001
    go_wp2_with (((with_reducible refine gate_dst (N:=16) rfl ?_);refine goesF_ (some 16) rfl rfl Try.func55 (by kernel_rfl) rfl #[.agg #[.int .i64 ((rd_T61 l0 x8_1).f0),.string ((rd_T61 l0 x8_1).f1),.string ((rd_T61 l0 x8_1).f2),.int .i64 ((rd_T61 l0 x8_1).f3.f0),.string ((rd_T61 l0 x8_1).f3.f1),.slice A64001_5 ((rd_T61 l0 x8_1).f3.f2).length c64001_5,.slice A64001_6 ((rd_T61 l0 x8_1).f4).length c64001_6,.int .i64 ((rd_T61 l0 x8_1).f5)]] rfl (by first|rfl|(go_simp;done)) za4 ?_;(with_reducible refine (impl_IsValidProblem_1.calls k1 ((rd_T61 l0 x8_1).f0) ((rd_T61 l0 x8_1).f1) ((rd_T61 l0 x8_1).f2) ((rd_T61 l0 x8_1).f3.f0) ((rd_T61 l0 x8_1).f3.f1) _ _ ((rd_T61 l0 x8_1).f3.f2) _ _ ((rd_T61 l0 x8_1).f4) ((rd_T61 l0 x8_1).f5) _ _ ?side1 ?side2 ?side3 ?side4 A5.out).mono ?_);(case side1=>repeat (first|exact (Kd.C_below HR64001_5.out HB.out)|(with_reducible refine Kd.C_alloc ?_ _)|(with_reducible refine Kd.C_drewN ?_ _)|(with_reducible refine Kd.C_drew ?_)));(case side2=>exact HC64001_5.out);(case side3=>repeat (first|exact (Kd.C_below HR64001_6.out HB.out)|(with_reducible refine Kd.C_alloc ?_ _)|(with_reducible refine Kd.C_drewN ?_ _)|(with_reducible refine Kd.C_drew ?_)));(case side4=>exact HC64001_6.out);rintro e w7 ⟨rfl,hb⟩;refine ⟨_,rfl,?_⟩;replace HB:=zk (below_step za3 hb);(try clear hb);(try clear hb2);(try clear hk);(try clear hi)))
    first
    | (
      clear fin0_
      go_ret
      exact ⟨za9,za3⟩)
    | (
      clear fin1_
      go_roundg k1
      case measure=>have:=HK1.out;omega
      case rel=>exact ⟨(wrap64 (x8_1+1)),za8,H',⟨za60⟩,⟨za3⟩⟩)
def impl_Constraint_54.f (k:Nat) (l0:List (S61)):Option (Bool):=(impl_Constraint_64.f k l0).bind fun t54001=>(some (decide (t54001 ≥ 0)))
theorem impl_Constraint_54.calls (k:Nat) (A0:Option Addr) (c0:Nat) (l0:List (S61)) (r:Bool) (w:World) (hr0:Kd.C k61 w A0 l0.length l0) (hc0:l0.length≤c0) (h:impl_Constraint_54.f k l0=some r) :
  Calls Try.prog 54 #[.slice A0 l0.length c0,.func (.func 55) #[] #[]] w fun e w'=>e = .returned (.bool r)∧Below w.heap.size w w':=by
 have HR0:=zk hr0
 have HC0:=zk hc0
 clear hr0 hc0
 have HB:=zk (Below.refl w.heap.size w)
 have H:=h
 unfold impl_Constraint_54.f at H
 clear h
 replace H:=zo H
 obtain ⟨t54001,A20,H⟩:=H
 try dsimp only at H
 have A2:=zk A20
 clear A20
 obtain rfl:=zi H
 go_enter Try.func54,Try.ntmps54
 go_wp2_with (first|((with_reducible refine gate_callee (f:=64) rfl ?_);refine goesL_ (some 7) rfl rfl Try.func64 (by kernel_rfl) rfl #[.slice A0 l0.length c0,.func (.func 55) #[] #[]] rfl za4 ?_;(with_reducible refine (impl_Constraint_64.calls k _ _ l0 t54001 _ ?side1 ?side2 A2.out).mono ?_);(case side1=>repeat (first|exact HR0.out|(with_reducible refine Kd.C_alloc ?_ _)|(with_reducible refine Kd.C_drewN ?_ _)|(with_reducible refine Kd.C_drew ?_)));(case side2=>exact HC0.out);rintro e w3 ⟨rfl,hb⟩;refine ⟨_,rfl,?_⟩;replace HB:=zk (below_step za3 hb);(try clear hb);(try clear hb2);(try clear hk);(try clear hi)))
 go_ret
 exact ⟨za9,za3⟩
def impl_IsValidProblem.f (k:Nat) (l0_0:List (S61)):Option (Bool):=if (l0_0.length:Int)≤6 then ((impl_Constraint_54.f k l0_0).bind fun t37002=>(some (!t37002))) else (some false)
theorem impl_IsValidProblem.calls (k:Nat) (A0_0:Option Addr) (c0_0:Nat) (l0_0:List (S61)) (r:Bool) (w:World) (hr0_0:Kd.C k61 w A0_0 l0_0.length l0_0) (hc0_0:l0_0.length≤c0_0) (h:impl_IsValidProblem.f k l0_0=some r) :
   Calls Try.prog 37 #[.agg #[.slice A0_0 l0_0.length c0_0]] w fun e w'=>e = .returned (.bool r)∧Below w.heap.size w w':=by
 have hu37:=Try.underlying37
 have HR0_0:=zk hr0_0
 have HC0_0:=zk hc0_0
 clear hr0_0 hc0_0
 have HB:=zk (Below.refl w.heap.size w)
 have H:=h
 unfold impl_IsValidProblem.f at H
 clear h
 by_cases c2:(l0_0.length:Int)≤6
 rw [if_pos c2] at H
 have c2b0:=zdle c2
 have c2b1:decide (l0_0.length≤6)=true:=decide_eq_true (by omega)
 clear c2
 replace H:=zo H
 obtain ⟨t37002,A30,H⟩:=H
 try dsimp only at H
 have A3:=zk A30
 clear A30
 rotate_left
 rw [if_neg c2] at H
 have c2b0:=zdnle c2
 have c2b1:decide (l0_0.length≤6)=false:=decide_eq_false (by omega)
 clear c2
 rotate_left
 all_goals
  obtain rfl:=zi H
  go_enter Try.func37,Try.ntmps37
  go_wp2_with (first|((with_reducible refine gate_dst (N:=1) rfl ?_);refine zE (N:=1) (cs:=#[.slice A0_0 l0_0.length c0_0]) (t:=37) ?_;intro gb37001 hg w4 hbox hb;have BK37001:=zk (hbox);have GW37001:=zk (zs (w:=w) hg za3);have GE37001:=zk (zs (w:=w) hg za3);replace HB:=zk (below_step za3 hb);clear hb hbox hg;obtain ⟨hcz5_0,hfz5_0⟩:=blk1 BK37001.out)|(go_at_call 54;(with_reducible refine (impl_Constraint_54.calls k _ _ l0_0 t37002 _ ?side1 ?side2 A3.out).mono ?_);(case side1=>repeat (first|exact (Kd.C_below HR0_0.out HB.out)|(with_reducible refine Kd.C_alloc ?_ _)|(with_reducible refine Kd.C_drewN ?_ _)|(with_reducible refine Kd.C_drew ?_)));(case side2=>exact HC0_0.out);rintro e w6 ⟨rfl,hb⟩;replace BK37001:=zk (zb BK37001.out hb);replace HB:=zk (below_step za3 hb);(try clear hb);(try clear hb2);(try clear hk);(try clear hi)))
  go_ret
  exact ⟨za9,za3⟩
end Go.Proofs.Ytgajchjnljekgaa.A
namespace Go.Proofs.Ytgajchjnljekgaa.Ext
open Go.RowKit YtgajchjnljekgaaW.PrintWords YtgajchjnljekgaaW.PrintLast Ytgajchjnljekgaa.A
def repl (G:Int→ByteArray × Bool):List Int→List Int→List Int
 | [],acc=>acc
 | c :: cs,acc =>
  if (acc ++ (if (G c).2=true then bytesOf (G c).1 else [c])).length > 1048576 then [] else repl G cs (acc ++ (if (G c).2=true then bytesOf (G c).1 else [c]))
def replB (G:Int→ByteArray × Bool) (s:ByteArray):ByteArray:=strOfNums (repl G (bytesOf s) [])
theorem infou8:(Try.prog.info? 5).map (fun i=>(i.zero,i.size,i.bytes))=some (some (.int .u8 0),1,1):=by kernel_rfl
theorem repl_at (G:Int→ByteArray × Bool) (s:ByteArray) (x:Int) (acc:List Int) (h0:0≤x) (h1:x < s.size) :
  repl G ((bytesOf s).drop x.toNat) acc=if (acc ++ (if (G (bt s x)).2=true then bytesOf (G (bt s x)).1 else [bt s x])).length > 1048576 then [] else repl G ((bytesOf s).drop (x.toNat+1)) (acc ++ (if (G (bt s x)).2=true then bytesOf (G (bt s x)).1 else [bt s x])):=by
 have hl:x.toNat < (bytesOf s).length:=by rw [bytesOf_length];omega
 have e:(bytesOf s)[x.toNat]=bt s x:=by
  rw [← rd_bytesOf]
  simp [rd,hl]
 rw [List.drop_eq_getElem_cons hl,e]
 rfl
theorem replB_of {G:Int→ByteArray × Bool} {s:ByteArray} {a:List Int} (h:a=repl G (bytesOf s) []) (h':a = []):replB G s=⟨#[]⟩:=by
 unfold replB
 rw [← h,h']
 rfl
set_option maxHeartbeats 4000000 in
theorem replaced_any (G:Int→ByteArray × Bool) (g:Nat) (lb:Array Value) (eg:∀ args w,(callFunc g args).run Try.prog w = .ok (.enter g args) w) (s:ByteArray) (w:World)
  (hs:s.size≤9223372036854775807) (hB:∀ c,(G c).1.size≤1048576)
  (hG:∀ (W:World) (c:Int),Below w.heap.size w W→0≤c→c≤255→Calls Try.prog g (#[.int .u8 c] ++ lb) W fun e W'=>e = .returned (.tuple #[.string (G c).1,.bool (G c).2])∧Below W.heap.size W W') :
  Calls Try.prog 49 #[.string s,.func (.func g) #[] lb] w fun e w'=>e = .returned (.string (replB G s))∧Below w.heap.size w w':=by
 have HS:=zk hs
 have HBd:=zk hB
 have HG:=zk hG
 clear hB hG
 go_enter Try.func49,Try.ntmps49
 go_wp2
 first
  | go_loopg [5,6] s.size (fun gk v5 v6 wr=>∃ (x:Int) (acc:List Int),v6 = .int .i64 x∧Aside0 (0≤x)∧Aside0 (x≤s.size)∧Aside0 ((s.size:Int) - x≤gk)∧Aside0 (repl G ((bytesOf s).drop x.toNat) acc=repl G (bytesOf s) [])∧Aside0 (acc.length≤1048576)∧Aside0 (wr.ownsRow w.heap.size 5 1 v5 acc.length (nums .u8 acc))∧Aside0 (Below w.heap.size w wr))
 case atStart=>exact ⟨0,[],rfl,⟨by omega⟩,⟨by omega⟩,⟨by omega⟩,⟨rfl⟩,⟨by simp⟩,⟨by simpa [nums] using own_lit w w.heap.size 5 .u8 [] (Nat.le_refl _) (by simp)⟩,⟨below_alloc (Below.refl _ _) _⟩⟩
 case round =>
  obtain ⟨x,acc,rfl,H0,H1,HK,HR,HL,HO,HB⟩:=hrel
  by_cases hlt:x < (s.size:Int)
  ·have hcall:=HG.out wr (bt s x) HB.out (bt_range _ _).1 (bt_range _ _).2
   have hR:=repl_at G s x acc H0.out hlt
   have hsz:=HBd.out (bt s x)
   generalize G (bt s x)=q at hcall hR hsz
   obtain ⟨t,b⟩:=q
   simp only at hcall hR hsz
   have HR2:=zk hR
   have HZ:=zk hsz
   clear hR hsz HG HBd
   have HC:=zk hcall
   clear hcall
   have c2b0:decide (x < (s.size:Int))=true:=decide_eq_true hlt
   have p4:=H0.out
   have q4:=hlt
   have hx4:=bt_at s x
   have P4:=zk p4
   have Q4:=zk q4
   clear hlt
   replace p4:=eq_true p4
   replace q4:=eq_true q4
   cases b with
   | true =>
    have HR3:Aside0 (repl G ((bytesOf s).drop x.toNat) acc=if (acc ++ bytesOf t).length > 1048576 then [] else repl G ((bytesOf s).drop (x.toNat+1)) (acc ++ bytesOf t)):=⟨HR2.out⟩
    clear HR2
    go_wp2_with (first
     | (go_at_fn g;refine HC.out.mono ?_;rintro e w2 ⟨rfl,hb2⟩;have n0_:=zk (pw_own_below HO.out hb2);have n1_:=zk (below_step HB.out hb2);clear HO HB hb2;have HO:=n0_;have HB:=n1_;clear n0_ n1_)
     | (at_builtin;refine print_append_str (w0:=w) w.heap.size rfl (.tmp 25) _ 22 9 5 rfl Try.underlying22 Try.underlying9 infou8 _ acc t rfl rfl HO.out HB.out HB.out.size (by have:=HL.out;have:=HZ.out;omega) ?_;intro v1 w1 hO1 hB1 hg1;obtain ⟨A1,c1,rfl⟩:=own_slice hO1;generalize hN:(acc ++ bytesOf t).length=N at hO1;have n0_:=zk hO1;have n1_:=zk hB1;have HN:=zk hN;have hN2:N≤2097152:=(by rw [← hN,List.length_append,bytesOf_length];have:=HL.out;have:=HZ.out;omega);clear hN hO1 hB1 hg1 HO HB;have HO:=n0_;have HB:=n1_;clear n0_ n1_))
    ·have hbig:(1048576:Int) < (N:Int):=by assumption
     go_ret
     refine ⟨?_,HB.out⟩
     exact congrArg (fun r=>Ending.returned (Value.string r)) (replB_of HR.out (HR3.out.trans (if_pos (by rw [HN.out];omega)))).symm
    ·have hbig:(N:Int)≤1048576:=by assumption
     go_roundg (gk - 1)
     case measure=>have:=HK.out;have:=Q4.out;omega
     case rel =>
      have hw:wrap64 (x+1)=x+1:=by have:=Q4.out;have:=P4.out;unfold wrap64;omega
      refine ⟨x+1,acc ++ bytesOf t,by rw [hw],⟨by have:=P4.out;omega⟩,⟨by have:=Q4.out;omega⟩,⟨by have:=HK.out;omega⟩,⟨?_⟩,⟨by rw [HN.out];omega⟩,⟨by rw [HN.out];exact HO.out⟩,HB⟩
      rw [show (x+1).toNat=x.toNat+1 by have:=P4.out;omega,← HR.out,HR3.out,if_neg]
      rw [HN.out];omega
   | false =>
    have HR3:Aside0 (repl G ((bytesOf s).drop x.toNat) acc=if (acc ++ [bt s x]).length > 1048576 then [] else repl G ((bytesOf s).drop (x.toNat+1)) (acc ++ [bt s x])):=⟨HR2.out⟩
    clear HR2
    go_wp2_with (first
     | (go_at_fn g;refine HC.out.mono ?_;rintro e w2 ⟨rfl,hb2⟩;have n0_:=zk (pw_own_below HO.out hb2);have n1_:=zk (below_step HB.out hb2);clear HO HB hb2;have HO:=n0_;have HB:=n1_;clear n0_ n1_)
     | (at_builtin;refine print_append_num (w0:=w) w.heap.size rfl (.tmp 28) _ 22 5 .u8 1 rfl Try.underlying22 infou8 (by decide) _ acc (bt s x) rfl rfl HO.out HB.out HB.out.size (by have:=HL.out;omega) ?_;intro v1 w1 hO1 hB1 hg1 _;obtain ⟨A1,c1,rfl⟩:=own_slice hO1;generalize hN:(acc ++ [bt s x]).length=N at hO1;have n0_:=zk hO1;have n1_:=zk hB1;have HN:=zk hN;have hN2:N≤2097152:=(by rw [← hN,List.length_append,List.length_singleton];have:=HL.out;omega);clear hN hO1 hB1 hg1 HO HB;have HO:=n0_;have HB:=n1_;clear n0_ n1_))
    ·have hbig:(1048576:Int) < (N:Int):=by assumption
     go_ret
     refine ⟨?_,HB.out⟩
     exact congrArg (fun r=>Ending.returned (Value.string r)) (replB_of HR.out (HR3.out.trans (if_pos (by rw [HN.out];omega)))).symm
    ·have hbig:(N:Int)≤1048576:=by assumption
     go_roundg (gk - 1)
     case measure=>have:=HK.out;have:=Q4.out;omega
     case rel =>
      have hw:wrap64 (x+1)=x+1:=by have:=Q4.out;have:=P4.out;unfold wrap64;omega
      refine ⟨x+1,acc ++ [bt s x],by rw [hw],⟨by have:=P4.out;omega⟩,⟨by have:=Q4.out;omega⟩,⟨by have:=HK.out;omega⟩,⟨?_⟩,⟨by rw [HN.out];omega⟩,⟨by rw [HN.out];exact HO.out⟩,HB⟩
      rw [show (x+1).toNat=x.toNat+1 by have:=P4.out;omega,← HR.out,HR3.out,if_neg]
      rw [HN.out];omega
  ·have c2b0:decide (x < (s.size:Int))=false:=decide_eq_false hlt
   have hx:x=s.size:=by have:=H1.out;omega
   have hr:repl G (bytesOf s) []=acc:=by
    rw [← HR.out,List.drop_of_length_le za92]
    rfl
   have HF:=zk hr
   clear hr hx hlt HG HBd
   have hconv:=own_string (P:=Try.prog) Try.underlying22 Try.underlying5 Try.underlying9 HO.out
   go_wp2
   go_ret
   exact ⟨congrArg (fun r=>Ending.returned (Value.string (strOfNums r))) HF.out.symm,HB.out⟩
-- EXT loop.example/g00582/impl.ReplaceVar making
def impl_ReplaceVar.f (s:ByteArray) (nm:Int) (b:ByteArray):Option ByteArray :=
 if s.size≤9223372036854775807∧b.size≤1048576 then some (replB (fun c=>(b,c == nm)) s) else none
set_option maxHeartbeats 1000000 in
theorem clo_ReplaceVar (c nm:Int) (b:ByteArray) (p1 p2:Addr) (W:World) (h1:W.cell? p1=some (.string b)) (h2:W.cell? p2=some (.int .u8 nm)) :
  Calls Try.prog 50 #[.int .u8 c,.pointer (some p1),.pointer (some p2)] W fun e W'=>e = .returned (.tuple #[.string b,.bool (c == nm)])∧Below W.heap.size W W':=by
 go_enter Try.func50,Try.ntmps50
 go_wp2
 go_quiet (fail)
 go_wp2
 go_ret2
 exact ⟨rfl,(Drawn0.step (Drawn0.refl _) _).below⟩
set_option maxHeartbeats 1000000 in
theorem impl_ReplaceVar.calls (s:ByteArray) (nm:Int) (b:ByteArray) (r:ByteArray) (w:World) (h:impl_ReplaceVar.f s nm b=some r) :
  Calls Try.prog 34 #[.string s,.int .u8 nm,.string b] w fun e w'=>e = .returned (.string r)∧Below w.heap.size w w':=by
 unfold impl_ReplaceVar.f at h
 split at h
 ·rename_i hc
  obtain ⟨hs,hb⟩:=hc
  obtain rfl:=zi h
  clear h
  have HS:=zk hs
  have HB:=zk hb
  clear hs hb
  have hmf:∀ (fn:Fn) (first cap:Array Value) (w:World),(Instr.makeFunc fn first cap).run Try.prog w = .ok (.func fn first cap) w:=fun _ _ _ _=>rfl
  go_enter Try.func34,Try.ntmps34
  go_wp2_with fail
  refine (replaced_any (fun c=>(b,c == nm)) 50 _ (enters_of Try.func50 (by kernel_rfl) rfl) s _ HS.out (fun _=>HB.out) ?_).mono ?_
  ·intro W c hb _ _
   refine clo_ReplaceVar c nm b _ _ W ?_ ?_
   ·rw [hb.cell (p:=⟨w.heap.size+1,0,none⟩) (by simp)]
    go_simp
   ·rw [hb.cell (p:=⟨w.heap.size,0,none⟩) (by simp;omega)]
    go_simp
  ·rintro e w' ⟨rfl,hb'⟩
   have hb2:Below w.heap.size w w':=below_then (below_alloc (below_alloc (Below.refl _ _) _) _) (by simp;omega) hb'
   have HB2:=zk hb2
   clear hb2 hb'
   go_wp2
   go_ret
   exact ⟨rfl,HB2.out⟩
 ·exact absurd h (by simp)
end Go.Proofs.Ytgajchjnljekgaa.Ext
namespace Go.Proofs.Ytgajchjnljekgaa.A
open Go.RowKit Ytgajchjnljekgaa.Ext YtgajchjnljekgaaW.PrintWords YtgajchjnljekgaaW.PrintLast YtgajchjnljekgaaW.PrintMore
attribute [local go_sem] max2_int min2_int max_two min_two max_three min_three max_four min_four
def impl_StripEquation.l0:Nat→ByteArray→ByteArray→Option (ByteArray × ByteArray)
 | 0,_,_=>none
 | k+1,x8002000,x8002001=>if x8002000.toList=([]:List UInt8) then (some (x8002000,x8002001)) else (if x8002001.toList=([]:List UInt8) then (some (x8002000,x8002001)) else (if 0 < (x8002000.size:Int) then (if 0 < (x8002001.size:Int) then (if (bt x8002000 0)=(bt x8002001 0) then (if 1≤(x8002000.size:Int) then (if 1≤(x8002001.size:Int) then (impl_StripEquation.l0 k (x8002000.extract 1 x8002000.size) (x8002001.extract 1 x8002001.size)) else (none)) else (none)) else (some (x8002000,x8002001))) else (none)) else (none)))
def impl_StripEquation.f (k:Nat) (a0_0:ByteArray) (a0_1:ByteArray):Option (ByteArray × ByteArray):=impl_StripEquation.l0 k a0_0 a0_1
def impl_StripEquation.T1:Bool × List (List Nat × List Nat):=(true,[([],[]),([0],[0]),([1],[1]),([2],[2]),([3],[3]),([4,3],[3,4]),([5,3],[3,5]),([3,6],[3,6]),([7,3],[7]),([8],[8]),([9,8],[8,9]),([10,8],[8,10]),([8],[8]),([12,8],[8,12]),([13,8],[8,13]),([11,14,8],[8,11,14]),([8,15],[8,15])])
def impl_StripEquation.B1:List Nat:=[0,1,3,7,15,31,63,127,255,511,1023,2047,511,4607,12799,32767,65535]
theorem impl_StripEquation.tab1:rtab .any (opsOf Try.f8 1)=impl_StripEquation.T1:=by kernel_rfl
theorem impl_StripEquation.bits1:waitsOk impl_StripEquation.T1.2 impl_StripEquation.B1=true:=by kernel_rfl
def impl_StripEquation.T2:Bool × List (List Nat × List Nat):=(true,[([],[]),([0],[0]),([1],[1]),([],[]),([3],[3]),([4],[4]),([0,1,2,3,4],[]),([6,2,0,1,2,3,4],[2,6]),([0,1,2,3,4,5,6,7],[]),([8,5,7,0,1,2,3,4,5,6,7],[5,8])])
def impl_StripEquation.B2:List Nat:=[0,1,3,0,8,24,31,95,255,511]
theorem impl_StripEquation.tab2:rtab .any (opsOf Try.f8 2)=impl_StripEquation.T2:=by kernel_rfl
theorem impl_StripEquation.bits2:waitsOk impl_StripEquation.T2.2 impl_StripEquation.B2=true:=by kernel_rfl
theorem impl_StripEquation.calls (k:Nat) (a0_0:ByteArray) (a0_1:ByteArray) (r1:ByteArray) (r2:ByteArray) (w:World) (h:impl_StripEquation.f k a0_0 a0_1=some (r1,r2)) :
   Calls Try.prog 8 #[.agg #[.string a0_0,.string a0_1]] w fun e w'=>e = .returned (.agg #[.string r1,.string r2])∧Below w.heap.size w w':=by
 have hu25:=Try.underlying25
 have HB:=zk (Below.refl w.heap.size w)
 have H:=h
 unfold impl_StripEquation.f at H
 clear h
 have H':=zk H
 clear H
 go_enter Try.func8,Try.ntmps8
 go_wp2_with (first|((with_reducible refine gate_dst (N:=1) rfl ?_);refine zE (N:=1) (cs:=#[.string a0_0,.string a0_1]) (t:=25) ?_;intro gb8001 hg w2 hbox hb;have BK8001:=zk (hbox);have GW8001:=zk (zs (w:=w) hg za3);have GE8001:=zk (zs (w:=w) hg za3);replace HB:=zk (below_step za3 hb);clear hb hbox hg)|((with_reducible refine gate_dst (N:=2) rfl ?_);refine zE (N:=2) (cs:=#[.string (⟨#[]⟩:ByteArray),.string (⟨#[]⟩:ByteArray)]) (t:=25) ?_;intro gb8002 hg w3 hbox hb;have BK8002:=zk (hbox);have GW8002:=zk (zs (w:=w) hg za3);have GE8002:=zk (zs (w:=w) hg za3);have NB8001_8002:=zk ((by rw [hg];exact Nat.ne_of_lt (zl BK8001.out):gb8001 ≠ gb8002));have NB8002_8001:=zk ((by rw [hg];exact Nat.ne_of_gt (zl BK8001.out):gb8002 ≠ gb8001));replace BK8001:=zk (zb BK8001.out hb);replace HB:=zk (below_step za3 hb);clear hb hbox hg))
 try simp only [Act.put,zt,zv,zu]
 go_loopg [] k (fun kq w'=>∃ (x8002000_1:ByteArray) (x8002001_1:ByteArray),Aside0 (impl_StripEquation.l0 kq x8002000_1 x8002001_1=some (r1,r2))∧Aside0 (kq≤k)∧Aside0 (w'.heap[gb8001]? = some (.cells #[.string x8002000_1,.string x8002001_1] 25 (0,0)))∧Aside0 (w'.heap[gb8002]? = some (.cells #[.string (⟨#[]⟩:ByteArray),.string (⟨#[]⟩:ByteArray)] 25 (0,0)))∧Aside0 (Below w.heap.size w w'))
 case atStart=>exact ⟨(a0_0),(a0_1),H',⟨Nat.le_refl _⟩,⟨za1 BK8001.out⟩,⟨za1 BK8002.out⟩,⟨za3⟩⟩
 case round =>
  clear H'
  obtain ⟨x8002000_1,x8002001_1,HA,HK1,BK8001,BK8002,HB⟩:=hrel
  cases gk with
  | zero=>exact absurd HA.out (by simp [impl_StripEquation.l0])
  | succ k1 =>
   have H:=HA.out
   clear HA
   simp only [impl_StripEquation.l0] at H
   by_cases c4:x8002000_1.toList=([]:List UInt8)
   ·rw [if_pos c4] at H
    have c4b0:=zbt c4
    have c4b1:=zqn c4
    clear c4
    simp only [Option.some.injEq,Prod.mk.injEq] at H
    obtain ⟨rfl,rfl⟩:=H
    try go_wp2
    replace BK8001:=zk (blk_drew BK8001.out)
    replace BK8002:=zk (blk_drew BK8002.out)
    replace HB:=zk (below_drew1 HB.out)
    refine start_ (n:=17) (S:=fun w'=>w'.cell? ⟨gb8001,0,none⟩=some (.string x8002000_1)∧w'.cell? ⟨gb8001,1,none⟩=some (.string x8002001_1)) (ds:=[]) #[false,false,false,false,false,false,false,false,false,false,false,false,false,false,false,false,false] (by kernel_rfl) rfl rfl ⟨(blk_cell BK8001.out 0).trans rfl,(blk_cell BK8001.out 1).trans rfl⟩ (fun hHeld=>?_);refine with_tabW impl_StripEquation.tab1 impl_StripEquation.bits1 (fun HT_ HW_=>?_)
    generalize wr.drew=w5 at BK8001 BK8002 HB hHeld ⊢
    refine zy 0 (some 3) HT_.out ?_
    refine ztk 1 (some 4) HT_.out HW_.out hHeld ?_
    refine zy 2 (some 5) HT_.out ?_
    refine zy 3 (some 6) HT_.out ?_
    refine zyu 4 (some 7) HT_.out ?_
    refine zyu 5 (some 8) HT_.out ?_
    refine zyu 6 (some 9) HT_.out ?_
    refine zy 7 (some 10) HT_.out ?_
    refine zy 8 (some 11) HT_.out ?_
    refine zyu 9 (some 12) HT_.out ?_
    refine zyu 10 (some 13) HT_.out ?_
    refine zyu 11 (some 14) HT_.out ?_
    refine zyu 12 (some 15) HT_.out ?_
    refine zyu 13 (some 16) HT_.out ?_
    refine zyu 14 (some 17) HT_.out ?_
    refine zyu 15 (some 18) HT_.out ?_
    refine zy 16 (some 19) HT_.out ?_
    refine done_ (done_of HT_.out (by kernel_rfl)) ?_
    have hnb6:=NB8001_8002.out
    have hnc6:=NB8002_8001.out
    obtain ⟨hcz7_0,hcz7_1,hfz7_0,hfz7_1⟩:=blk2 BK8001.out
    obtain ⟨hcz8_0,hcz8_1,hfz8_0,hfz8_1⟩:=blk2 BK8002.out
    try go_wp2
    refine bodyPost_ret (results_cell_row rfl _ _ gb8002 25 #[.string x8002000_1,.string x8002001_1] (0,0) _ rfl (zpu BK8002.out) Try.underlying25 rfl (by kernel_rfl)) rfl ?_
    exact ⟨za9,za3⟩
   rw [if_neg c4] at H
   have c4b0:=zbn c4
   have c4b1:=zqt c4
   by_cases c9:x8002001_1.toList=([]:List UInt8)
   ·rw [if_pos c9] at H
    have c9b0:=zbt c9
    have c9b1:=zqn c9
    clear c9
    simp only [Option.some.injEq,Prod.mk.injEq] at H
    obtain ⟨rfl,rfl⟩:=H
    try go_wp2
    replace BK8001:=zk (blk_drew BK8001.out)
    replace BK8002:=zk (blk_drew BK8002.out)
    replace HB:=zk (below_drew1 HB.out)
    refine start_ (n:=17) (S:=fun w'=>w'.cell? ⟨gb8001,0,none⟩=some (.string x8002000_1)∧w'.cell? ⟨gb8001,1,none⟩=some (.string x8002001_1)) (ds:=[]) #[false,false,false,false,false,false,false,false,false,false,false,false,false,false,false,false,false] (by kernel_rfl) rfl rfl ⟨(blk_cell BK8001.out 0).trans rfl,(blk_cell BK8001.out 1).trans rfl⟩ (fun hHeld=>?_);refine with_tabW impl_StripEquation.tab1 impl_StripEquation.bits1 (fun HT_ HW_=>?_)
    generalize wr.drew=w10 at BK8001 BK8002 HB hHeld ⊢
    refine zy 0 (some 3) HT_.out ?_
    refine ztk 1 (some 4) HT_.out HW_.out hHeld ?_
    refine zy 2 (some 5) HT_.out ?_
    refine zy 3 (some 6) HT_.out ?_
    refine zy 4 (some 7) HT_.out ?_
    refine ztk 5 (some 8) HT_.out HW_.out hHeld ?_
    refine zy 6 (some 9) HT_.out ?_
    refine zy 7 (some 10) HT_.out ?_
    refine zy 8 (some 11) HT_.out ?_
    refine zyu 9 (some 12) HT_.out ?_
    refine zyu 10 (some 13) HT_.out ?_
    refine zyu 11 (some 14) HT_.out ?_
    refine zyu 12 (some 15) HT_.out ?_
    refine zyu 13 (some 16) HT_.out ?_
    refine zyu 14 (some 17) HT_.out ?_
    refine zyu 15 (some 18) HT_.out ?_
    refine zy 16 (some 19) HT_.out ?_
    refine done_ (done_of HT_.out (by kernel_rfl)) ?_
    have hnb11:=NB8001_8002.out
    have hnc11:=NB8002_8001.out
    obtain ⟨hcz12_0,hcz12_1,hfz12_0,hfz12_1⟩:=blk2 BK8001.out
    obtain ⟨hcz13_0,hcz13_1,hfz13_0,hfz13_1⟩:=blk2 BK8002.out
    try go_wp2
    refine bodyPost_ret (results_cell_row rfl _ _ gb8002 25 #[.string x8002000_1,.string x8002001_1] (0,0) _ rfl (zpu BK8002.out) Try.underlying25 rfl (by kernel_rfl)) rfl ?_
    exact ⟨za9,za3⟩
   rw [if_neg c9] at H
   have c9b0:=zbn c9
   have c9b1:=zqt c9
   by_cases c14:0 < (x8002000_1.size:Int)
   rw [if_pos c14] at H
   have c14b0:=zdl c14
   have c14b1:decide (0 < x8002000_1.size)=true:=decide_eq_true (by omega)
   clear c14
   by_cases c16:0 < (x8002001_1.size:Int)
   rw [if_pos c16] at H
   have c16b0:=zdl c16
   have c16b1:decide (0 < x8002001_1.size)=true:=decide_eq_true (by omega)
   clear c16
   by_cases c18:(bt x8002000_1 0)=(bt x8002001_1 0)
   rw [if_pos c18] at H
   have c18b0:=zbt c18
   have c18b1:=zqn c18
   clear c18
   by_cases c19:1≤(x8002000_1.size:Int)
   rw [if_pos c19] at H
   have c19b0:=eq_true c19
   have c19b1:=zdle c19
   clear c19
   by_cases c20:1≤(x8002001_1.size:Int)
   ·rw [if_pos c20] at H
    have c20b0:=eq_true c20
    have c20b1:=zdle c20
    clear c20
    have H':=zk H
    clear H
    try go_wp2
    replace BK8001:=zk (blk_drew BK8001.out)
    replace BK8002:=zk (blk_drew BK8002.out)
    replace HB:=zk (below_drew1 HB.out)
    have p15:0≤(0:Int):=(by omega)
    have q15:0 < x8002000_1.size:=(by have:(0:Int) < (x8002000_1.size:Int):=of_decide_eq_true za7;omega)
    have hx15:∀ h:0 < x8002000_1.size,((x8002000_1[0]'h).toNat:Int)=bt x8002000_1 0:=bt_at x8002000_1 0
    clear p15
    have qi15:(0 < (x8002000_1.size:Int))=True:=eq_true (of_decide_eq_true za7)
    replace q15:=eq_true q15
    have p17:0≤(0:Int):=(by omega)
    have q17:0 < x8002001_1.size:=(by have:(0:Int) < (x8002001_1.size:Int):=of_decide_eq_true za7;omega)
    have hx17:∀ h:0 < x8002001_1.size,((x8002001_1[0]'h).toNat:Int)=bt x8002001_1 0:=bt_at x8002001_1 0
    clear p17
    have qi17:(0 < (x8002001_1.size:Int))=True:=eq_true (of_decide_eq_true za7)
    replace q17:=eq_true q17
    refine start_ (n:=17) (S:=fun w'=>w'.cell? ⟨gb8001,0,none⟩=some (.string x8002000_1)∧w'.cell? ⟨gb8001,1,none⟩=some (.string x8002001_1)) (ds:=[]) #[false,false,false,false,false,false,false,false,false,false,false,false,false,false,false,false,false] (by kernel_rfl) rfl rfl ⟨(blk_cell BK8001.out 0).trans rfl,(blk_cell BK8001.out 1).trans rfl⟩ (fun hHeld=>?_);refine with_tabW impl_StripEquation.tab1 impl_StripEquation.bits1 (fun HT_ HW_=>?_)
    generalize wr.drew=w21 at BK8001 BK8002 HB hHeld ⊢
    refine zy 0 (some 3) HT_.out ?_
    refine ztk 1 (some 4) HT_.out HW_.out hHeld ?_
    refine zy 2 (some 5) HT_.out ?_
    refine zy 3 (some 6) HT_.out ?_
    refine zy 4 (some 7) HT_.out ?_
    refine ztk 5 (some 8) HT_.out HW_.out hHeld ?_
    refine zy 6 (some 9) HT_.out ?_
    refine zy 7 (some 10) HT_.out ?_
    refine zy 8 (some 11) HT_.out ?_
    refine zy 9 (some 12) HT_.out ?_
    refine zy 12 (some 15) HT_.out ?_
    refine ztk 10 (some 13) HT_.out HW_.out hHeld ?_
    refine ztk 11 (some 14) HT_.out HW_.out hHeld ?_
    refine ztk 13 (some 16) HT_.out HW_.out hHeld ?_
    refine ztk 14 (some 17) HT_.out HW_.out hHeld ?_
    refine zy 15 (some 18) HT_.out ?_
    refine zy 16 (some 19) HT_.out ?_
    refine done_ (done_of HT_.out (by kernel_rfl)) ?_
    try go_wp2
    replace BK8001:=zk (blk_drew BK8001.out)
    replace BK8002:=zk (blk_drew BK8002.out)
    replace HB:=zk (below_drew1 HB.out)
    refine start_ (n:=10) (S:=fun w'=>w'.cell? ⟨gb8001,0,none⟩=some (.string x8002000_1)∧w'.cell? ⟨gb8001,1,none⟩=some (.string x8002001_1)) (ds:=[7,9]) #[false,false,false,false,false,false,false,false,false,false] (by kernel_rfl) rfl rfl ⟨(blk_cell BK8001.out 0).trans rfl,(blk_cell BK8001.out 1).trans rfl⟩ (fun hHeld=>?_);refine with_tabW impl_StripEquation.tab2 impl_StripEquation.bits2 (fun HT_ HW_=>?_)
    generalize w21.drew=w22 at BK8001 BK8002 HB hHeld ⊢
    refine zy 0 (some 20) HT_.out ?_
    refine zy 3 (some 23) HT_.out ?_
    refine ztk 1 (some 21) HT_.out HW_.out hHeld ?_
    refine zy 2 (some 22) HT_.out ?_
    refine ztk 4 (some 24) HT_.out HW_.out hHeld ?_
    refine zy 5 (some 25) HT_.out ?_
    refine zy 6 (some 26) HT_.out ?_
    refine last_ (i:=7) (N:=none) #[true,true,true,true,true,true,true,true,false,false] rfl rfl (one_of HT_.out (by kernel_rfl)) (by decide) (fun K hK=>?_)
    have hs23:w22.cell? ⟨gb8001,0,none⟩=some (.string x8002000_1):=(blk_cell BK8001.out 0).trans rfl
    have hfs23:=blk_frozen BK8001.out 0
    have hns23_1:=NB8002_8001.out
    have hms23_1:=NB8001_8002.out
    refine skip_ (w1:=?_) (by rfl) rfl ?_ ?_
    rotate_left
    ·go_simp
     rfl
    refine hK.out _ _ ?_
    clear hK K
    refine zy 8 (some 27) HT_.out ?_
    refine last_ (i:=9) (N:=none) #[true,true,true,true,true,true,true,true,true,true] rfl rfl (one_of HT_.out (by kernel_rfl)) (by decide) (fun K hK=>?_)
    have hs24:w22.cell? ⟨gb8001,1,none⟩=some (.string x8002001_1):=(blk_cell BK8001.out 1).trans rfl
    have hfs24:=blk_frozen BK8001.out 1
    have hns24_1:=NB8002_8001.out
    have hms24_1:=NB8001_8002.out
    refine skip_ (w1:=?_) (by rfl) rfl ?_ ?_
    rotate_left
    ·go_simp
     rfl
    refine hK.out _ _ ?_
    clear hK K
    refine done_ (done_of HT_.out (by kernel_rfl)) ?_
    try go_wp2
    go_roundg k1
    case measure=>have:=HK1.out;omega
    case rel=>exact ⟨(x8002000_1.extract 1 x8002000_1.size),(x8002001_1.extract 1 x8002001_1.size),H',⟨za60⟩,⟨zpu BK8001.out⟩,⟨by (with_reducible repeat (first|refine blk_drewN ?_ _|refine blk_drew ?_|refine blk_alloc ?_ _));refine blk_far ?_ NB8002_8001.out _;(with_reducible repeat (first|refine blk_drewN ?_ _|refine blk_drew ?_|refine blk_alloc ?_ _));refine blk_far ?_ NB8002_8001.out _;(with_reducible repeat (first|refine blk_drewN ?_ _|refine blk_drew ?_|refine blk_alloc ?_ _));exact BK8002.out⟩,⟨za3⟩⟩
   ·rw [if_neg c20] at H
    exact absurd H (by simp)
   ·rw [if_neg c19] at H
    exact absurd H (by simp)
   ·rw [if_neg c18] at H
    have c18b0:=zbn c18
    have c18b1:=zqt c18
    simp only [Option.some.injEq,Prod.mk.injEq] at H
    obtain ⟨rfl,rfl⟩:=H
    try go_wp2
    replace BK8001:=zk (blk_drew BK8001.out)
    replace BK8002:=zk (blk_drew BK8002.out)
    replace HB:=zk (below_drew1 HB.out)
    have p15:0≤(0:Int):=(by omega)
    have q15:0 < x8002000_1.size:=(by have:(0:Int) < (x8002000_1.size:Int):=of_decide_eq_true za7;omega)
    have hx15:∀ h:0 < x8002000_1.size,((x8002000_1[0]'h).toNat:Int)=bt x8002000_1 0:=bt_at x8002000_1 0
    clear p15
    have qi15:(0 < (x8002000_1.size:Int))=True:=eq_true (of_decide_eq_true za7)
    replace q15:=eq_true q15
    have p17:0≤(0:Int):=(by omega)
    have q17:0 < x8002001_1.size:=(by have:(0:Int) < (x8002001_1.size:Int):=of_decide_eq_true za7;omega)
    have hx17:∀ h:0 < x8002001_1.size,((x8002001_1[0]'h).toNat:Int)=bt x8002001_1 0:=bt_at x8002001_1 0
    clear p17
    have qi17:(0 < (x8002001_1.size:Int))=True:=eq_true (of_decide_eq_true za7)
    replace q17:=eq_true q17
    refine start_ (n:=17) (S:=fun w'=>w'.cell? ⟨gb8001,0,none⟩=some (.string x8002000_1)∧w'.cell? ⟨gb8001,1,none⟩=some (.string x8002001_1)) (ds:=[]) #[false,false,false,false,false,false,false,false,false,false,false,false,false,false,false,false,false] (by kernel_rfl) rfl rfl ⟨(blk_cell BK8001.out 0).trans rfl,(blk_cell BK8001.out 1).trans rfl⟩ (fun hHeld=>?_);refine with_tabW impl_StripEquation.tab1 impl_StripEquation.bits1 (fun HT_ HW_=>?_)
    generalize wr.drew=w25 at BK8001 BK8002 HB hHeld ⊢
    refine zy 0 (some 3) HT_.out ?_
    refine ztk 1 (some 4) HT_.out HW_.out hHeld ?_
    refine zy 2 (some 5) HT_.out ?_
    refine zy 3 (some 6) HT_.out ?_
    refine zy 4 (some 7) HT_.out ?_
    refine ztk 5 (some 8) HT_.out HW_.out hHeld ?_
    refine zy 6 (some 9) HT_.out ?_
    refine zy 7 (some 10) HT_.out ?_
    refine zy 8 (some 11) HT_.out ?_
    refine zy 9 (some 12) HT_.out ?_
    refine zy 12 (some 15) HT_.out ?_
    refine ztk 10 (some 13) HT_.out HW_.out hHeld ?_
    refine ztk 11 (some 14) HT_.out HW_.out hHeld ?_
    refine ztk 13 (some 16) HT_.out HW_.out hHeld ?_
    refine ztk 14 (some 17) HT_.out HW_.out hHeld ?_
    refine zy 15 (some 18) HT_.out ?_
    refine zy 16 (some 19) HT_.out ?_
    refine done_ (done_of HT_.out (by kernel_rfl)) ?_
    have hnb26:=NB8001_8002.out
    have hnc26:=NB8002_8001.out
    obtain ⟨hcz27_0,hcz27_1,hfz27_0,hfz27_1⟩:=blk2 BK8001.out
    obtain ⟨hcz28_0,hcz28_1,hfz28_0,hfz28_1⟩:=blk2 BK8002.out
    try go_wp2
    refine bodyPost_ret (results_cell_row rfl _ _ gb8002 25 #[.string x8002000_1,.string x8002001_1] (0,0) _ rfl (zpu BK8002.out) Try.underlying25 rfl (by kernel_rfl)) rfl ?_
    exact ⟨za9,za3⟩
   ·rw [if_neg c16] at H
    exact absurd H (by simp)
   ·rw [if_neg c14] at H
    exact absurd H (by simp)
def impl_onlyVariables.l0:Nat→ByteArray→Int→Option (Bool)
 | 0,_,_=>none
 | k+1,x0,x3=>if x3 < (x0.size:Int) then (if 0≤x3 then ((impl_isVariable.f (bt x0 x3)).bind fun t28001=>(if t28001=true then (impl_onlyVariables.l0 k x0 (wrap64 (x3+1))) else (some false))) else (none)) else (some true)
def impl_onlyVariables.f (k:Nat) (a0:ByteArray):Option (Bool):=impl_onlyVariables.l0 k a0 0
theorem impl_onlyVariables.calls (k:Nat) (a0:ByteArray) (r:Bool) (w:World) (h:impl_onlyVariables.f k a0=some r) :
   Calls Try.prog 28 #[.string a0] w fun e w'=>e = .returned (.bool r)∧Drawn0 w w':=by
 have H:=h
 unfold impl_onlyVariables.f at H
 clear h
 have H':=zk H
 clear H
 go_enter Try.func28,Try.ntmps28
 go_wp2
 try simp only [Act.put,zt,zv,zu]
 go_loopg [3] k (fun kq v3 w'=>∃ (x3_1:Int),v3 = .int .i64 x3_1∧Aside0 (impl_onlyVariables.l0 kq a0 x3_1=some r)∧Aside0 (kq≤k)∧Drawn0 w w')
 case atStart=>exact ⟨(0),za8,H',⟨Nat.le_refl _⟩,za20⟩
 case round =>
  clear H'
  obtain ⟨x3_1,rfl,HA,HK1,⟨m1,rfl⟩⟩:=hrel
  cases gk with
  | zero=>exact absurd HA.out (by simp [impl_onlyVariables.l0])
  | succ k1 =>
   have H:=HA.out
   clear HA
   simp only [impl_onlyVariables.l0] at H
   by_cases c2:x3_1 < (a0.size:Int)
   rw [if_pos c2] at H
   have c2b0:=zdl c2
   clear c2
   by_cases c3:0≤x3_1
   rw [if_pos c3] at H
   have c3b0:=zdle c3
   clear c3
   replace H:=zo H
   obtain ⟨t28001,A50,H⟩:=H
   try dsimp only at H
   have A5:=zk A50
   clear A50
   by_cases c6:t28001=true
   subst c6
   rw [if_pos rfl] at H
   try dsimp only at H
   have H':=zk H
   clear H
   have fin0_:=zk trivial
   rotate_left
   replace c6:=Bool.eq_false_iff.mpr c6
   subst c6
   rw [if_neg (show ¬ (false=true) by decide)] at H
   try dsimp only at H
   obtain rfl:=zi H
   have fin1_:=zk trivial
   rotate_left
   · rw [if_neg c3] at H
     exact absurd H (by simp)
   · rw [if_neg c2] at H
     have c2b0:=zdnl c2
     clear c2
     obtain rfl:=zi H
     go_wp2
     go_ret
     exact ⟨za8,za20⟩
   all_goals
    have p4:0≤(x3_1:Int):=of_decide_eq_true za7
    have q4:x3_1 < (a0.size:Int):=of_decide_eq_true za7
    have hx4:=bt_at a0 x3_1
    replace p4:=eq_true p4
    replace q4:=eq_true q4
    go_wp2_with (((with_reducible refine gate_callee (f:=25) rfl ?_);refine goesL_ (some 13) rfl rfl Try.func25 (by kernel_rfl) rfl #[.int .u8 (bt a0 x3_1)] rfl za4 ?_;(with_reducible refine (impl_isVariable.calls (bt a0 x3_1) _ _ A5.out).mono ?_);rintro e w' ⟨rfl,⟨nd,rfl⟩⟩;refine ⟨_,rfl,?_⟩))
    first
    | (
      clear fin0_
      go_roundg k1
      case measure=>have:=HK1.out;omega
      case rel=>exact ⟨(wrap64 (x3_1+1)),za8,H',⟨za60⟩,za20⟩)
    | (
      clear fin1_
      go_ret
      exact ⟨za8,za20⟩)
def impl_IsClash.j0:Nat→Bool→ByteArray→ByteArray→Option (Bool)
 | 0,_,_,_=>none
 | k+1,x12,x10002000,x10002001=>if x12=true then (if x10002000.size+x10002001.size≤9223372036854775807 then ((impl_onlyVariables.f k (x10002000 ++ x10002001)).bind fun t10004=>(some (!t10004))) else (none)) else (if 0 < (x10002000.size:Int) then ((impl_isVariable.f (bt x10002000 0)).bind fun t10005=>(if t10005=true then (some false) else (if 0 < (x10002001.size:Int) then ((impl_isVariable.f (bt x10002001 0)).bind fun t10006=>(some (!t10006))) else (none)))) else (none))
def impl_IsClash.f (k:Nat) (a0_0:ByteArray) (a0_1:ByteArray):Option (Bool):=(impl_StripEquation.f k a0_0 a0_1).bind fun bt10002=>(if bt10002.1.toList=([]:List UInt8) then (impl_IsClash.j0 k true bt10002.1 bt10002.2) else (impl_IsClash.j0 k (bt10002.2.toList == ([]:List UInt8)) bt10002.1 bt10002.2))
theorem impl_IsClash.calls (k:Nat) (a0_0:ByteArray) (a0_1:ByteArray) (r:Bool) (w:World) (h:impl_IsClash.f k a0_0 a0_1=some r) :
   Calls Try.prog 10 #[.agg #[.string a0_0,.string a0_1]] w fun e w'=>e = .returned (.bool r)∧Below w.heap.size w w':=by
 have hu25:=Try.underlying25
 have HB:=zk (Below.refl w.heap.size w)
 have H:=h
 unfold impl_IsClash.f at H
 clear h
 replace H:=zo H
 obtain ⟨⟨t10002,t10003⟩,A20,H⟩:=H
 try dsimp only at H
 have A2:=zk A20
 clear A20
 have HC3:=zk H
 clear H
 go_enter Try.func10,Try.ntmps10
 go_upto_region 2 with (first|((with_reducible refine gate_dst (N:=1) rfl ?_);refine zE (N:=1) (cs:=#[.string a0_0,.string a0_1]) (t:=25) ?_;intro gb10001 hg w4 hbox hb;have BK10001:=zk (hbox);have GW10001:=zk (zs (w:=w) hg za3);have GE10001:=zk (zs (w:=w) hg za3);replace HB:=zk (below_step za3 hb);clear hb hbox hg;obtain ⟨hcz5_0,hcz5_1,hfz5_0,hfz5_1⟩:=blk2 BK10001.out)|((with_reducible refine gate_callee (f:=8) rfl ?_);refine goesL_ (some 4) rfl rfl Try.func8 (by kernel_rfl) rfl #[.agg #[.string a0_0,.string a0_1]] rfl za4 ?_;(with_reducible refine (impl_StripEquation.calls k a0_0 a0_1 t10002 t10003 _ A2.out).mono ?_);rintro e w6 ⟨rfl,hb⟩;refine ⟨_,rfl,?_⟩;replace BK10001:=zk (zb BK10001.out hb);replace HB:=zk (below_step za3 hb);(try clear hb);(try clear hb2);(try clear hk);(try clear hi);obtain ⟨hcz7_0,hcz7_1,hfz7_0,hfz7_1⟩:=blk2 BK10001.out))
 (try simp only [Act.put,zt,zu,zv])
 go_cut [12] (fun v12 wc=>∃ (kq:Nat) (x12_2:Bool),v12 = .bool x12_2∧Aside0 (impl_IsClash.j0 kq x12_2 t10002 t10003=some r)∧Aside0 (kq≤k)∧Aside0 (wc.heap[gb10001]? = some (.cells #[.string t10002,.string t10003] 25 (0,0)))∧Aside0 (Below w.heap.size w wc))
 case first =>
  have H:=HC3.out
  clear HC3
  by_cases c8:t10002.toList=([]:List UInt8)
  · rw [if_pos c8] at H
    have c8b0:=zbt c8
    have c8b1:=zqn c8
    clear c8
    (first|rw [c8b0]|(simp only [i64_w,i32_w];rw [c8b0])|skip)
    have H':=zk H
    clear H
    obtain ⟨hcz9_0,hcz9_1,hfz9_0,hfz9_1⟩:=blk2 BK10001.out
    go_wp2
    go_meet
    case rel=>exact ⟨_,(true),za8,H',⟨za63⟩,⟨zpu BK10001.out⟩,⟨za3⟩⟩
  · rw [if_neg c8] at H
    have c8b0:=zbn c8
    have c8b1:=zqt c8
    (first|rw [c8b0]|(simp only [i64_w,i32_w];rw [c8b0])|skip)
    have H':=zk H
    clear H
    obtain ⟨hcz10_0,hcz10_1,hfz10_0,hfz10_1⟩:=blk2 BK10001.out
    go_wp2
    go_meet
    case rel=>exact ⟨_,((t10003.toList == ([]:List UInt8))),za8,H',⟨za63⟩,⟨zpu BK10001.out⟩,⟨za3⟩⟩
 case rest =>
  clear HC3
  try clear hcz5_0
  try clear hcz5_1
  try clear hcz7_0
  try clear hcz7_1
  try clear hfz5_0
  try clear hfz5_1
  try clear hfz7_0
  try clear hfz7_1
  obtain ⟨kq,x12_2,rfl,HA,HJ2,BK10001,HB⟩:=hcut
  cases kq with
  | zero=>exact absurd HA.out (by simp [impl_IsClash.j0])
  | succ kj2 =>
   have H:=HA.out
   clear HA
   simp only [impl_IsClash.j0] at H
   by_cases c11:x12_2=true
   subst c11
   rw [if_pos rfl] at H
   try dsimp only at H
   by_cases c12:t10002.size+t10003.size≤9223372036854775807
   rw [if_pos c12] at H
   have c12z:=c12
   try simp at c12z
   try replace c12z:=eq_false (Nat.not_lt.2 c12z)
   have c12b0:=eq_true c12
   have c12b1:=zdle c12
   try have c12b2:(9223372036854775807 < t10002.size+t10003.size)=False:=eq_false (Nat.not_lt.2 c12)
   replace H:=zo H
   obtain ⟨t10004,A130,H⟩:=H
   try dsimp only at H
   have A13:=zk A130
   clear A130
   obtain rfl:=zi H
   obtain ⟨hcz14_0,hcz14_1,hfz14_0,hfz14_1⟩:=blk2 BK10001.out
   rotate_left
   · rw [if_neg c12] at H
     exact absurd H (by simp)
   replace c11:=Bool.eq_false_iff.mpr c11
   subst c11
   rw [if_neg (show ¬ (false=true) by decide)] at H
   try dsimp only at H
   by_cases c15:0 < (t10002.size:Int)
   rw [if_pos c15] at H
   have c15b0:=zdl c15
   have c15b1:decide (0 < t10002.size)=true:=decide_eq_true (by omega)
   clear c15
   replace H:=zo H
   obtain ⟨t10005,A170,H⟩:=H
   try dsimp only at H
   have A17:=zk A170
   clear A170
   by_cases c18:t10005=true
   · subst c18
     rw [if_pos rfl] at H
     try dsimp only at H
     obtain rfl:=zi H
     obtain ⟨hcz19_0,hcz19_1,hfz19_0,hfz19_1⟩:=blk2 BK10001.out
     have p16:0≤(0:Int):=(by omega)
     have q16:0 < t10002.size:=(by have:(0:Int) < (t10002.size:Int):=of_decide_eq_true za7;omega)
     have hx16:∀ h:0 < t10002.size,((t10002[0]'h).toNat:Int)=bt t10002 0:=bt_at t10002 0
     clear p16
     have qi16:(0 < (t10002.size:Int))=True:=eq_true (of_decide_eq_true za7)
     replace q16:=eq_true q16
     go_wp2_with (first|((with_reducible refine gate_callee (f:=25) rfl ?_);refine goesL_ (some 23) rfl rfl Try.func25 (by kernel_rfl) rfl #[.int .u8 (bt t10002 0)] rfl za4 ?_;(with_reducible refine (impl_isVariable.calls (bt t10002 0) _ _ A17.out).mono ?_);rintro e w' ⟨rfl,⟨nd,rfl⟩⟩;refine ⟨_,rfl,?_⟩))
     go_ret
     exact ⟨za9,za3⟩
   replace c18:=Bool.eq_false_iff.mpr c18
   subst c18
   rw [if_neg (show ¬ (false=true) by decide)] at H
   try dsimp only at H
   by_cases c20:0 < (t10003.size:Int)
   rw [if_pos c20] at H
   have c20b0:=zdl c20
   have c20b1:decide (0 < t10003.size)=true:=decide_eq_true (by omega)
   clear c20
   replace H:=zo H
   obtain ⟨t10006,A220,H⟩:=H
   try dsimp only at H
   have A22:=zk A220
   clear A220
   obtain rfl:=zi H
   obtain ⟨hcz23_0,hcz23_1,hfz23_0,hfz23_1⟩:=blk2 BK10001.out
   have p16:0≤(0:Int):=(by omega)
   have q16:0 < t10002.size:=(by have:(0:Int) < (t10002.size:Int):=of_decide_eq_true za7;omega)
   have hx16:∀ h:0 < t10002.size,((t10002[0]'h).toNat:Int)=bt t10002 0:=bt_at t10002 0
   clear p16
   have qi16:(0 < (t10002.size:Int))=True:=eq_true (of_decide_eq_true za7)
   replace q16:=eq_true q16
   rotate_left
   · rw [if_neg c20] at H
     exact absurd H (by simp)
   · rw [if_neg c15] at H
     exact absurd H (by simp)
   all_goals
    go_wp2_with (first|((with_reducible refine gate_callee (f:=25) rfl ?_);refine goesL_ (some 23) rfl rfl Try.func25 (by kernel_rfl) rfl #[.int .u8 (bt t10002 0)] rfl za4 ?_;(with_reducible refine (impl_isVariable.calls (bt t10002 0) _ _ A17.out).mono ?_);rintro e w' ⟨rfl,⟨nd,rfl⟩⟩;refine ⟨_,rfl,?_⟩;have p21:0≤(0:Int):=(by omega);have q21:0 < t10003.size:=(by have:(0:Int) < (t10003.size:Int):=of_decide_eq_true za7;omega);have hx21:∀ h:0 < t10003.size,((t10003[0]'h).toNat:Int)=bt t10003 0:=bt_at t10003 0;clear p21;have qi21:(0 < (t10003.size:Int))=True:=eq_true (of_decide_eq_true za7);replace q21:=eq_true q21)|(go_at_call 25;(with_reducible refine (impl_isVariable.calls (bt t10003 0) t10006 _ A22.out).mono ?_);rintro e w' ⟨rfl,⟨nd,rfl⟩⟩)|((with_reducible refine gate_callee (f:=28) rfl ?_);refine goesL_ (some 18) rfl rfl Try.func28 (by kernel_rfl) rfl #[.string (t10002 ++ t10003)] rfl za4 ?_;(with_reducible refine (impl_onlyVariables.calls kj2 (t10002 ++ t10003) t10004 _ A13.out).mono ?_);rintro e w' ⟨rfl,⟨nd,rfl⟩⟩;refine ⟨_,rfl,?_⟩))
    go_ret
    exact ⟨za9,za3⟩
mutual
def impl_MovesOf.j0:Nat→Bool→ByteArray→ByteArray→Option ((List (S33)))
 | 0,_,_,_=>none
 | k+1,x19,x6002000,x6002001=>if x19=true then (some ([]:List (S33))) else (if x6002000.toList=([]:List UInt8) then (impl_MovesOf.j1 k true x6002000 x6002001) else (impl_MovesOf.j1 k (x6002001.toList == ([]:List UInt8)) x6002000 x6002001))
def impl_MovesOf.j1:Nat→Bool→ByteArray→ByteArray→Option ((List (S33)))
 | 0,_,_,_=>none
 | k+1,x27,x6002000,x6002001=>if x27=true then (if x6002000.size+x6002001.size≤9223372036854775807 then (if 0 < ((x6002000 ++ x6002001).size:Int) then (some (([(⟨bt (x6002000 ++ x6002001) 0,(⟨#[]⟩:ByteArray)⟩:S33)]:List (S33)))) else (none)) else (none)) else (if 0 < (x6002000.size:Int) then (if 0 < (x6002001.size:Int) then ((some (([(⟨bt x6002000 0,bt x6002001 0⟩:S46),(⟨bt x6002001 0,bt x6002000 0⟩:S46)]:List (S46)):List (S46))).bind fun y6011=>(impl_MovesOf.l0 k (([]:List (S33))) y6011 (y6011.length:Int) 0)) else (none)) else (none))
def impl_MovesOf.l0:Nat→List (S33)→List (S46)→Int→Int→Option ((List (S33)))
 | 0,_,_,_,_=>none
 | k+1,x5,x49,x50,x51=>if x51 < x50 then (if 0≤x51 then (if x51 < (x49.length:Int) then ((impl_isVariable.f ((rd_T46 x49 x51).f0)).bind fun t6016=>(if t6016=true then (if x5.length < 5864062014805 then ((some (x5 ++ [(⟨(rd_T46 x49 x51).f0,(⟨#[]⟩:ByteArray)⟩:S33)]:List (S33))).bind fun y6017=>((impl_isVariable.f ((rd_T46 x49 x51).f1)).bind fun t6020=>(if t6020=true then (if y6017.length < 5864062014805 then (impl_MovesOf.l0 k (y6017 ++ [(⟨(rd_T46 x49 x51).f0,strOfNums (([(rd_T46 x49 x51).f1,(rd_T46 x49 x51).f0]:List Int))⟩:S33)]) x49 x50 (wrap64 (x51+1))) else (none)) else ((impl_LetterIndex.f ((rd_T46 x49 x51).f1)).bind fun t6027=>(if t6027 ≥ 0 then (if y6017.length < 5864062014805 then (impl_MovesOf.l0 k (y6017 ++ [(⟨(rd_T46 x49 x51).f0,strOfNums (([(rd_T46 x49 x51).f1,(rd_T46 x49 x51).f0]:List Int))⟩:S33)]) x49 x50 (wrap64 (x51+1))) else (none)) else (impl_MovesOf.l0 k y6017 x49 x50 (wrap64 (x51+1)))))))) else (none)) else (impl_MovesOf.l0 k x5 x49 x50 (wrap64 (x51+1))))) else (none)) else (none)) else (some x5)
end
def impl_MovesOf.f (k:Nat) (a0_0:ByteArray) (a0_1:ByteArray):Option ((List (S33))):=(impl_StripEquation.f k a0_0 a0_1).bind fun bt6002=>(if bt6002.1.size+bt6002.2.size≤9223372036854775807 then (if (bt6002.1 ++ bt6002.2).toList=([]:List UInt8) then (impl_MovesOf.j0 k true bt6002.1 bt6002.2) else ((impl_IsClash.f k bt6002.1 bt6002.2).bind fun t6004=>(impl_MovesOf.j0 k t6004 bt6002.1 bt6002.2))) else (none))
theorem impl_MovesOf.calls (k:Nat) (a0_0:ByteArray) (a0_1:ByteArray) (r:List (S33)) (w:World) (h:impl_MovesOf.f k a0_0 a0_1=some r) :
   Calls Try.prog 6 #[.agg #[.string a0_0,.string a0_1]] w fun e w'=>∃ v0_:Value,e = .returned (v0_)∧Kd.R k33 33 w' w.heap.size (fun _=>True) v0_ r∧Below w.heap.size w w':=by
 have hu25:=Try.underlying25
 have hu33:=Try.underlying33
 have hu46:=Try.underlying46
 have HB:=zk (Below.refl w.heap.size w)
 have H:=h
 unfold impl_MovesOf.f at H
 clear h
 replace H:=zo H
 obtain ⟨⟨t6002,t6003⟩,A20,H⟩:=H
 try dsimp only at H
 have A2:=zk A20
 clear A20
 have HC3:=zk H
 clear H
 go_enter Try.func6,Try.ntmps6
 go_upto_region 2 with (first|((with_reducible refine gate_dst (N:=1) rfl ?_);refine zE (N:=1) (cs:=#[.string a0_0,.string a0_1]) (t:=25) ?_;intro gb6001 hg w4 hbox hb;have BK6001:=zk (hbox);have GW6001:=zk (zs (w:=w) hg za3);have GE6001:=zk (zs (w:=w) hg za3);replace HB:=zk (below_step za3 hb);clear hb hbox hg;obtain ⟨hcz5_0,hcz5_1,hfz5_0,hfz5_1⟩:=blk2 BK6001.out)|(go_at_call 8;(with_reducible refine (impl_StripEquation.calls k a0_0 a0_1 t6002 t6003 _ A2.out).mono ?_);rintro e w6 ⟨rfl,hb⟩;replace BK6001:=zk (zb BK6001.out hb);replace HB:=zk (below_step za3 hb);(try clear hb);(try clear hb2);(try clear hk);(try clear hi);obtain ⟨hcz7_0,hcz7_1,hfz7_0,hfz7_1⟩:=blk2 BK6001.out))
 repeat (go_quiet (first|((with_reducible refine gate_dst (N:=1) rfl ?_);refine zE (N:=1) (cs:=#[.string a0_0,.string a0_1]) (t:=25) ?_;intro gb6001 hg w4 hbox hb;have BK6001:=zk (hbox);have GW6001:=zk (zs (w:=w) hg za3);have GE6001:=zk (zs (w:=w) hg za3);replace HB:=zk (below_step za3 hb);clear hb hbox hg;obtain ⟨hcz5_0,hcz5_1,hfz5_0,hfz5_1⟩:=blk2 BK6001.out)|(go_at_call 8;(with_reducible refine (impl_StripEquation.calls k a0_0 a0_1 t6002 t6003 _ A2.out).mono ?_);rintro e w6 ⟨rfl,hb⟩;replace BK6001:=zk (zb BK6001.out hb);replace HB:=zk (below_step za3 hb);(try clear hb);(try clear hb2);(try clear hk);(try clear hi);obtain ⟨hcz7_0,hcz7_1,hfz7_0,hfz7_1⟩:=blk2 BK6001.out));go_upto_region 2 with (first|((with_reducible refine gate_dst (N:=1) rfl ?_);refine zE (N:=1) (cs:=#[.string a0_0,.string a0_1]) (t:=25) ?_;intro gb6001 hg w4 hbox hb;have BK6001:=zk (hbox);have GW6001:=zk (zs (w:=w) hg za3);have GE6001:=zk (zs (w:=w) hg za3);replace HB:=zk (below_step za3 hb);clear hb hbox hg;obtain ⟨hcz5_0,hcz5_1,hfz5_0,hfz5_1⟩:=blk2 BK6001.out)|(go_at_call 8;(with_reducible refine (impl_StripEquation.calls k a0_0 a0_1 t6002 t6003 _ A2.out).mono ?_);rintro e w6 ⟨rfl,hb⟩;replace BK6001:=zk (zb BK6001.out hb);replace HB:=zk (below_step za3 hb);(try clear hb);(try clear hb2);(try clear hk);(try clear hi);obtain ⟨hcz7_0,hcz7_1,hfz7_0,hfz7_1⟩:=blk2 BK6001.out)))
 (try simp only [Act.put,zt,zu,zv])
 go_cut [19] (fun v19 wc=>∃ (kq:Nat) (x19_2:Bool),v19 = .bool x19_2∧Aside0 (impl_MovesOf.j0 kq x19_2 t6002 t6003=some r)∧Aside0 (kq≤k)∧Aside0 (wc.heap[gb6001]? = some (.cells #[.string t6002,.string t6003] 25 (0,0)))∧Aside0 (Below w.heap.size w wc))
 case first =>
  have H:=HC3.out
  clear HC3
  by_cases c8:t6002.size+t6003.size≤9223372036854775807
  rw [if_pos c8] at H
  have c8z:=c8
  try simp at c8z
  try replace c8z:=eq_false (Nat.not_lt.2 c8z)
  have c8b0:=eq_true c8
  have c8b1:=zdle c8
  try have c8b2:(9223372036854775807 < t6002.size+t6003.size)=False:=eq_false (Nat.not_lt.2 c8)
  by_cases c9:(t6002 ++ t6003).toList=([]:List UInt8)
  · rw [if_pos c9] at H
    have c9b0:=zbt c9
    have c9b1:=zqn c9
    clear c9
    (first|rw [c9b0]|(simp only [i64_w,i32_w];rw [c9b0])|skip)
    have H':=zk H
    clear H
    obtain ⟨hcz10_0,hcz10_1,hfz10_0,hfz10_1⟩:=blk2 BK6001.out
    go_wp2
    repeat (go_quiet (fail);try go_wp2)
    go_meet
    case rel=>exact ⟨_,(true),za8,H',⟨za63⟩,⟨zpu BK6001.out⟩,⟨za3⟩⟩
  · rw [if_neg c9] at H
    have c9b0:=zbn c9
    have c9b1:=zqt c9
    (first|rw [c9b0]|(simp only [i64_w,i32_w];rw [c9b0])|skip)
    replace H:=zo H
    obtain ⟨t6004,A110,H⟩:=H
    try dsimp only at H
    have A11:=zk A110
    clear A110
    have H':=zk H
    clear H
    obtain ⟨hcz12_0,hcz12_1,hfz12_0,hfz12_1⟩:=blk2 BK6001.out
    go_wp2_with (first|(go_at_call 10;(with_reducible refine (impl_IsClash.calls k t6002 t6003 t6004 _ A11.out).mono ?_);rintro e w13 ⟨rfl,hb⟩;replace BK6001:=zk (blk_below (g:=gb6001) (o:=.cells #[.string t6002,.string t6003] 25 (0,0)) (zpu BK6001.out) hb);replace HB:=zk (below_step za3 hb);(try clear hb);(try clear hb2);(try clear hk);(try clear hi)))
    repeat (go_quiet (first|(go_at_call 10;(with_reducible refine (impl_IsClash.calls k t6002 t6003 t6004 _ A11.out).mono ?_);rintro e w13 ⟨rfl,hb⟩;replace BK6001:=zk (blk_below (g:=gb6001) (o:=.cells #[.string t6002,.string t6003] 25 (0,0)) (zpu BK6001.out) hb);replace HB:=zk (below_step za3 hb);(try clear hb);(try clear hb2);(try clear hk);(try clear hi)));try go_wp2_with (first|(go_at_call 10;(with_reducible refine (impl_IsClash.calls k t6002 t6003 t6004 _ A11.out).mono ?_);rintro e w13 ⟨rfl,hb⟩;replace BK6001:=zk (blk_below (g:=gb6001) (o:=.cells #[.string t6002,.string t6003] 25 (0,0)) (zpu BK6001.out) hb);replace HB:=zk (below_step za3 hb);(try clear hb);(try clear hb2);(try clear hk);(try clear hi))))
    go_meet
    case rel=>exact ⟨_,(t6004),za8,H',⟨za63⟩,⟨za1 BK6001.out⟩,⟨za3⟩⟩
  · rw [if_neg c8] at H
    exact absurd H (by simp)
 case rest =>
  clear HC3
  try clear hcz5_0
  try clear hcz5_1
  try clear hcz7_0
  try clear hcz7_1
  try clear hfz5_0
  try clear hfz5_1
  try clear hfz7_0
  try clear hfz7_1
  obtain ⟨kq,x19_2,rfl,HA,HJ2,BK6001,HB⟩:=hcut
  cases kq with
  | zero=>exact absurd HA.out (by simp [impl_MovesOf.j0])
  | succ kj2 =>
   have H:=HA.out
   clear HA
   simp only [impl_MovesOf.j0] at H
   by_cases c14:x19_2=true
   · subst c14
     rw [if_pos rfl] at H
     try dsimp only at H
     obtain rfl:=zi H
     go_wp2
     repeat (go_quiet (fail);try go_wp2)
     go_ret
     exact ⟨_,za9,za41,za3⟩
   · replace c14:=Bool.eq_false_iff.mpr c14
     subst c14
     rw [if_neg (show ¬ (false=true) by decide)] at H
     try dsimp only at H
     have HC15:=zk H
     clear H
     go_upto_region 4 with (fail)
     repeat (go_quiet (fail);go_upto_region 4 with (fail))
     go_cut [27] (fun v27 wc=>∃ (kq:Nat) (x27_14:Bool),v27 = .bool x27_14∧Aside0 (impl_MovesOf.j1 kq x27_14 t6002 t6003=some r)∧Aside0 (kq≤kj2)∧Aside0 (wc.heap[gb6001]? = some (.cells #[.string t6002,.string t6003] 25 (0,0)))∧Aside0 (Below w.heap.size w wc))
     case first =>
      have H:=HC15.out
      clear HC15
      by_cases c16:t6002.toList=([]:List UInt8)
      · rw [if_pos c16] at H
        have c16b0:=zbt c16
        have c16b1:=zqn c16
        clear c16
        (first|rw [c16b0]|(simp only [i64_w,i32_w];rw [c16b0])|skip)
        have H':=zk H
        clear H
        obtain ⟨hcz17_0,hcz17_1,hfz17_0,hfz17_1⟩:=blk2 BK6001.out
        go_wp2
        repeat (go_quiet (fail);try go_wp2)
        go_meet
        case rel=>exact ⟨_,(true),za8,H',⟨za99⟩,⟨za1 BK6001.out⟩,⟨za3⟩⟩
      · rw [if_neg c16] at H
        have c16b0:=zbn c16
        have c16b1:=zqt c16
        (first|rw [c16b0]|(simp only [i64_w,i32_w];rw [c16b0])|skip)
        have H':=zk H
        clear H
        obtain ⟨hcz18_0,hcz18_1,hfz18_0,hfz18_1⟩:=blk2 BK6001.out
        go_wp2
        repeat (go_quiet (fail);try go_wp2)
        go_meet
        case rel=>exact ⟨_,((t6003.toList == ([]:List UInt8))),za8,H',⟨za99⟩,⟨za1 BK6001.out⟩,⟨za3⟩⟩
     case rest =>
      clear HC15
      try clear c14
      try clear hcz5_0
      try clear hcz5_1
      try clear hcz7_0
      try clear hcz7_1
      try clear hfz5_0
      try clear hfz5_1
      try clear hfz7_0
      try clear hfz7_1
      obtain ⟨kq,x27_14,rfl,HA,HJ14,BK6001,HB⟩:=hcut
      cases kq with
      | zero=>exact absurd HA.out (by simp [impl_MovesOf.j1])
      | succ kj14 =>
       have H:=HA.out
       clear HA
       simp only [impl_MovesOf.j1] at H
       by_cases c19:x27_14=true
       subst c19
       rw [if_pos rfl] at H
       try dsimp only at H
       by_cases c20:t6002.size+t6003.size≤9223372036854775807
       rw [if_pos c20] at H
       have c20z:=c20
       try simp at c20z
       try replace c20z:=eq_false (Nat.not_lt.2 c20z)
       have c20b0:=eq_true c20
       have c20b1:=zdle c20
       try have c20b2:(9223372036854775807 < t6002.size+t6003.size)=False:=eq_false (Nat.not_lt.2 c20)
       by_cases c21:0 < ((t6002 ++ t6003).size:Int)
       · rw [if_pos c21] at H
         have c21b0:=zdl c21
         have c21y:=c21b0
         try simp at c21y
         have c21b1:decide (0 < (t6002 ++ t6003).size)=true:=decide_eq_true (by omega)
         clear c21
         obtain ⟨y6005,hy6005⟩:∃ y_:List (S33),y_=(([(⟨bt (t6002 ++ t6003) 0,(⟨#[]⟩:ByteArray)⟩:S33)]:List (S33))):=⟨_,rfl⟩
         replace H:(some y6005)=some r:=by first|(rw [hy6005];with_reducible exact H)|(have H2_:=(Option.bind_some _ _).symm.trans H;rw [hy6005];with_reducible exact H2_)|(have H2_:=(Option.bind_some _ _).symm.trans H;with_reducible exact H2_)|with_reducible exact H|(rw [hy6005];exact H)|exact H
         have Ny6005:=zk hy6005
         clear hy6005
         obtain rfl:=zi H
         obtain ⟨hcz23_0,hcz23_1,hfz23_0,hfz23_1⟩:=blk2 BK6001.out
         have p22:0≤(0:Int):=(by omega)
         have q22:0 < (t6002 ++ t6003).size:=(by have:(0:Int) < ((t6002 ++ t6003).size:Int):=of_decide_eq_true za7;omega)
         have hx22:∀ h:0 < (t6002 ++ t6003).size,(((t6002 ++ t6003)[0]'h).toNat:Int)=bt (t6002 ++ t6003) 0:=bt_at (t6002 ++ t6003) 0
         clear p22
         have qi22:(0 < ((t6002 ++ t6003).size:Int))=True:=eq_true (of_decide_eq_true za7)
         replace q22:=eq_true q22
         go_wp2_with (first|((with_reducible refine gate_dst (N:=35) rfl ?_);refine Kd.R_lit k33 _ 33 ?hg (N:=35) ?hd (xs:=([(⟨bt (t6002 ++ t6003) 0,(⟨#[]⟩:ByteArray)⟩:S33)]:List (S33))) (inner:=[.int .u8 (bt (t6002 ++ t6003) 0),.string (⟨#[]⟩:ByteArray)]) (ok:=fun _=>True) (okp:=fun _=>True) ?hr ?hp (fun _ hk=>hk) trivial (Below.refl _ _) (Nat.le_refl _) (by simp) ?_;(case hd=>rfl);(case hg=>rfl);(case hr=>first|(go_simp;done)|(go_simp;rfl));(case hp=>exact (Reps.c2 (show Kd.M k33 _ _ _ (⟨bt (t6002 ++ t6003) 0,(⟨#[]⟩:ByteArray)⟩:S33) [.int .u8 (bt (t6002 ++ t6003) 0),.string (⟨#[]⟩:ByteArray)] from (k33_mkM _ _ _ (⟨bt (t6002 ++ t6003) 0,(⟨#[]⟩:ByteArray)⟩:S33) )) (Reps.none _ _)));intro v6006 w24 ho25 hb hg_ hnew_;clear hg_ hnew_;(first|rw [← Ny6005.out] at ho25|(simp only [Int.reduceToNat] at ho25;rw [← Ny6005.out] at ho25));have HO6007:=zk (Kd.R_lower ho25 (below_size za3));replace BK6001:=zk (zb BK6001.out hb);replace HB:=zk (below_step za3 hb);clear hb ho25))
         repeat (go_quiet (first|((with_reducible refine gate_dst (N:=35) rfl ?_);refine Kd.R_lit k33 _ 33 ?hg (N:=35) ?hd (xs:=([(⟨bt (t6002 ++ t6003) 0,(⟨#[]⟩:ByteArray)⟩:S33)]:List (S33))) (inner:=[.int .u8 (bt (t6002 ++ t6003) 0),.string (⟨#[]⟩:ByteArray)]) (ok:=fun _=>True) (okp:=fun _=>True) ?hr ?hp (fun _ hk=>hk) trivial (Below.refl _ _) (Nat.le_refl _) (by simp) ?_;(case hd=>rfl);(case hg=>rfl);(case hr=>first|(go_simp;done)|(go_simp;rfl));(case hp=>exact (Reps.c2 (show Kd.M k33 _ _ _ (⟨bt (t6002 ++ t6003) 0,(⟨#[]⟩:ByteArray)⟩:S33) [.int .u8 (bt (t6002 ++ t6003) 0),.string (⟨#[]⟩:ByteArray)] from (k33_mkM _ _ _ (⟨bt (t6002 ++ t6003) 0,(⟨#[]⟩:ByteArray)⟩:S33) )) (Reps.none _ _)));intro v6006 w24 ho25 hb hg_ hnew_;clear hg_ hnew_;(first|rw [← Ny6005.out] at ho25|(simp only [Int.reduceToNat] at ho25;rw [← Ny6005.out] at ho25));have HO6007:=zk (Kd.R_lower ho25 (below_size za3));replace BK6001:=zk (zb BK6001.out hb);replace HB:=zk (below_step za3 hb);clear hb ho25));try go_wp2_with (first|((with_reducible refine gate_dst (N:=35) rfl ?_);refine Kd.R_lit k33 _ 33 ?hg (N:=35) ?hd (xs:=([(⟨bt (t6002 ++ t6003) 0,(⟨#[]⟩:ByteArray)⟩:S33)]:List (S33))) (inner:=[.int .u8 (bt (t6002 ++ t6003) 0),.string (⟨#[]⟩:ByteArray)]) (ok:=fun _=>True) (okp:=fun _=>True) ?hr ?hp (fun _ hk=>hk) trivial (Below.refl _ _) (Nat.le_refl _) (by simp) ?_;(case hd=>rfl);(case hg=>rfl);(case hr=>first|(go_simp;done)|(go_simp;rfl));(case hp=>exact (Reps.c2 (show Kd.M k33 _ _ _ (⟨bt (t6002 ++ t6003) 0,(⟨#[]⟩:ByteArray)⟩:S33) [.int .u8 (bt (t6002 ++ t6003) 0),.string (⟨#[]⟩:ByteArray)] from (k33_mkM _ _ _ (⟨bt (t6002 ++ t6003) 0,(⟨#[]⟩:ByteArray)⟩:S33) )) (Reps.none _ _)));intro v6006 w24 ho25 hb hg_ hnew_;clear hg_ hnew_;(first|rw [← Ny6005.out] at ho25|(simp only [Int.reduceToNat] at ho25;rw [← Ny6005.out] at ho25));have HO6007:=zk (Kd.R_lower ho25 (below_size za3));replace BK6001:=zk (zb BK6001.out hb);replace HB:=zk (below_step za3 hb);clear hb ho25)))
         go_ret
         exact ⟨_,za9,za0 HO6007.out,za3⟩
       · rw [if_neg c21] at H
         exact absurd H (by simp)
       · rw [if_neg c20] at H
         exact absurd H (by simp)
       replace c19:=Bool.eq_false_iff.mpr c19
       subst c19
       rw [if_neg (show ¬ (false=true) by decide)] at H
       try dsimp only at H
       by_cases c26:0 < (t6002.size:Int)
       rw [if_pos c26] at H
       have c26b0:=zdl c26
       have c26b1:decide (0 < t6002.size)=true:=decide_eq_true (by omega)
       clear c26
       by_cases c28:0 < (t6003.size:Int)
       · rw [if_pos c28] at H
         have c28b0:=zdl c28
         have c28b1:decide (0 < t6003.size)=true:=decide_eq_true (by omega)
         clear c28
         obtain ⟨y6008,hy6008⟩:∃ y_:List (S33),y_=(([]:List (S33))):=⟨_,rfl⟩
         replace H:((some (([(⟨bt t6002 0,bt t6003 0⟩:S46),(⟨bt t6003 0,bt t6002 0⟩:S46)]:List (S46)):List (S46))).bind fun y6011=>(impl_MovesOf.l0 kj14 y6008 y6011 (y6011.length:Int) 0))=some r:=by first|(rw [hy6008];with_reducible exact H)|(have H2_:=(Option.bind_some _ _).symm.trans H;rw [hy6008];with_reducible exact H2_)|(have H2_:=(Option.bind_some _ _).symm.trans H;with_reducible exact H2_)|with_reducible exact H|(rw [hy6008];exact H)|exact H
         have Ny6008:=zk hy6008
         clear hy6008
         obtain ⟨y6011,hy6011⟩:∃ y_:List (S46),y_=(([(⟨bt t6002 0,bt t6003 0⟩:S46),(⟨bt t6003 0,bt t6002 0⟩:S46)]:List (S46))):=⟨_,rfl⟩
         replace H:(impl_MovesOf.l0 kj14 y6008 y6011 (y6011.length:Int) 0)=some r:=by first|(rw [hy6011];with_reducible exact H)|(have H2_:=(Option.bind_some _ _).symm.trans H;rw [hy6011];with_reducible exact H2_)|(have H2_:=(Option.bind_some _ _).symm.trans H;with_reducible exact H2_)|with_reducible exact H|(rw [hy6011];exact H)|exact H
         have Ny6011:=zk hy6011
         clear hy6011
         have H':=zk H
         clear H
         obtain ⟨hcz30_0,hcz30_1,hfz30_0,hfz30_1⟩:=blk2 BK6001.out
         have p27:0≤(0:Int):=(by omega)
         have q27:0 < t6002.size:=(by have:(0:Int) < (t6002.size:Int):=of_decide_eq_true za7;omega)
         have hx27:∀ h:0 < t6002.size,((t6002[0]'h).toNat:Int)=bt t6002 0:=bt_at t6002 0
         clear p27
         have qi27:(0 < (t6002.size:Int))=True:=eq_true (of_decide_eq_true za7)
         replace q27:=eq_true q27
         have p29:0≤(0:Int):=(by omega)
         have q29:0 < t6003.size:=(by have:(0:Int) < (t6003.size:Int):=of_decide_eq_true za7;omega)
         have hx29:∀ h:0 < t6003.size,((t6003[0]'h).toNat:Int)=bt t6003 0:=bt_at t6003 0
         clear p29
         have qi29:(0 < (t6003.size:Int))=True:=eq_true (of_decide_eq_true za7)
         replace q29:=eq_true q29
         go_wp2_with (first|((with_reducible refine gate_dst (N:=42) rfl ?_);refine Kd.R_lit k33 _ 33 ?hg (N:=42) ?hd (xs:=([]:List (S33))) (inner:=[]) (ok:=fun _=>True) (okp:=fun _=>True) ?hr ?hp (fun _ hk=>hk) trivial (Below.refl _ _) (Nat.le_refl _) (by simp) ?_;(case hd=>rfl);(case hg=>rfl);(case hr=>first|(go_simp;done)|(go_simp;rfl));(case hp=>exact (Reps.none _ _));intro v6009 w31 ho32 hb hg_ hnew_;clear hg_ hnew_;(first|rw [← Ny6008.out] at ho32|(simp only [Int.reduceToNat] at ho32;rw [← Ny6008.out] at ho32));have HO6010:=zk (Kd.R_lower ho32 (below_size za3));replace BK6001:=zk (zb BK6001.out hb);replace HB:=zk (below_step za3 hb);clear hb ho32)|((with_reducible refine gate_dst (N:=49) rfl ?_);refine Kd.R_lit k46 _ 46 ?hg (N:=49) ?hd (xs:=([(⟨bt t6002 0,bt t6003 0⟩:S46),(⟨bt t6003 0,bt t6002 0⟩:S46)]:List (S46))) (inner:=[.int .u8 (bt t6002 0),.int .u8 (bt t6003 0),.int .u8 (bt t6003 0),.int .u8 (bt t6002 0)]) (ok:=fun _=>True) (okp:=fun _=>True) ?hr ?hp (fun _ hk=>hk) trivial (Below.refl _ _) (Nat.le_refl _) (by simp) ?_;(case hd=>rfl);(case hg=>rfl);(case hr=>first|(go_simp;done)|(go_simp;rfl));(case hp=>exact (Reps.c2 (show Kd.M k46 _ _ _ (⟨bt t6002 0,bt t6003 0⟩:S46) [.int .u8 (bt t6002 0),.int .u8 (bt t6003 0)] from (k46_mkM _ _ _ (⟨bt t6002 0,bt t6003 0⟩:S46) )) (Reps.c2 (show Kd.M k46 _ _ _ (⟨bt t6003 0,bt t6002 0⟩:S46) [.int .u8 (bt t6003 0),.int .u8 (bt t6002 0)] from (k46_mkM _ _ _ (⟨bt t6003 0,bt t6002 0⟩:S46) )) (Reps.none _ _))));intro v6012 w33 ho34 hb hg_ hnew_;clear hg_ hnew_;(first|rw [← Ny6011.out] at ho34|(simp only [Int.reduceToNat] at ho34;rw [← Ny6011.out] at ho34));replace HO6010:=zk (Kd.R_below (za0 HO6010.out) hb);have HO6013:=zk (Kd.R_lower ho34 (below_size za3));replace BK6001:=zk (zb BK6001.out hb);replace HB:=zk (below_step za3 hb);clear hb ho34;obtain ⟨Ao35,co35,eo35⟩:=Kd.R_slice HO6013.out;subst eo35))
         repeat (go_quiet (first|((with_reducible refine gate_dst (N:=42) rfl ?_);refine Kd.R_lit k33 _ 33 ?hg (N:=42) ?hd (xs:=([]:List (S33))) (inner:=[]) (ok:=fun _=>True) (okp:=fun _=>True) ?hr ?hp (fun _ hk=>hk) trivial (Below.refl _ _) (Nat.le_refl _) (by simp) ?_;(case hd=>rfl);(case hg=>rfl);(case hr=>first|(go_simp;done)|(go_simp;rfl));(case hp=>exact (Reps.none _ _));intro v6009 w31 ho32 hb hg_ hnew_;clear hg_ hnew_;(first|rw [← Ny6008.out] at ho32|(simp only [Int.reduceToNat] at ho32;rw [← Ny6008.out] at ho32));have HO6010:=zk (Kd.R_lower ho32 (below_size za3));replace BK6001:=zk (zb BK6001.out hb);replace HB:=zk (below_step za3 hb);clear hb ho32)|((with_reducible refine gate_dst (N:=49) rfl ?_);refine Kd.R_lit k46 _ 46 ?hg (N:=49) ?hd (xs:=([(⟨bt t6002 0,bt t6003 0⟩:S46),(⟨bt t6003 0,bt t6002 0⟩:S46)]:List (S46))) (inner:=[.int .u8 (bt t6002 0),.int .u8 (bt t6003 0),.int .u8 (bt t6003 0),.int .u8 (bt t6002 0)]) (ok:=fun _=>True) (okp:=fun _=>True) ?hr ?hp (fun _ hk=>hk) trivial (Below.refl _ _) (Nat.le_refl _) (by simp) ?_;(case hd=>rfl);(case hg=>rfl);(case hr=>first|(go_simp;done)|(go_simp;rfl));(case hp=>exact (Reps.c2 (show Kd.M k46 _ _ _ (⟨bt t6002 0,bt t6003 0⟩:S46) [.int .u8 (bt t6002 0),.int .u8 (bt t6003 0)] from (k46_mkM _ _ _ (⟨bt t6002 0,bt t6003 0⟩:S46) )) (Reps.c2 (show Kd.M k46 _ _ _ (⟨bt t6003 0,bt t6002 0⟩:S46) [.int .u8 (bt t6003 0),.int .u8 (bt t6002 0)] from (k46_mkM _ _ _ (⟨bt t6003 0,bt t6002 0⟩:S46) )) (Reps.none _ _))));intro v6012 w33 ho34 hb hg_ hnew_;clear hg_ hnew_;(first|rw [← Ny6011.out] at ho34|(simp only [Int.reduceToNat] at ho34;rw [← Ny6011.out] at ho34));replace HO6010:=zk (Kd.R_below (za0 HO6010.out) hb);have HO6013:=zk (Kd.R_lower ho34 (below_size za3));replace BK6001:=zk (zb BK6001.out hb);replace HB:=zk (below_step za3 hb);clear hb ho34;obtain ⟨Ao35,co35,eo35⟩:=Kd.R_slice HO6013.out;subst eo35));try go_wp2_with (first|((with_reducible refine gate_dst (N:=42) rfl ?_);refine Kd.R_lit k33 _ 33 ?hg (N:=42) ?hd (xs:=([]:List (S33))) (inner:=[]) (ok:=fun _=>True) (okp:=fun _=>True) ?hr ?hp (fun _ hk=>hk) trivial (Below.refl _ _) (Nat.le_refl _) (by simp) ?_;(case hd=>rfl);(case hg=>rfl);(case hr=>first|(go_simp;done)|(go_simp;rfl));(case hp=>exact (Reps.none _ _));intro v6009 w31 ho32 hb hg_ hnew_;clear hg_ hnew_;(first|rw [← Ny6008.out] at ho32|(simp only [Int.reduceToNat] at ho32;rw [← Ny6008.out] at ho32));have HO6010:=zk (Kd.R_lower ho32 (below_size za3));replace BK6001:=zk (zb BK6001.out hb);replace HB:=zk (below_step za3 hb);clear hb ho32)|((with_reducible refine gate_dst (N:=49) rfl ?_);refine Kd.R_lit k46 _ 46 ?hg (N:=49) ?hd (xs:=([(⟨bt t6002 0,bt t6003 0⟩:S46),(⟨bt t6003 0,bt t6002 0⟩:S46)]:List (S46))) (inner:=[.int .u8 (bt t6002 0),.int .u8 (bt t6003 0),.int .u8 (bt t6003 0),.int .u8 (bt t6002 0)]) (ok:=fun _=>True) (okp:=fun _=>True) ?hr ?hp (fun _ hk=>hk) trivial (Below.refl _ _) (Nat.le_refl _) (by simp) ?_;(case hd=>rfl);(case hg=>rfl);(case hr=>first|(go_simp;done)|(go_simp;rfl));(case hp=>exact (Reps.c2 (show Kd.M k46 _ _ _ (⟨bt t6002 0,bt t6003 0⟩:S46) [.int .u8 (bt t6002 0),.int .u8 (bt t6003 0)] from (k46_mkM _ _ _ (⟨bt t6002 0,bt t6003 0⟩:S46) )) (Reps.c2 (show Kd.M k46 _ _ _ (⟨bt t6003 0,bt t6002 0⟩:S46) [.int .u8 (bt t6003 0),.int .u8 (bt t6002 0)] from (k46_mkM _ _ _ (⟨bt t6003 0,bt t6002 0⟩:S46) )) (Reps.none _ _))));intro v6012 w33 ho34 hb hg_ hnew_;clear hg_ hnew_;(first|rw [← Ny6011.out] at ho34|(simp only [Int.reduceToNat] at ho34;rw [← Ny6011.out] at ho34));replace HO6010:=zk (Kd.R_below (za0 HO6010.out) hb);have HO6013:=zk (Kd.R_lower ho34 (below_size za3));replace BK6001:=zk (zb BK6001.out hb);replace HB:=zk (below_step za3 hb);clear hb ho34;obtain ⟨Ao35,co35,eo35⟩:=Kd.R_slice HO6013.out;subst eo35)))
         try simp only [Act.put,zt,zv,zu]
         go_loopg [5,51] kj14 (fun kq v5 v51 w'=>∃ (x5_3:List (S33)) (x51_3:Int),v51 = .int .i64 x51_3∧Aside0 (impl_MovesOf.l0 kq x5_3 y6011 (y6011.length:Int) x51_3=some r)∧Aside0 (kq≤kj14)∧Aside0 (Kd.R k33 33 w' w.heap.size (fun _=>True) v5 x5_3)∧Aside0 (Kd.R k46 46 w' w.heap.size (fun _=>True) (.slice Ao35 y6011.length co35) y6011)∧Aside0 (w'.heap[gb6001]? = some (.cells #[.string t6002,.string t6003] 25 (0,0)))∧Aside0 (Below w.heap.size w w'))
         case atStart=>exact ⟨(y6008),(0),za8,H',⟨Nat.le_refl _⟩,⟨za0 HO6010.out⟩,⟨za0 HO6013.out⟩,⟨za1 BK6001.out⟩,⟨za3⟩⟩
         case round =>
          clear H'
          try clear c2
          try clear c14
          try clear p27
          try clear q27
          try clear hx27
          try clear qi27
          try clear c28
          try clear c28b0
          try clear c28b1
          try clear p29
          try clear q29
          try clear hx29
          try clear qi29
          try clear hcz30_0
          try clear hcz30_1
          try clear hcz5_0
          try clear hcz5_1
          try clear hcz7_0
          try clear hcz7_1
          try clear hfz30_0
          try clear hfz30_1
          try clear hfz5_0
          try clear hfz5_1
          try clear hfz7_0
          try clear hfz7_1
          try clear p27
          try clear p29
          try clear q27
          try clear q29
          obtain ⟨x5_3,x51_3,rfl,HA,HK3,HO_5,HO_49,BK6001,HB⟩:=hrel
          cases gk with
          | zero=>exact absurd HA.out (by simp [impl_MovesOf.l0])
          | succ k3 =>
           have H:=HA.out
           clear HA
           simp only [impl_MovesOf.l0] at H
           by_cases c36:x51_3 < (y6011.length:Int)
           rw [if_pos c36] at H
           have c36b0:=zdl c36
           clear c36
           by_cases c37:0≤x51_3
           rw [if_pos c37] at H
           have c37b0:=zdle c37
           clear c37
           by_cases c38:x51_3 < (y6011.length:Int)
           rw [if_pos c38] at H
           have c38b0:=zdl c38
           clear c38
           replace H:=zo H
           obtain ⟨t6016,A390,H⟩:=H
           try dsimp only at H
           have A39:=zk A390
           clear A390
           by_cases c40:t6016=true
           subst c40
           rw [if_pos rfl] at H
           try dsimp only at H
           by_cases c41:x5_3.length < 5864062014805
           rw [if_pos c41] at H
           have LMc41:=zk c41
           clear c41
           obtain ⟨y6017,hy6017⟩:∃ y_:List (S33),y_=(x5_3 ++ [(⟨(rd_T46 y6011 x51_3).f0,(⟨#[]⟩:ByteArray)⟩:S33)]):=⟨_,rfl⟩
           replace H:((impl_isVariable.f ((rd_T46 y6011 x51_3).f1)).bind fun t6020=>(if t6020=true then (if y6017.length < 5864062014805 then (impl_MovesOf.l0 k3 (y6017 ++ [(⟨(rd_T46 y6011 x51_3).f0,strOfNums (([(rd_T46 y6011 x51_3).f1,(rd_T46 y6011 x51_3).f0]:List Int))⟩:S33)]) y6011 (y6011.length:Int) (wrap64 (x51_3+1))) else (none)) else ((impl_LetterIndex.f ((rd_T46 y6011 x51_3).f1)).bind fun t6027=>(if t6027 ≥ 0 then (if y6017.length < 5864062014805 then (impl_MovesOf.l0 k3 (y6017 ++ [(⟨(rd_T46 y6011 x51_3).f0,strOfNums (([(rd_T46 y6011 x51_3).f1,(rd_T46 y6011 x51_3).f0]:List Int))⟩:S33)]) y6011 (y6011.length:Int) (wrap64 (x51_3+1))) else (none)) else (impl_MovesOf.l0 k3 y6017 y6011 (y6011.length:Int) (wrap64 (x51_3+1)))))))=some r:=by first|(rw [hy6017];with_reducible exact H)|(have H2_:=(Option.bind_some _ _).symm.trans H;rw [hy6017];with_reducible exact H2_)|(have H2_:=(Option.bind_some _ _).symm.trans H;with_reducible exact H2_)|with_reducible exact H|(rw [hy6017];exact H)|exact H
           have Ny6017:=zk hy6017
           clear hy6017
           replace H:=zo H
           obtain ⟨t6020,A420,H⟩:=H
           try dsimp only at H
           have A42:=zk A420
           clear A420
           by_cases c43:t6020=true
           subst c43
           rw [if_pos rfl] at H
           try dsimp only at H
           obtain ⟨y6021,hy6021⟩:∃ y_:List Int,y_=(([(rd_T46 y6011 x51_3).f1,(rd_T46 y6011 x51_3).f0]:List Int)):=⟨_,rfl⟩
           replace H:(if y6017.length < 5864062014805 then (impl_MovesOf.l0 k3 (y6017 ++ [(⟨(rd_T46 y6011 x51_3).f0,strOfNums y6021⟩:S33)]) y6011 (y6011.length:Int) (wrap64 (x51_3+1))) else (none))=some r:=by first|(rw [hy6021];with_reducible exact H)|(have H2_:=(Option.bind_some _ _).symm.trans H;rw [hy6021];with_reducible exact H2_)|(have H2_:=(Option.bind_some _ _).symm.trans H;with_reducible exact H2_)|with_reducible exact H|(rw [hy6021];exact H)|exact H
           have Ny6021:=zk hy6021
           clear hy6021
           by_cases c44:y6017.length < 5864062014805
           · rw [if_pos c44] at H
             have LMc44:=zk c44
             clear c44
             obtain ⟨y6024,hy6024⟩:∃ y_:List (S33),y_=(y6017 ++ [(⟨(rd_T46 y6011 x51_3).f0,strOfNums y6021⟩:S33)]):=⟨_,rfl⟩
             replace H:(impl_MovesOf.l0 k3 y6024 y6011 (y6011.length:Int) (wrap64 (x51_3+1)))=some r:=by first|(rw [hy6024];with_reducible exact H)|(have H2_:=(Option.bind_some _ _).symm.trans H;rw [hy6024];with_reducible exact H2_)|(have H2_:=(Option.bind_some _ _).symm.trans H;with_reducible exact H2_)|with_reducible exact H|(rw [hy6024];exact H)|exact H
             have Ny6024:=zk hy6024
             clear hy6024
             have H':=zk H
             clear H
             have p6014:0≤(x51_3:Int):=of_decide_eq_true za7
             have q6014:x51_3 < (y6011.length:Int):=of_decide_eq_true za7
             obtain ⟨ad6014,e6014,hx6014_0,hx6014_1⟩:=at_T46 (Kd.R_reads' HO_49.out).2.2 x51_3 p6014 q6014
             cases e6014
             replace p6014:=eq_true p6014
             replace q6014:=eq_true q6014
             go_wp2_with (first|((with_reducible refine gate_dst (N:=7) rfl ?_);refine zE (N:=7) (cs:=#[.int .u8 0,.int .u8 0]) (t:=46) ?_;intro gb6015 hg w45 hbox hb;replace HO_5:=zk (Kd.R_below (za0 HO_5.out) hb);replace HO_49:=zk (Kd.R_below (Kd.R_elderB (za0 HO_49.out) gb6015 (Nat.le_of_eq hg.symm)) hb);have BK6015:=zk (hbox);have GW6015:=zk (zs (w:=w) hg za3);have GE6015:=zk (zs (w:=w) hg za3);have NB6001_6015:=zk ((by rw [hg];exact Nat.ne_of_lt (zl BK6001.out):gb6001 ≠ gb6015));have NB6015_6001:=zk ((by rw [hg];exact Nat.ne_of_gt (zl BK6001.out):gb6015 ≠ gb6001));replace BK6001:=zk (zb BK6001.out hb);replace HB:=zk (below_step za3 hb);clear hb hbox hg;have hnb46:=NB6015_6001.out;have hnc46:=NB6001_6015.out;obtain ⟨hcz47_0,hcz47_1,hfz47_0,hfz47_1⟩:=blk2 BK6015.out)|(go_at_call 25;(with_reducible refine (impl_isVariable.calls ((rd_T46 y6011 x51_3).f0) _ _ A39.out).mono ?_);rintro e w' ⟨rfl,⟨nd,rfl⟩⟩;(try first|exact ⟨rfl,_,World.drewN_drewN _ _ _⟩|exact ⟨rfl,_,Eq.trans (World.drewN_drewN _ _ _) (congrArg (World.drewN _) (Nat.add_assoc _ _ _))⟩))|((with_reducible refine gate_builtin (b:=.append) (xs:=#[.tmp 59,.tmp 63]) rfl ?_);at_builtin;refine Kd.R_append k33 (w0:=w) w.heap.size rfl (.tmp 59) (.tmp 63) 27 33 (.agg #[(.int .u8 0),(.string ⟨#[]⟩)]) 24 rfl Try.underlying27 info33 rfl (by decide) (by omega) u5 x5_3 (⟨(rd_T46 y6011 x51_3).f0,(⟨#[]⟩:ByteArray)⟩:S33) [.int .u8 ((rd_T46 y6011 x51_3).f0),.string (⟨#[]⟩:ByteArray)] (fun _=>True) (fun _=>False) rfl (by first|(go_simp;done)|(go_simp;rfl)) ?aP (fun _ hk=>hk.elim) ?aF ?aO ?aB ?aS ?aL ?_;(case aP=>exact k33_mkM _ _ _ (⟨(rd_T46 y6011 x51_3).f0,(⟨#[]⟩:ByteArray)⟩:S33));(case aB=>exact za3);(case aF=>exact (fun _ _=>trivial));(case aO=>exact za47);(case aS=>exact (below_size za3));(case aL=>have:=LMc41.out;omega);intro v6018 w48 ho hb hg hat;rw [← Ny6017.out] at ho;replace HO_49:=zk (Kd.R_over' za43 (Kd.R_typed za52) (by decide) hg);replace BK6001:=zk (blk_grown (g:=gb6001) (o:=.cells #[.string t6002,.string t6003] 25 (0,0)) za28 hg (Kd.R_ne HO_5.out BK6001.out (by decide)));replace HB:=zk (hb);have HO6019:=zk (ho);replace BK6015:=zk (blk_grown (g:=gb6015) (o:=.cells #[.int .u8 ((rd_T46 y6011 x51_3).f0),.int .u8 ((rd_T46 y6011 x51_3).f1)] 46 (0,0)) (zpu BK6015.out) hg (Kd.R_ne HO_5.out BK6015.out (by decide)));clear HO_5;clear ho hb hg hat;obtain ⟨hcz49_0,hcz49_1,hfz49_0,hfz49_1⟩:=blk2 BK6015.out)|(go_at_call 25;(with_reducible refine (impl_isVariable.calls ((rd_T46 y6011 x51_3).f1) _ _ A42.out).mono ?_);rintro e w' ⟨rfl,⟨nd,rfl⟩⟩;(try first|exact ⟨rfl,_,World.drewN_drewN _ _ _⟩|exact ⟨rfl,_,Eq.trans (World.drewN_drewN _ _ _) (congrArg (World.drewN _) (Nat.add_assoc _ _ _))⟩))|((with_reducible refine gate_dst (N:=81) rfl ?_);refine Kd.R_lit (Kd.int .u8) _ 5 ?hg (N:=81) ?hd (xs:=([(rd_T46 y6011 x51_3).f1,(rd_T46 y6011 x51_3).f0]:List Int)) (inner:=[.int .u8 ((rd_T46 y6011 x51_3).f1),.int .u8 ((rd_T46 y6011 x51_3).f0)]) (ok:=fun _=>True) (okp:=fun _=>True) ?hr ?hp (fun _ hk=>hk) trivial (Below.refl _ _) (Nat.le_refl _) (by simp) ?_;(case hd=>rfl);(case hg=>rfl);(case hr=>first|(go_simp;done)|(go_simp;rfl));(case hp=>exact (Reps.one (show Kd.M (Kd.int .u8) _ _ _ ((rd_T46 y6011 x51_3).f1) [.int .u8 ((rd_T46 y6011 x51_3).f1)] from rfl) (Reps.one (show Kd.M (Kd.int .u8) _ _ _ ((rd_T46 y6011 x51_3).f0) [.int .u8 ((rd_T46 y6011 x51_3).f0)] from rfl) (Reps.none _ _))));intro v6022 w50 ho51 hb hg_ hnew_;clear hg_ hnew_;(first|rw [← Ny6021.out] at ho51|(simp only [Int.reduceToNat] at ho51;rw [← Ny6021.out] at ho51));replace HO_49:=zk (Kd.R_below (za0 HO_49.out) hb);replace HO6019:=zk (Kd.R_below (za0 HO6019.out) hb);have HO6023:=zk (Kd.R_lower ho51 (below_size za3));replace BK6001:=zk (zb BK6001.out hb);replace BK6015:=zk (zb BK6015.out hb);replace HB:=zk (below_step za3 hb);clear hb ho51;have hcv52:=own_string (P:=Try.prog) Try.underlying22 Try.underlying5 Try.underlying9 (Kd.own_of_R HO6023.out))|((with_reducible refine gate_builtin (b:=.append) (xs:=#[.tmp 74,.tmp 84]) rfl ?_);at_builtin;refine Kd.R_append k33 (w0:=w) w.heap.size rfl (.tmp 74) (.tmp 84) 27 33 (.agg #[(.int .u8 0),(.string ⟨#[]⟩)]) 24 rfl Try.underlying27 info33 rfl (by decide) (by omega) v6018 y6017 (⟨(rd_T46 y6011 x51_3).f0,strOfNums y6021⟩:S33) [.int .u8 ((rd_T46 y6011 x51_3).f0),.string (strOfNums y6021)] (fun _=>True) (fun _=>False) rfl rfl ?aP (fun _ hk=>hk.elim) ?aF ?aO ?aB ?aS ?aL ?_;(case aP=>exact k33_mkM _ _ _ (⟨(rd_T46 y6011 x51_3).f0,strOfNums y6021⟩:S33));(case aB=>exact za3);(case aF=>exact (fun _ _=>trivial));(case aO=>exact (za0 HO6019.out));(case aS=>exact (below_size za3));(case aL=>have:=LMc44.out;omega);intro v6025 w53 ho hb hg hat;rw [← Ny6024.out] at ho;replace HO_49:=zk (Kd.R_over' (za0 HO_49.out) (Kd.R_typed (za0 HO6019.out)) (by decide) hg);replace BK6001:=zk (blk_grown (g:=gb6001) (o:=.cells #[.string t6002,.string t6003] 25 (0,0)) (za1 BK6001.out) hg (Kd.R_ne HO6019.out BK6001.out (by decide)));replace BK6015:=zk (blk_grown (g:=gb6015) (o:=.cells #[.int .u8 ((rd_T46 y6011 x51_3).f0),.int .u8 ((rd_T46 y6011 x51_3).f1)] 46 (0,0)) (za1 BK6015.out) hg (Kd.R_ne HO6019.out BK6015.out (by decide)));replace HO6023:=zk (Kd.R_over' (za0 HO6023.out) (Kd.R_typed (za0 HO6019.out)) (by decide) hg);replace HB:=zk (hb);have HO6026:=zk (ho);clear HO6019;clear ho hb hg hat))
             repeat (go_quiet (first|((with_reducible refine gate_dst (N:=7) rfl ?_);refine zE (N:=7) (cs:=#[.int .u8 0,.int .u8 0]) (t:=46) ?_;intro gb6015 hg w45 hbox hb;replace HO_5:=zk (Kd.R_below (za0 HO_5.out) hb);replace HO_49:=zk (Kd.R_below (Kd.R_elderB (za0 HO_49.out) gb6015 (Nat.le_of_eq hg.symm)) hb);have BK6015:=zk (hbox);have GW6015:=zk (zs (w:=w) hg za3);have GE6015:=zk (zs (w:=w) hg za3);have NB6001_6015:=zk ((by rw [hg];exact Nat.ne_of_lt (zl BK6001.out):gb6001 ≠ gb6015));have NB6015_6001:=zk ((by rw [hg];exact Nat.ne_of_gt (zl BK6001.out):gb6015 ≠ gb6001));replace BK6001:=zk (zb BK6001.out hb);replace HB:=zk (below_step za3 hb);clear hb hbox hg;have hnb46:=NB6015_6001.out;have hnc46:=NB6001_6015.out;obtain ⟨hcz47_0,hcz47_1,hfz47_0,hfz47_1⟩:=blk2 BK6015.out)|(go_at_call 25;(with_reducible refine (impl_isVariable.calls ((rd_T46 y6011 x51_3).f0) _ _ A39.out).mono ?_);rintro e w' ⟨rfl,⟨nd,rfl⟩⟩;(try first|exact ⟨rfl,_,World.drewN_drewN _ _ _⟩|exact ⟨rfl,_,Eq.trans (World.drewN_drewN _ _ _) (congrArg (World.drewN _) (Nat.add_assoc _ _ _))⟩))|((with_reducible refine gate_builtin (b:=.append) (xs:=#[.tmp 59,.tmp 63]) rfl ?_);at_builtin;refine Kd.R_append k33 (w0:=w) w.heap.size rfl (.tmp 59) (.tmp 63) 27 33 (.agg #[(.int .u8 0),(.string ⟨#[]⟩)]) 24 rfl Try.underlying27 info33 rfl (by decide) (by omega) u5 x5_3 (⟨(rd_T46 y6011 x51_3).f0,(⟨#[]⟩:ByteArray)⟩:S33) [.int .u8 ((rd_T46 y6011 x51_3).f0),.string (⟨#[]⟩:ByteArray)] (fun _=>True) (fun _=>False) rfl (by first|(go_simp;done)|(go_simp;rfl)) ?aP (fun _ hk=>hk.elim) ?aF ?aO ?aB ?aS ?aL ?_;(case aP=>exact k33_mkM _ _ _ (⟨(rd_T46 y6011 x51_3).f0,(⟨#[]⟩:ByteArray)⟩:S33));(case aB=>exact za3);(case aF=>exact (fun _ _=>trivial));(case aO=>exact za47);(case aS=>exact (below_size za3));(case aL=>have:=LMc41.out;omega);intro v6018 w48 ho hb hg hat;rw [← Ny6017.out] at ho;replace HO_49:=zk (Kd.R_over' za43 (Kd.R_typed za52) (by decide) hg);replace BK6001:=zk (blk_grown (g:=gb6001) (o:=.cells #[.string t6002,.string t6003] 25 (0,0)) za28 hg (Kd.R_ne HO_5.out BK6001.out (by decide)));replace HB:=zk (hb);have HO6019:=zk (ho);replace BK6015:=zk (blk_grown (g:=gb6015) (o:=.cells #[.int .u8 ((rd_T46 y6011 x51_3).f0),.int .u8 ((rd_T46 y6011 x51_3).f1)] 46 (0,0)) (zpu BK6015.out) hg (Kd.R_ne HO_5.out BK6015.out (by decide)));clear HO_5;clear ho hb hg hat;obtain ⟨hcz49_0,hcz49_1,hfz49_0,hfz49_1⟩:=blk2 BK6015.out)|(go_at_call 25;(with_reducible refine (impl_isVariable.calls ((rd_T46 y6011 x51_3).f1) _ _ A42.out).mono ?_);rintro e w' ⟨rfl,⟨nd,rfl⟩⟩;(try first|exact ⟨rfl,_,World.drewN_drewN _ _ _⟩|exact ⟨rfl,_,Eq.trans (World.drewN_drewN _ _ _) (congrArg (World.drewN _) (Nat.add_assoc _ _ _))⟩))|((with_reducible refine gate_dst (N:=81) rfl ?_);refine Kd.R_lit (Kd.int .u8) _ 5 ?hg (N:=81) ?hd (xs:=([(rd_T46 y6011 x51_3).f1,(rd_T46 y6011 x51_3).f0]:List Int)) (inner:=[.int .u8 ((rd_T46 y6011 x51_3).f1),.int .u8 ((rd_T46 y6011 x51_3).f0)]) (ok:=fun _=>True) (okp:=fun _=>True) ?hr ?hp (fun _ hk=>hk) trivial (Below.refl _ _) (Nat.le_refl _) (by simp) ?_;(case hd=>rfl);(case hg=>rfl);(case hr=>first|(go_simp;done)|(go_simp;rfl));(case hp=>exact (Reps.one (show Kd.M (Kd.int .u8) _ _ _ ((rd_T46 y6011 x51_3).f1) [.int .u8 ((rd_T46 y6011 x51_3).f1)] from rfl) (Reps.one (show Kd.M (Kd.int .u8) _ _ _ ((rd_T46 y6011 x51_3).f0) [.int .u8 ((rd_T46 y6011 x51_3).f0)] from rfl) (Reps.none _ _))));intro v6022 w50 ho51 hb hg_ hnew_;clear hg_ hnew_;(first|rw [← Ny6021.out] at ho51|(simp only [Int.reduceToNat] at ho51;rw [← Ny6021.out] at ho51));replace HO_49:=zk (Kd.R_below (za0 HO_49.out) hb);replace HO6019:=zk (Kd.R_below (za0 HO6019.out) hb);have HO6023:=zk (Kd.R_lower ho51 (below_size za3));replace BK6001:=zk (zb BK6001.out hb);replace BK6015:=zk (zb BK6015.out hb);replace HB:=zk (below_step za3 hb);clear hb ho51;have hcv52:=own_string (P:=Try.prog) Try.underlying22 Try.underlying5 Try.underlying9 (Kd.own_of_R HO6023.out))|((with_reducible refine gate_builtin (b:=.append) (xs:=#[.tmp 74,.tmp 84]) rfl ?_);at_builtin;refine Kd.R_append k33 (w0:=w) w.heap.size rfl (.tmp 74) (.tmp 84) 27 33 (.agg #[(.int .u8 0),(.string ⟨#[]⟩)]) 24 rfl Try.underlying27 info33 rfl (by decide) (by omega) v6018 y6017 (⟨(rd_T46 y6011 x51_3).f0,strOfNums y6021⟩:S33) [.int .u8 ((rd_T46 y6011 x51_3).f0),.string (strOfNums y6021)] (fun _=>True) (fun _=>False) rfl rfl ?aP (fun _ hk=>hk.elim) ?aF ?aO ?aB ?aS ?aL ?_;(case aP=>exact k33_mkM _ _ _ (⟨(rd_T46 y6011 x51_3).f0,strOfNums y6021⟩:S33));(case aB=>exact za3);(case aF=>exact (fun _ _=>trivial));(case aO=>exact (za0 HO6019.out));(case aS=>exact (below_size za3));(case aL=>have:=LMc44.out;omega);intro v6025 w53 ho hb hg hat;rw [← Ny6024.out] at ho;replace HO_49:=zk (Kd.R_over' (za0 HO_49.out) (Kd.R_typed (za0 HO6019.out)) (by decide) hg);replace BK6001:=zk (blk_grown (g:=gb6001) (o:=.cells #[.string t6002,.string t6003] 25 (0,0)) (za1 BK6001.out) hg (Kd.R_ne HO6019.out BK6001.out (by decide)));replace BK6015:=zk (blk_grown (g:=gb6015) (o:=.cells #[.int .u8 ((rd_T46 y6011 x51_3).f0),.int .u8 ((rd_T46 y6011 x51_3).f1)] 46 (0,0)) (za1 BK6015.out) hg (Kd.R_ne HO6019.out BK6015.out (by decide)));replace HO6023:=zk (Kd.R_over' (za0 HO6023.out) (Kd.R_typed (za0 HO6019.out)) (by decide) hg);replace HB:=zk (hb);have HO6026:=zk (ho);clear HO6019;clear ho hb hg hat));try go_wp2_with (first|((with_reducible refine gate_dst (N:=7) rfl ?_);refine zE (N:=7) (cs:=#[.int .u8 0,.int .u8 0]) (t:=46) ?_;intro gb6015 hg w45 hbox hb;replace HO_5:=zk (Kd.R_below (za0 HO_5.out) hb);replace HO_49:=zk (Kd.R_below (Kd.R_elderB (za0 HO_49.out) gb6015 (Nat.le_of_eq hg.symm)) hb);have BK6015:=zk (hbox);have GW6015:=zk (zs (w:=w) hg za3);have GE6015:=zk (zs (w:=w) hg za3);have NB6001_6015:=zk ((by rw [hg];exact Nat.ne_of_lt (zl BK6001.out):gb6001 ≠ gb6015));have NB6015_6001:=zk ((by rw [hg];exact Nat.ne_of_gt (zl BK6001.out):gb6015 ≠ gb6001));replace BK6001:=zk (zb BK6001.out hb);replace HB:=zk (below_step za3 hb);clear hb hbox hg;have hnb46:=NB6015_6001.out;have hnc46:=NB6001_6015.out;obtain ⟨hcz47_0,hcz47_1,hfz47_0,hfz47_1⟩:=blk2 BK6015.out)|(go_at_call 25;(with_reducible refine (impl_isVariable.calls ((rd_T46 y6011 x51_3).f0) _ _ A39.out).mono ?_);rintro e w' ⟨rfl,⟨nd,rfl⟩⟩;(try first|exact ⟨rfl,_,World.drewN_drewN _ _ _⟩|exact ⟨rfl,_,Eq.trans (World.drewN_drewN _ _ _) (congrArg (World.drewN _) (Nat.add_assoc _ _ _))⟩))|((with_reducible refine gate_builtin (b:=.append) (xs:=#[.tmp 59,.tmp 63]) rfl ?_);at_builtin;refine Kd.R_append k33 (w0:=w) w.heap.size rfl (.tmp 59) (.tmp 63) 27 33 (.agg #[(.int .u8 0),(.string ⟨#[]⟩)]) 24 rfl Try.underlying27 info33 rfl (by decide) (by omega) u5 x5_3 (⟨(rd_T46 y6011 x51_3).f0,(⟨#[]⟩:ByteArray)⟩:S33) [.int .u8 ((rd_T46 y6011 x51_3).f0),.string (⟨#[]⟩:ByteArray)] (fun _=>True) (fun _=>False) rfl (by first|(go_simp;done)|(go_simp;rfl)) ?aP (fun _ hk=>hk.elim) ?aF ?aO ?aB ?aS ?aL ?_;(case aP=>exact k33_mkM _ _ _ (⟨(rd_T46 y6011 x51_3).f0,(⟨#[]⟩:ByteArray)⟩:S33));(case aB=>exact za3);(case aF=>exact (fun _ _=>trivial));(case aO=>exact za47);(case aS=>exact (below_size za3));(case aL=>have:=LMc41.out;omega);intro v6018 w48 ho hb hg hat;rw [← Ny6017.out] at ho;replace HO_49:=zk (Kd.R_over' za43 (Kd.R_typed za52) (by decide) hg);replace BK6001:=zk (blk_grown (g:=gb6001) (o:=.cells #[.string t6002,.string t6003] 25 (0,0)) za28 hg (Kd.R_ne HO_5.out BK6001.out (by decide)));replace HB:=zk (hb);have HO6019:=zk (ho);replace BK6015:=zk (blk_grown (g:=gb6015) (o:=.cells #[.int .u8 ((rd_T46 y6011 x51_3).f0),.int .u8 ((rd_T46 y6011 x51_3).f1)] 46 (0,0)) (zpu BK6015.out) hg (Kd.R_ne HO_5.out BK6015.out (by decide)));clear HO_5;clear ho hb hg hat;obtain ⟨hcz49_0,hcz49_1,hfz49_0,hfz49_1⟩:=blk2 BK6015.out)|(go_at_call 25;(with_reducible refine (impl_isVariable.calls ((rd_T46 y6011 x51_3).f1) _ _ A42.out).mono ?_);rintro e w' ⟨rfl,⟨nd,rfl⟩⟩;(try first|exact ⟨rfl,_,World.drewN_drewN _ _ _⟩|exact ⟨rfl,_,Eq.trans (World.drewN_drewN _ _ _) (congrArg (World.drewN _) (Nat.add_assoc _ _ _))⟩))|((with_reducible refine gate_dst (N:=81) rfl ?_);refine Kd.R_lit (Kd.int .u8) _ 5 ?hg (N:=81) ?hd (xs:=([(rd_T46 y6011 x51_3).f1,(rd_T46 y6011 x51_3).f0]:List Int)) (inner:=[.int .u8 ((rd_T46 y6011 x51_3).f1),.int .u8 ((rd_T46 y6011 x51_3).f0)]) (ok:=fun _=>True) (okp:=fun _=>True) ?hr ?hp (fun _ hk=>hk) trivial (Below.refl _ _) (Nat.le_refl _) (by simp) ?_;(case hd=>rfl);(case hg=>rfl);(case hr=>first|(go_simp;done)|(go_simp;rfl));(case hp=>exact (Reps.one (show Kd.M (Kd.int .u8) _ _ _ ((rd_T46 y6011 x51_3).f1) [.int .u8 ((rd_T46 y6011 x51_3).f1)] from rfl) (Reps.one (show Kd.M (Kd.int .u8) _ _ _ ((rd_T46 y6011 x51_3).f0) [.int .u8 ((rd_T46 y6011 x51_3).f0)] from rfl) (Reps.none _ _))));intro v6022 w50 ho51 hb hg_ hnew_;clear hg_ hnew_;(first|rw [← Ny6021.out] at ho51|(simp only [Int.reduceToNat] at ho51;rw [← Ny6021.out] at ho51));replace HO_49:=zk (Kd.R_below (za0 HO_49.out) hb);replace HO6019:=zk (Kd.R_below (za0 HO6019.out) hb);have HO6023:=zk (Kd.R_lower ho51 (below_size za3));replace BK6001:=zk (zb BK6001.out hb);replace BK6015:=zk (zb BK6015.out hb);replace HB:=zk (below_step za3 hb);clear hb ho51;have hcv52:=own_string (P:=Try.prog) Try.underlying22 Try.underlying5 Try.underlying9 (Kd.own_of_R HO6023.out))|((with_reducible refine gate_builtin (b:=.append) (xs:=#[.tmp 74,.tmp 84]) rfl ?_);at_builtin;refine Kd.R_append k33 (w0:=w) w.heap.size rfl (.tmp 74) (.tmp 84) 27 33 (.agg #[(.int .u8 0),(.string ⟨#[]⟩)]) 24 rfl Try.underlying27 info33 rfl (by decide) (by omega) v6018 y6017 (⟨(rd_T46 y6011 x51_3).f0,strOfNums y6021⟩:S33) [.int .u8 ((rd_T46 y6011 x51_3).f0),.string (strOfNums y6021)] (fun _=>True) (fun _=>False) rfl rfl ?aP (fun _ hk=>hk.elim) ?aF ?aO ?aB ?aS ?aL ?_;(case aP=>exact k33_mkM _ _ _ (⟨(rd_T46 y6011 x51_3).f0,strOfNums y6021⟩:S33));(case aB=>exact za3);(case aF=>exact (fun _ _=>trivial));(case aO=>exact (za0 HO6019.out));(case aS=>exact (below_size za3));(case aL=>have:=LMc44.out;omega);intro v6025 w53 ho hb hg hat;rw [← Ny6024.out] at ho;replace HO_49:=zk (Kd.R_over' (za0 HO_49.out) (Kd.R_typed (za0 HO6019.out)) (by decide) hg);replace BK6001:=zk (blk_grown (g:=gb6001) (o:=.cells #[.string t6002,.string t6003] 25 (0,0)) (za1 BK6001.out) hg (Kd.R_ne HO6019.out BK6001.out (by decide)));replace BK6015:=zk (blk_grown (g:=gb6015) (o:=.cells #[.int .u8 ((rd_T46 y6011 x51_3).f0),.int .u8 ((rd_T46 y6011 x51_3).f1)] 46 (0,0)) (za1 BK6015.out) hg (Kd.R_ne HO6019.out BK6015.out (by decide)));replace HO6023:=zk (Kd.R_over' (za0 HO6023.out) (Kd.R_typed (za0 HO6019.out)) (by decide) hg);replace HB:=zk (hb);have HO6026:=zk (ho);clear HO6019;clear ho hb hg hat)))
             go_roundg k3
             case measure=>have:=HJ2.out;have:=HJ14.out;have:=HK3.out;omega
             case rel=>exact ⟨(y6024),(wrap64 (x51_3+1)),za8,H',⟨za109⟩,⟨za0 HO6026.out⟩,⟨za95⟩,⟨za1 BK6001.out⟩,⟨za3⟩⟩
           · rw [if_neg c44] at H
             exact absurd H (by simp)
           replace c43:=Bool.eq_false_iff.mpr c43
           subst c43
           rw [if_neg (show ¬ (false=true) by decide)] at H
           try dsimp only at H
           replace H:=zo H
           obtain ⟨t6027,A540,H⟩:=H
           try dsimp only at H
           have A54:=zk A540
           clear A540
           by_cases c55:t6027 ≥ 0
           rw [if_pos c55] at H
           have c55b0:=zdle c55
           clear c55
           obtain ⟨y6028,hy6028⟩:∃ y_:List Int,y_=(([(rd_T46 y6011 x51_3).f1,(rd_T46 y6011 x51_3).f0]:List Int)):=⟨_,rfl⟩
           replace H:(if y6017.length < 5864062014805 then (impl_MovesOf.l0 k3 (y6017 ++ [(⟨(rd_T46 y6011 x51_3).f0,strOfNums y6028⟩:S33)]) y6011 (y6011.length:Int) (wrap64 (x51_3+1))) else (none))=some r:=by first|(rw [hy6028];with_reducible exact H)|(have H2_:=(Option.bind_some _ _).symm.trans H;rw [hy6028];with_reducible exact H2_)|(have H2_:=(Option.bind_some _ _).symm.trans H;with_reducible exact H2_)|with_reducible exact H|(rw [hy6028];exact H)|exact H
           have Ny6028:=zk hy6028
           clear hy6028
           by_cases c56:y6017.length < 5864062014805
           rw [if_pos c56] at H
           have LMc56:=zk c56
           clear c56
           obtain ⟨y6031,hy6031⟩:∃ y_:List (S33),y_=(y6017 ++ [(⟨(rd_T46 y6011 x51_3).f0,strOfNums y6028⟩:S33)]):=⟨_,rfl⟩
           replace H:(impl_MovesOf.l0 k3 y6031 y6011 (y6011.length:Int) (wrap64 (x51_3+1)))=some r:=by first|(rw [hy6031];with_reducible exact H)|(have H2_:=(Option.bind_some _ _).symm.trans H;rw [hy6031];with_reducible exact H2_)|(have H2_:=(Option.bind_some _ _).symm.trans H;with_reducible exact H2_)|with_reducible exact H|(rw [hy6031];exact H)|exact H
           have Ny6031:=zk hy6031
           clear hy6031
           have fin0_:=zk trivial
           rotate_left
           · rw [if_neg c56] at H
             exact absurd H (by simp)
           rw [if_neg c55] at H
           have c55b0:=zdnle c55
           clear c55
           have fin1_:=zk trivial
           rotate_left
           · rw [if_neg c41] at H
             exact absurd H (by simp)
           replace c40:=Bool.eq_false_iff.mpr c40
           subst c40
           rw [if_neg (show ¬ (false=true) by decide)] at H
           try dsimp only at H
           have fin2_:=zk trivial
           rotate_left
           · rw [if_neg c38] at H
             exact absurd H (by simp)
           · rw [if_neg c37] at H
             exact absurd H (by simp)
           · rw [if_neg c36] at H
             have c36b0:=zdnl c36
             clear c36
             obtain rfl:=zi H
             go_wp2
             repeat (go_quiet (fail);try go_wp2)
             go_ret
             exact ⟨_,za9,za0 HO_5.out,za3⟩
           all_goals
            have H':=zk H
            clear H
            have p6014:0≤(x51_3:Int):=of_decide_eq_true za7
            have q6014:x51_3 < (y6011.length:Int):=of_decide_eq_true za7
            obtain ⟨ad6014,e6014,hx6014_0,hx6014_1⟩:=at_T46 (Kd.R_reads' HO_49.out).2.2 x51_3 p6014 q6014
            cases e6014
            replace p6014:=eq_true p6014
            replace q6014:=eq_true q6014
            go_wp2_with (first|((with_reducible refine gate_dst (N:=7) rfl ?_);refine zE (N:=7) (cs:=#[.int .u8 0,.int .u8 0]) (t:=46) ?_;intro gb6015 hg w57 hbox hb;replace HO_5:=zk (Kd.R_below (za0 HO_5.out) hb);replace HO_49:=zk (Kd.R_below (Kd.R_elderB (za0 HO_49.out) gb6015 (Nat.le_of_eq hg.symm)) hb);have BK6015:=zk (hbox);have GW6015:=zk (zs (w:=w) hg za3);have GE6015:=zk (zs (w:=w) hg za3);have NB6001_6015:=zk ((by rw [hg];exact Nat.ne_of_lt (zl BK6001.out):gb6001 ≠ gb6015));have NB6015_6001:=zk ((by rw [hg];exact Nat.ne_of_gt (zl BK6001.out):gb6015 ≠ gb6001));replace BK6001:=zk (zb BK6001.out hb);replace HB:=zk (below_step za3 hb);clear hb hbox hg;have hnb58:=NB6015_6001.out;have hnc58:=NB6001_6015.out;obtain ⟨hcz59_0,hcz59_1,hfz59_0,hfz59_1⟩:=blk2 BK6015.out)|(go_at_call 25;(with_reducible refine (impl_isVariable.calls ((rd_T46 y6011 x51_3).f0) _ _ A39.out).mono ?_);rintro e w' ⟨rfl,⟨nd,rfl⟩⟩;(try first|exact ⟨rfl,_,World.drewN_drewN _ _ _⟩|exact ⟨rfl,_,Eq.trans (World.drewN_drewN _ _ _) (congrArg (World.drewN _) (Nat.add_assoc _ _ _))⟩))|((with_reducible refine gate_builtin (b:=.append) (xs:=#[.tmp 59,.tmp 63]) rfl ?_);at_builtin;refine Kd.R_append k33 (w0:=w) w.heap.size rfl (.tmp 59) (.tmp 63) 27 33 (.agg #[(.int .u8 0),(.string ⟨#[]⟩)]) 24 rfl Try.underlying27 info33 rfl (by decide) (by omega) u5 x5_3 (⟨(rd_T46 y6011 x51_3).f0,(⟨#[]⟩:ByteArray)⟩:S33) [.int .u8 ((rd_T46 y6011 x51_3).f0),.string (⟨#[]⟩:ByteArray)] (fun _=>True) (fun _=>False) rfl (by first|(go_simp;done)|(go_simp;rfl)) ?aP (fun _ hk=>hk.elim) ?aF ?aO ?aB ?aS ?aL ?_;(case aP=>exact k33_mkM _ _ _ (⟨(rd_T46 y6011 x51_3).f0,(⟨#[]⟩:ByteArray)⟩:S33));(case aB=>exact za3);(case aF=>exact (fun _ _=>trivial));(case aO=>exact za47);(case aS=>exact (below_size za3));(case aL=>have:=LMc41.out;omega);intro v6018 w60 ho hb hg hat;rw [← Ny6017.out] at ho;replace HO_49:=zk (Kd.R_over' za43 (Kd.R_typed za52) (by decide) hg);replace BK6001:=zk (blk_grown (g:=gb6001) (o:=.cells #[.string t6002,.string t6003] 25 (0,0)) za28 hg (Kd.R_ne HO_5.out BK6001.out (by decide)));replace HB:=zk (hb);have HO6019:=zk (ho);replace BK6015:=zk (blk_grown (g:=gb6015) (o:=.cells #[.int .u8 ((rd_T46 y6011 x51_3).f0),.int .u8 ((rd_T46 y6011 x51_3).f1)] 46 (0,0)) (zpu BK6015.out) hg (Kd.R_ne HO_5.out BK6015.out (by decide)));clear HO_5;clear ho hb hg hat;obtain ⟨hcz61_0,hcz61_1,hfz61_0,hfz61_1⟩:=blk2 BK6015.out)|(go_at_call 25;(with_reducible refine (impl_isVariable.calls ((rd_T46 y6011 x51_3).f1) _ _ A42.out).mono ?_);rintro e w' ⟨rfl,⟨nd,rfl⟩⟩;(try first|exact ⟨rfl,_,World.drewN_drewN _ _ _⟩|exact ⟨rfl,_,Eq.trans (World.drewN_drewN _ _ _) (congrArg (World.drewN _) (Nat.add_assoc _ _ _))⟩))|(go_at_call 26;(with_reducible refine (impl_LetterIndex.calls ((rd_T46 y6011 x51_3).f1) t6027 _ A54.out).mono ?_);rintro e w' ⟨rfl,⟨nd,rfl⟩⟩;(try first|exact ⟨rfl,_,World.drewN_drewN _ _ _⟩|exact ⟨rfl,_,Eq.trans (World.drewN_drewN _ _ _) (congrArg (World.drewN _) (Nat.add_assoc _ _ _))⟩))|((with_reducible refine gate_dst (N:=81) rfl ?_);refine Kd.R_lit (Kd.int .u8) _ 5 ?hg (N:=81) ?hd (xs:=([(rd_T46 y6011 x51_3).f1,(rd_T46 y6011 x51_3).f0]:List Int)) (inner:=[.int .u8 ((rd_T46 y6011 x51_3).f1),.int .u8 ((rd_T46 y6011 x51_3).f0)]) (ok:=fun _=>True) (okp:=fun _=>True) ?hr ?hp (fun _ hk=>hk) trivial (Below.refl _ _) (Nat.le_refl _) (by simp) ?_;(case hd=>rfl);(case hg=>rfl);(case hr=>first|(go_simp;done)|(go_simp;rfl));(case hp=>exact (Reps.one (show Kd.M (Kd.int .u8) _ _ _ ((rd_T46 y6011 x51_3).f1) [.int .u8 ((rd_T46 y6011 x51_3).f1)] from rfl) (Reps.one (show Kd.M (Kd.int .u8) _ _ _ ((rd_T46 y6011 x51_3).f0) [.int .u8 ((rd_T46 y6011 x51_3).f0)] from rfl) (Reps.none _ _))));intro v6029 w62 ho63 hb hg_ hnew_;clear hg_ hnew_;(first|rw [← Ny6028.out] at ho63|(simp only [Int.reduceToNat] at ho63;rw [← Ny6028.out] at ho63));replace HO_49:=zk (Kd.R_below (za0 HO_49.out) hb);replace HO6019:=zk (Kd.R_below (za0 HO6019.out) hb);have HO6030:=zk (Kd.R_lower ho63 (below_size za3));replace BK6001:=zk (zb BK6001.out hb);replace BK6015:=zk (zb BK6015.out hb);replace HB:=zk (below_step za3 hb);clear hb ho63;have hcv64:=own_string (P:=Try.prog) Try.underlying22 Try.underlying5 Try.underlying9 (Kd.own_of_R HO6030.out))|((with_reducible refine gate_builtin (b:=.append) (xs:=#[.tmp 74,.tmp 84]) rfl ?_);at_builtin;refine Kd.R_append k33 (w0:=w) w.heap.size rfl (.tmp 74) (.tmp 84) 27 33 (.agg #[(.int .u8 0),(.string ⟨#[]⟩)]) 24 rfl Try.underlying27 info33 rfl (by decide) (by omega) v6018 y6017 (⟨(rd_T46 y6011 x51_3).f0,strOfNums y6028⟩:S33) [.int .u8 ((rd_T46 y6011 x51_3).f0),.string (strOfNums y6028)] (fun _=>True) (fun _=>False) rfl rfl ?aP (fun _ hk=>hk.elim) ?aF ?aO ?aB ?aS ?aL ?_;(case aP=>exact k33_mkM _ _ _ (⟨(rd_T46 y6011 x51_3).f0,strOfNums y6028⟩:S33));(case aB=>exact za3);(case aF=>exact (fun _ _=>trivial));(case aO=>exact (za0 HO6019.out));(case aS=>exact (below_size za3));(case aL=>have:=LMc56.out;omega);intro v6032 w65 ho hb hg hat;rw [← Ny6031.out] at ho;replace HO_49:=zk (Kd.R_over' (za0 HO_49.out) (Kd.R_typed (za0 HO6019.out)) (by decide) hg);replace BK6001:=zk (blk_grown (g:=gb6001) (o:=.cells #[.string t6002,.string t6003] 25 (0,0)) (za1 BK6001.out) hg (Kd.R_ne HO6019.out BK6001.out (by decide)));replace BK6015:=zk (blk_grown (g:=gb6015) (o:=.cells #[.int .u8 ((rd_T46 y6011 x51_3).f0),.int .u8 ((rd_T46 y6011 x51_3).f1)] 46 (0,0)) (za1 BK6015.out) hg (Kd.R_ne HO6019.out BK6015.out (by decide)));replace HO6030:=zk (Kd.R_over' (za0 HO6030.out) (Kd.R_typed (za0 HO6019.out)) (by decide) hg);replace HB:=zk (hb);have HO6033:=zk (ho);clear HO6019;clear ho hb hg hat)|((with_reducible refine gate_builtin (b:=.append) (xs:=#[.tmp 59,.tmp 63]) rfl ?_);at_builtin;refine Kd.R_append k33 (w0:=w) w.heap.size rfl (.tmp 59) (.tmp 63) 27 33 (.agg #[(.int .u8 0),(.string ⟨#[]⟩)]) 24 rfl Try.underlying27 info33 rfl (by decide) (by omega) u5 x5_3 (⟨(rd_T46 y6011 x51_3).f0,(⟨#[]⟩:ByteArray)⟩:S33) [.int .u8 ((rd_T46 y6011 x51_3).f0),.string (⟨#[]⟩:ByteArray)] (fun _=>True) (fun _=>False) rfl (by first|(go_simp;done)|(go_simp;rfl)) ?aP (fun _ hk=>hk.elim) ?aF ?aO ?aB ?aS ?aL ?_;(case aP=>exact k33_mkM _ _ _ (⟨(rd_T46 y6011 x51_3).f0,(⟨#[]⟩:ByteArray)⟩:S33));(case aB=>exact za3);(case aF=>exact (fun _ _=>trivial));(case aO=>exact za47);(case aS=>exact (below_size za3));(case aL=>have:=LMc41.out;omega);intro v6018 w69 ho hb hg hat;rw [← Ny6017.out] at ho;replace HO_49:=zk (Kd.R_over' za43 (Kd.R_typed za52) (by decide) hg);replace BK6001:=zk (blk_grown (g:=gb6001) (o:=.cells #[.string t6002,.string t6003] 25 (0,0)) za28 hg (Kd.R_ne HO_5.out BK6001.out (by decide)));replace HB:=zk (hb);have HO6019:=zk (ho);replace BK6015:=zk (blk_grown (g:=gb6015) (o:=.cells #[.int .u8 ((rd_T46 y6011 x51_3).f0),.int .u8 ((rd_T46 y6011 x51_3).f1)] 46 (0,0)) (zpu BK6015.out) hg (Kd.R_ne HO_5.out BK6015.out (by decide)));clear HO_5;clear ho hb hg hat;obtain ⟨hcz70_0,hcz70_1,hfz70_0,hfz70_1⟩:=blk2 BK6015.out))
            repeat (go_quiet (first|((with_reducible refine gate_dst (N:=7) rfl ?_);refine zE (N:=7) (cs:=#[.int .u8 0,.int .u8 0]) (t:=46) ?_;intro gb6015 hg w57 hbox hb;replace HO_5:=zk (Kd.R_below (za0 HO_5.out) hb);replace HO_49:=zk (Kd.R_below (Kd.R_elderB (za0 HO_49.out) gb6015 (Nat.le_of_eq hg.symm)) hb);have BK6015:=zk (hbox);have GW6015:=zk (zs (w:=w) hg za3);have GE6015:=zk (zs (w:=w) hg za3);have NB6001_6015:=zk ((by rw [hg];exact Nat.ne_of_lt (zl BK6001.out):gb6001 ≠ gb6015));have NB6015_6001:=zk ((by rw [hg];exact Nat.ne_of_gt (zl BK6001.out):gb6015 ≠ gb6001));replace BK6001:=zk (zb BK6001.out hb);replace HB:=zk (below_step za3 hb);clear hb hbox hg;have hnb58:=NB6015_6001.out;have hnc58:=NB6001_6015.out;obtain ⟨hcz59_0,hcz59_1,hfz59_0,hfz59_1⟩:=blk2 BK6015.out)|(go_at_call 25;(with_reducible refine (impl_isVariable.calls ((rd_T46 y6011 x51_3).f0) _ _ A39.out).mono ?_);rintro e w' ⟨rfl,⟨nd,rfl⟩⟩;(try first|exact ⟨rfl,_,World.drewN_drewN _ _ _⟩|exact ⟨rfl,_,Eq.trans (World.drewN_drewN _ _ _) (congrArg (World.drewN _) (Nat.add_assoc _ _ _))⟩))|((with_reducible refine gate_builtin (b:=.append) (xs:=#[.tmp 59,.tmp 63]) rfl ?_);at_builtin;refine Kd.R_append k33 (w0:=w) w.heap.size rfl (.tmp 59) (.tmp 63) 27 33 (.agg #[(.int .u8 0),(.string ⟨#[]⟩)]) 24 rfl Try.underlying27 info33 rfl (by decide) (by omega) u5 x5_3 (⟨(rd_T46 y6011 x51_3).f0,(⟨#[]⟩:ByteArray)⟩:S33) [.int .u8 ((rd_T46 y6011 x51_3).f0),.string (⟨#[]⟩:ByteArray)] (fun _=>True) (fun _=>False) rfl (by first|(go_simp;done)|(go_simp;rfl)) ?aP (fun _ hk=>hk.elim) ?aF ?aO ?aB ?aS ?aL ?_;(case aP=>exact k33_mkM _ _ _ (⟨(rd_T46 y6011 x51_3).f0,(⟨#[]⟩:ByteArray)⟩:S33));(case aB=>exact za3);(case aF=>exact (fun _ _=>trivial));(case aO=>exact za47);(case aS=>exact (below_size za3));(case aL=>have:=LMc41.out;omega);intro v6018 w60 ho hb hg hat;rw [← Ny6017.out] at ho;replace HO_49:=zk (Kd.R_over' za43 (Kd.R_typed za52) (by decide) hg);replace BK6001:=zk (blk_grown (g:=gb6001) (o:=.cells #[.string t6002,.string t6003] 25 (0,0)) za28 hg (Kd.R_ne HO_5.out BK6001.out (by decide)));replace HB:=zk (hb);have HO6019:=zk (ho);replace BK6015:=zk (blk_grown (g:=gb6015) (o:=.cells #[.int .u8 ((rd_T46 y6011 x51_3).f0),.int .u8 ((rd_T46 y6011 x51_3).f1)] 46 (0,0)) (zpu BK6015.out) hg (Kd.R_ne HO_5.out BK6015.out (by decide)));clear HO_5;clear ho hb hg hat;obtain ⟨hcz61_0,hcz61_1,hfz61_0,hfz61_1⟩:=blk2 BK6015.out)|(go_at_call 25;(with_reducible refine (impl_isVariable.calls ((rd_T46 y6011 x51_3).f1) _ _ A42.out).mono ?_);rintro e w' ⟨rfl,⟨nd,rfl⟩⟩;(try first|exact ⟨rfl,_,World.drewN_drewN _ _ _⟩|exact ⟨rfl,_,Eq.trans (World.drewN_drewN _ _ _) (congrArg (World.drewN _) (Nat.add_assoc _ _ _))⟩))|(go_at_call 26;(with_reducible refine (impl_LetterIndex.calls ((rd_T46 y6011 x51_3).f1) t6027 _ A54.out).mono ?_);rintro e w' ⟨rfl,⟨nd,rfl⟩⟩;(try first|exact ⟨rfl,_,World.drewN_drewN _ _ _⟩|exact ⟨rfl,_,Eq.trans (World.drewN_drewN _ _ _) (congrArg (World.drewN _) (Nat.add_assoc _ _ _))⟩))|((with_reducible refine gate_dst (N:=81) rfl ?_);refine Kd.R_lit (Kd.int .u8) _ 5 ?hg (N:=81) ?hd (xs:=([(rd_T46 y6011 x51_3).f1,(rd_T46 y6011 x51_3).f0]:List Int)) (inner:=[.int .u8 ((rd_T46 y6011 x51_3).f1),.int .u8 ((rd_T46 y6011 x51_3).f0)]) (ok:=fun _=>True) (okp:=fun _=>True) ?hr ?hp (fun _ hk=>hk) trivial (Below.refl _ _) (Nat.le_refl _) (by simp) ?_;(case hd=>rfl);(case hg=>rfl);(case hr=>first|(go_simp;done)|(go_simp;rfl));(case hp=>exact (Reps.one (show Kd.M (Kd.int .u8) _ _ _ ((rd_T46 y6011 x51_3).f1) [.int .u8 ((rd_T46 y6011 x51_3).f1)] from rfl) (Reps.one (show Kd.M (Kd.int .u8) _ _ _ ((rd_T46 y6011 x51_3).f0) [.int .u8 ((rd_T46 y6011 x51_3).f0)] from rfl) (Reps.none _ _))));intro v6029 w62 ho63 hb hg_ hnew_;clear hg_ hnew_;(first|rw [← Ny6028.out] at ho63|(simp only [Int.reduceToNat] at ho63;rw [← Ny6028.out] at ho63));replace HO_49:=zk (Kd.R_below (za0 HO_49.out) hb);replace HO6019:=zk (Kd.R_below (za0 HO6019.out) hb);have HO6030:=zk (Kd.R_lower ho63 (below_size za3));replace BK6001:=zk (zb BK6001.out hb);replace BK6015:=zk (zb BK6015.out hb);replace HB:=zk (below_step za3 hb);clear hb ho63;have hcv64:=own_string (P:=Try.prog) Try.underlying22 Try.underlying5 Try.underlying9 (Kd.own_of_R HO6030.out))|((with_reducible refine gate_builtin (b:=.append) (xs:=#[.tmp 74,.tmp 84]) rfl ?_);at_builtin;refine Kd.R_append k33 (w0:=w) w.heap.size rfl (.tmp 74) (.tmp 84) 27 33 (.agg #[(.int .u8 0),(.string ⟨#[]⟩)]) 24 rfl Try.underlying27 info33 rfl (by decide) (by omega) v6018 y6017 (⟨(rd_T46 y6011 x51_3).f0,strOfNums y6028⟩:S33) [.int .u8 ((rd_T46 y6011 x51_3).f0),.string (strOfNums y6028)] (fun _=>True) (fun _=>False) rfl rfl ?aP (fun _ hk=>hk.elim) ?aF ?aO ?aB ?aS ?aL ?_;(case aP=>exact k33_mkM _ _ _ (⟨(rd_T46 y6011 x51_3).f0,strOfNums y6028⟩:S33));(case aB=>exact za3);(case aF=>exact (fun _ _=>trivial));(case aO=>exact (za0 HO6019.out));(case aS=>exact (below_size za3));(case aL=>have:=LMc56.out;omega);intro v6032 w65 ho hb hg hat;rw [← Ny6031.out] at ho;replace HO_49:=zk (Kd.R_over' (za0 HO_49.out) (Kd.R_typed (za0 HO6019.out)) (by decide) hg);replace BK6001:=zk (blk_grown (g:=gb6001) (o:=.cells #[.string t6002,.string t6003] 25 (0,0)) (za1 BK6001.out) hg (Kd.R_ne HO6019.out BK6001.out (by decide)));replace BK6015:=zk (blk_grown (g:=gb6015) (o:=.cells #[.int .u8 ((rd_T46 y6011 x51_3).f0),.int .u8 ((rd_T46 y6011 x51_3).f1)] 46 (0,0)) (za1 BK6015.out) hg (Kd.R_ne HO6019.out BK6015.out (by decide)));replace HO6030:=zk (Kd.R_over' (za0 HO6030.out) (Kd.R_typed (za0 HO6019.out)) (by decide) hg);replace HB:=zk (hb);have HO6033:=zk (ho);clear HO6019;clear ho hb hg hat)|((with_reducible refine gate_builtin (b:=.append) (xs:=#[.tmp 59,.tmp 63]) rfl ?_);at_builtin;refine Kd.R_append k33 (w0:=w) w.heap.size rfl (.tmp 59) (.tmp 63) 27 33 (.agg #[(.int .u8 0),(.string ⟨#[]⟩)]) 24 rfl Try.underlying27 info33 rfl (by decide) (by omega) u5 x5_3 (⟨(rd_T46 y6011 x51_3).f0,(⟨#[]⟩:ByteArray)⟩:S33) [.int .u8 ((rd_T46 y6011 x51_3).f0),.string (⟨#[]⟩:ByteArray)] (fun _=>True) (fun _=>False) rfl (by first|(go_simp;done)|(go_simp;rfl)) ?aP (fun _ hk=>hk.elim) ?aF ?aO ?aB ?aS ?aL ?_;(case aP=>exact k33_mkM _ _ _ (⟨(rd_T46 y6011 x51_3).f0,(⟨#[]⟩:ByteArray)⟩:S33));(case aB=>exact za3);(case aF=>exact (fun _ _=>trivial));(case aO=>exact za47);(case aS=>exact (below_size za3));(case aL=>have:=LMc41.out;omega);intro v6018 w69 ho hb hg hat;rw [← Ny6017.out] at ho;replace HO_49:=zk (Kd.R_over' za43 (Kd.R_typed za52) (by decide) hg);replace BK6001:=zk (blk_grown (g:=gb6001) (o:=.cells #[.string t6002,.string t6003] 25 (0,0)) za28 hg (Kd.R_ne HO_5.out BK6001.out (by decide)));replace HB:=zk (hb);have HO6019:=zk (ho);replace BK6015:=zk (blk_grown (g:=gb6015) (o:=.cells #[.int .u8 ((rd_T46 y6011 x51_3).f0),.int .u8 ((rd_T46 y6011 x51_3).f1)] 46 (0,0)) (zpu BK6015.out) hg (Kd.R_ne HO_5.out BK6015.out (by decide)));clear HO_5;clear ho hb hg hat;obtain ⟨hcz70_0,hcz70_1,hfz70_0,hfz70_1⟩:=blk2 BK6015.out));try go_wp2_with (first|((with_reducible refine gate_dst (N:=7) rfl ?_);refine zE (N:=7) (cs:=#[.int .u8 0,.int .u8 0]) (t:=46) ?_;intro gb6015 hg w57 hbox hb;replace HO_5:=zk (Kd.R_below (za0 HO_5.out) hb);replace HO_49:=zk (Kd.R_below (Kd.R_elderB (za0 HO_49.out) gb6015 (Nat.le_of_eq hg.symm)) hb);have BK6015:=zk (hbox);have GW6015:=zk (zs (w:=w) hg za3);have GE6015:=zk (zs (w:=w) hg za3);have NB6001_6015:=zk ((by rw [hg];exact Nat.ne_of_lt (zl BK6001.out):gb6001 ≠ gb6015));have NB6015_6001:=zk ((by rw [hg];exact Nat.ne_of_gt (zl BK6001.out):gb6015 ≠ gb6001));replace BK6001:=zk (zb BK6001.out hb);replace HB:=zk (below_step za3 hb);clear hb hbox hg;have hnb58:=NB6015_6001.out;have hnc58:=NB6001_6015.out;obtain ⟨hcz59_0,hcz59_1,hfz59_0,hfz59_1⟩:=blk2 BK6015.out)|(go_at_call 25;(with_reducible refine (impl_isVariable.calls ((rd_T46 y6011 x51_3).f0) _ _ A39.out).mono ?_);rintro e w' ⟨rfl,⟨nd,rfl⟩⟩;(try first|exact ⟨rfl,_,World.drewN_drewN _ _ _⟩|exact ⟨rfl,_,Eq.trans (World.drewN_drewN _ _ _) (congrArg (World.drewN _) (Nat.add_assoc _ _ _))⟩))|((with_reducible refine gate_builtin (b:=.append) (xs:=#[.tmp 59,.tmp 63]) rfl ?_);at_builtin;refine Kd.R_append k33 (w0:=w) w.heap.size rfl (.tmp 59) (.tmp 63) 27 33 (.agg #[(.int .u8 0),(.string ⟨#[]⟩)]) 24 rfl Try.underlying27 info33 rfl (by decide) (by omega) u5 x5_3 (⟨(rd_T46 y6011 x51_3).f0,(⟨#[]⟩:ByteArray)⟩:S33) [.int .u8 ((rd_T46 y6011 x51_3).f0),.string (⟨#[]⟩:ByteArray)] (fun _=>True) (fun _=>False) rfl (by first|(go_simp;done)|(go_simp;rfl)) ?aP (fun _ hk=>hk.elim) ?aF ?aO ?aB ?aS ?aL ?_;(case aP=>exact k33_mkM _ _ _ (⟨(rd_T46 y6011 x51_3).f0,(⟨#[]⟩:ByteArray)⟩:S33));(case aB=>exact za3);(case aF=>exact (fun _ _=>trivial));(case aO=>exact za47);(case aS=>exact (below_size za3));(case aL=>have:=LMc41.out;omega);intro v6018 w60 ho hb hg hat;rw [← Ny6017.out] at ho;replace HO_49:=zk (Kd.R_over' za43 (Kd.R_typed za52) (by decide) hg);replace BK6001:=zk (blk_grown (g:=gb6001) (o:=.cells #[.string t6002,.string t6003] 25 (0,0)) za28 hg (Kd.R_ne HO_5.out BK6001.out (by decide)));replace HB:=zk (hb);have HO6019:=zk (ho);replace BK6015:=zk (blk_grown (g:=gb6015) (o:=.cells #[.int .u8 ((rd_T46 y6011 x51_3).f0),.int .u8 ((rd_T46 y6011 x51_3).f1)] 46 (0,0)) (zpu BK6015.out) hg (Kd.R_ne HO_5.out BK6015.out (by decide)));clear HO_5;clear ho hb hg hat;obtain ⟨hcz61_0,hcz61_1,hfz61_0,hfz61_1⟩:=blk2 BK6015.out)|(go_at_call 25;(with_reducible refine (impl_isVariable.calls ((rd_T46 y6011 x51_3).f1) _ _ A42.out).mono ?_);rintro e w' ⟨rfl,⟨nd,rfl⟩⟩;(try first|exact ⟨rfl,_,World.drewN_drewN _ _ _⟩|exact ⟨rfl,_,Eq.trans (World.drewN_drewN _ _ _) (congrArg (World.drewN _) (Nat.add_assoc _ _ _))⟩))|(go_at_call 26;(with_reducible refine (impl_LetterIndex.calls ((rd_T46 y6011 x51_3).f1) t6027 _ A54.out).mono ?_);rintro e w' ⟨rfl,⟨nd,rfl⟩⟩;(try first|exact ⟨rfl,_,World.drewN_drewN _ _ _⟩|exact ⟨rfl,_,Eq.trans (World.drewN_drewN _ _ _) (congrArg (World.drewN _) (Nat.add_assoc _ _ _))⟩))|((with_reducible refine gate_dst (N:=81) rfl ?_);refine Kd.R_lit (Kd.int .u8) _ 5 ?hg (N:=81) ?hd (xs:=([(rd_T46 y6011 x51_3).f1,(rd_T46 y6011 x51_3).f0]:List Int)) (inner:=[.int .u8 ((rd_T46 y6011 x51_3).f1),.int .u8 ((rd_T46 y6011 x51_3).f0)]) (ok:=fun _=>True) (okp:=fun _=>True) ?hr ?hp (fun _ hk=>hk) trivial (Below.refl _ _) (Nat.le_refl _) (by simp) ?_;(case hd=>rfl);(case hg=>rfl);(case hr=>first|(go_simp;done)|(go_simp;rfl));(case hp=>exact (Reps.one (show Kd.M (Kd.int .u8) _ _ _ ((rd_T46 y6011 x51_3).f1) [.int .u8 ((rd_T46 y6011 x51_3).f1)] from rfl) (Reps.one (show Kd.M (Kd.int .u8) _ _ _ ((rd_T46 y6011 x51_3).f0) [.int .u8 ((rd_T46 y6011 x51_3).f0)] from rfl) (Reps.none _ _))));intro v6029 w62 ho63 hb hg_ hnew_;clear hg_ hnew_;(first|rw [← Ny6028.out] at ho63|(simp only [Int.reduceToNat] at ho63;rw [← Ny6028.out] at ho63));replace HO_49:=zk (Kd.R_below (za0 HO_49.out) hb);replace HO6019:=zk (Kd.R_below (za0 HO6019.out) hb);have HO6030:=zk (Kd.R_lower ho63 (below_size za3));replace BK6001:=zk (zb BK6001.out hb);replace BK6015:=zk (zb BK6015.out hb);replace HB:=zk (below_step za3 hb);clear hb ho63;have hcv64:=own_string (P:=Try.prog) Try.underlying22 Try.underlying5 Try.underlying9 (Kd.own_of_R HO6030.out))|((with_reducible refine gate_builtin (b:=.append) (xs:=#[.tmp 74,.tmp 84]) rfl ?_);at_builtin;refine Kd.R_append k33 (w0:=w) w.heap.size rfl (.tmp 74) (.tmp 84) 27 33 (.agg #[(.int .u8 0),(.string ⟨#[]⟩)]) 24 rfl Try.underlying27 info33 rfl (by decide) (by omega) v6018 y6017 (⟨(rd_T46 y6011 x51_3).f0,strOfNums y6028⟩:S33) [.int .u8 ((rd_T46 y6011 x51_3).f0),.string (strOfNums y6028)] (fun _=>True) (fun _=>False) rfl rfl ?aP (fun _ hk=>hk.elim) ?aF ?aO ?aB ?aS ?aL ?_;(case aP=>exact k33_mkM _ _ _ (⟨(rd_T46 y6011 x51_3).f0,strOfNums y6028⟩:S33));(case aB=>exact za3);(case aF=>exact (fun _ _=>trivial));(case aO=>exact (za0 HO6019.out));(case aS=>exact (below_size za3));(case aL=>have:=LMc56.out;omega);intro v6032 w65 ho hb hg hat;rw [← Ny6031.out] at ho;replace HO_49:=zk (Kd.R_over' (za0 HO_49.out) (Kd.R_typed (za0 HO6019.out)) (by decide) hg);replace BK6001:=zk (blk_grown (g:=gb6001) (o:=.cells #[.string t6002,.string t6003] 25 (0,0)) (za1 BK6001.out) hg (Kd.R_ne HO6019.out BK6001.out (by decide)));replace BK6015:=zk (blk_grown (g:=gb6015) (o:=.cells #[.int .u8 ((rd_T46 y6011 x51_3).f0),.int .u8 ((rd_T46 y6011 x51_3).f1)] 46 (0,0)) (za1 BK6015.out) hg (Kd.R_ne HO6019.out BK6015.out (by decide)));replace HO6030:=zk (Kd.R_over' (za0 HO6030.out) (Kd.R_typed (za0 HO6019.out)) (by decide) hg);replace HB:=zk (hb);have HO6033:=zk (ho);clear HO6019;clear ho hb hg hat)|((with_reducible refine gate_builtin (b:=.append) (xs:=#[.tmp 59,.tmp 63]) rfl ?_);at_builtin;refine Kd.R_append k33 (w0:=w) w.heap.size rfl (.tmp 59) (.tmp 63) 27 33 (.agg #[(.int .u8 0),(.string ⟨#[]⟩)]) 24 rfl Try.underlying27 info33 rfl (by decide) (by omega) u5 x5_3 (⟨(rd_T46 y6011 x51_3).f0,(⟨#[]⟩:ByteArray)⟩:S33) [.int .u8 ((rd_T46 y6011 x51_3).f0),.string (⟨#[]⟩:ByteArray)] (fun _=>True) (fun _=>False) rfl (by first|(go_simp;done)|(go_simp;rfl)) ?aP (fun _ hk=>hk.elim) ?aF ?aO ?aB ?aS ?aL ?_;(case aP=>exact k33_mkM _ _ _ (⟨(rd_T46 y6011 x51_3).f0,(⟨#[]⟩:ByteArray)⟩:S33));(case aB=>exact za3);(case aF=>exact (fun _ _=>trivial));(case aO=>exact za47);(case aS=>exact (below_size za3));(case aL=>have:=LMc41.out;omega);intro v6018 w69 ho hb hg hat;rw [← Ny6017.out] at ho;replace HO_49:=zk (Kd.R_over' za43 (Kd.R_typed za52) (by decide) hg);replace BK6001:=zk (blk_grown (g:=gb6001) (o:=.cells #[.string t6002,.string t6003] 25 (0,0)) za28 hg (Kd.R_ne HO_5.out BK6001.out (by decide)));replace HB:=zk (hb);have HO6019:=zk (ho);replace BK6015:=zk (blk_grown (g:=gb6015) (o:=.cells #[.int .u8 ((rd_T46 y6011 x51_3).f0),.int .u8 ((rd_T46 y6011 x51_3).f1)] 46 (0,0)) (zpu BK6015.out) hg (Kd.R_ne HO_5.out BK6015.out (by decide)));clear HO_5;clear ho hb hg hat;obtain ⟨hcz70_0,hcz70_1,hfz70_0,hfz70_1⟩:=blk2 BK6015.out)))
            first
            | (
              clear fin0_
              go_roundg k3
              case measure=>have:=HJ2.out;have:=HJ14.out;have:=HK3.out;omega
              case rel=>exact ⟨(y6031),(wrap64 (x51_3+1)),za8,H',⟨za109⟩,⟨za0 HO6033.out⟩,⟨za95⟩,⟨za1 BK6001.out⟩,⟨za3⟩⟩)
            | (
              clear fin1_
              go_roundg k3
              case measure=>have:=HJ2.out;have:=HJ14.out;have:=HK3.out;omega
              case rel=>exact ⟨(y6017),(wrap64 (x51_3+1)),za8,H',⟨za109⟩,⟨za0 HO6019.out⟩,⟨za95⟩,⟨za1 BK6001.out⟩,⟨za3⟩⟩)
            | (
              clear fin2_
              go_roundg k3
              case measure=>have:=HJ2.out;have:=HJ14.out;have:=HK3.out;omega
              case rel=>exact ⟨(x5_3),(wrap64 (x51_3+1)),za8,H',⟨za109⟩,⟨za47⟩,⟨by (with_reducible repeat (first|apply Kd.R_alloc|apply Kd.R_drewN|apply Kd.R_drew));exact Kd.R_mono (zfR (zfR (Kd.R_mono HO_49.out (fun k_ hk=>(⟨hk,hk.2⟩:_∧k_ ≠ gb6015))))) (fun _ hk=>trivial)⟩,⟨za28⟩,⟨za3⟩⟩)
       · rw [if_neg c28] at H
         exact absurd H (by simp)
       · rw [if_neg c26] at H
         exact absurd H (by simp)
end Go.Proofs.Ytgajchjnljekgaa.A
