/- FnModels: what its proof needs, put together by this session's program wip/merge.py out of the texts that wip/xp.py printed and of this session's own. -/
import Derived.Test.YtcbjhfoeecfcoaaGreatQFnModels5
import Derived.Deep.RegionWith
import Derived.Test.YtcbjhfoeecfcoaaGreatProg
import Derived.Shelf.Abstract
import Derived.Deep.LoopGhost
import Derived.Deep.QuietTactic
import Derived.BigQuiet
import Derived.Below
import Derived.Outline
set_option linter.unusedVariables false
set_option linter.unusedSimpArgs false
set_option linter.unusedSectionVars false
set_option maxHeartbeats 8000000
set_option maxRecDepth 100000
namespace Go.Proofs.YtcbjhfoeecfcoaaGreat.A
open Go.RowKit YtcbjhfoeecfcoaaGreat.Ext YtcbjhfoeecfcoaaGreatW.PrintWords YtcbjhfoeecfcoaaGreatW.PrintLast YtcbjhfoeecfcoaaGreatW.PrintMore
attribute [local go_sem] max2_int min2_int max_two min_two max_three min_three max_four min_four
def impl_isZeroRegex.f (a0_0:Int) (a0_1:ByteArray) (l0_2:List (S54)):Option (Bool):=if a0_0=0 then (if a0_1.toList=([]:List UInt8) then (some ((l0_2.length:Int) == 0)) else (some false)) else (some false)
theorem impl_isZeroRegex.calls (a0_0:Int) (a0_1:ByteArray) (A0_2:Option Addr) (c0_2:Nat) (l0_2:List (S54)) (r:Bool) (w:World) (hr0_2:Kd.C k54 w A0_2 l0_2.length l0_2) (hc0_2:l0_2.length≤c0_2) (h:impl_isZeroRegex.f a0_0 a0_1 l0_2=some r) :
   Calls Tryz.prog 68 #[.agg #[.int .i64 a0_0,.string a0_1,.slice A0_2 l0_2.length c0_2]] w fun e w'=>e = .returned (.bool r)∧Below w.heap.size w w':=by
 have hu54:=Tryz.underlying54
 have HR0_2:=zk hr0_2
 have HC0_2:=zk hc0_2
 clear hr0_2 hc0_2
 have HB:=zk (Below.refl w.heap.size w)
 have H:=h
 unfold impl_isZeroRegex.f at H
 clear h
 by_cases c2:a0_0=0
 rw [if_pos c2] at H
 have c2b0:=zbt c2
 have c2b1:=zqn c2
 clear c2
 by_cases c3:a0_1.toList=([]:List UInt8)
 rw [if_pos c3] at H
 have c3b0:=zbt c3
 have c3b1:=zqn c3
 clear c3
 rotate_left
 rw [if_neg c3] at H
 have c3b0:=zbn c3
 have c3b1:=zqt c3
 rotate_left
 rw [if_neg c2] at H
 have c2b0:=zbn c2
 have c2b1:=zqt c2
 rotate_left
 all_goals
  obtain rfl:=zi H
  go_enter Tryz.func68,Tryz.ntmps68
  go_wp2_with (((with_reducible refine gate_dst (N:=1) rfl ?_);(try (refine gate_guard (by rfl) ?_;dsimp only));refine zE (cs:=#[.int .i64 a0_0,.string a0_1,.slice A0_2 l0_2.length c0_2]) (t:=54) ?_;intro gb1 hg w4 hbox hb;have BK1:=zk hbox;have GW1:=zk (zs (w:=w) hg za10);have GE1:=GW1;replace HB:=yB HB hb;clear hb hbox hg;obtain ⟨hcz5_0,hcz5_1,hcz5_2,hfz5_0,hfz5_1,hfz5_2⟩:=blk3 BK1.out))
  go_ret
  exact ⟨by (rfl),za10⟩
mutual
def impl_argsOf.j0:Nat→Int→Bool→Option (Int)
 | 0,_,_=>none
 | k+1,x3,x4=>if x4=true then (some 0) else (if x3=8 then (impl_argsOf.j1 k x3 (x3 == 8)) else (impl_argsOf.j1 k x3 (x3 == 9)))
def impl_argsOf.j1:Nat→Int→Bool→Option (Int)
 | 0,_,_=>none
 | k+1,x3,x9=>if x9=true then (some 1) else (if x3=5 then (some 2) else (if x3=6 then (some 2) else (if x3=7 then (some 2) else (some (-1)))))
end
def impl_argsOf.f (k:Nat) (a0:Int):Option (Int):=if a0=1 then (impl_argsOf.j0 k a0 (a0 == 1)) else (if a0=2 then (impl_argsOf.j0 k a0 (a0 == 2)) else (if a0=3 then (impl_argsOf.j0 k a0 (a0 == 3)) else (impl_argsOf.j0 k a0 (a0 == 4))))
theorem impl_argsOf.calls (k:Nat) (a0:Int) (r:Int) (w:World) (h:impl_argsOf.f k a0=some r) :
   Calls Tryz.prog 105 #[.int .i64 a0] w fun e w'=>e = .returned (.int .i64 r)∧Drawn0 w w':=by
 have H:=h
 unfold impl_argsOf.f at H
 clear h
 have HC2:=zk H
 clear H
 go_enter Tryz.func105,Tryz.ntmps105
 go_upto_if 4 with (fail)
 go_cut [4] (fun v4 wc=>∃ (kq:Nat) (x4_1:Bool),v4 = .bool x4_1∧Aside0 (impl_argsOf.j0 kq a0 x4_1=some r)∧Aside0 (kq≤k)∧Drawn0 w wc)
 case first =>
  have H:=HC2.out
  clear HC2
  by_cases c3:a0=1
  · rw [if_pos c3] at H
    have c3b0:=zbt c3
    have c3b1:=zqn c3
    clear c3
    ((rw [c3b0]))
    have H':=zk H
    clear H
    go_wp2
    go_meet
    case rel=>exact ⟨_,((a0 == 1)),za33,H',⟨by (omega)⟩,za20⟩
  rw [if_neg c3] at H
  have c3b0:=zbn c3
  have c3b1:=zqt c3
  ((rw [c3b0]))
  by_cases c4:a0=2
  · rw [if_pos c4] at H
    have c4b0:=zbt c4
    have c4b1:=zqn c4
    clear c4
    have H':=zk H
    clear H
    go_wp2
    go_meet
    case rel=>exact ⟨_,((a0 == 2)),za33,H',⟨by (omega)⟩,za20⟩
  rw [if_neg c4] at H
  have c4b0:=zbn c4
  have c4b1:=zqt c4
  by_cases c5:a0=3
  · rw [if_pos c5] at H
    have c5b0:=zbt c5
    have c5b1:=zqn c5
    clear c5
    have H':=zk H
    clear H
    go_wp2
    go_meet
    case rel=>exact ⟨_,((a0 == 3)),za33,H',⟨by (omega)⟩,za20⟩
  · rw [if_neg c5] at H
    have c5b0:=zbn c5
    have c5b1:=zqt c5
    have H':=zk H
    clear H
    go_wp2
    go_meet
    case rel=>exact ⟨_,((a0 == 4)),za33,H',⟨by (omega)⟩,za20⟩
 case rest =>
  clear HC2
  obtain ⟨kq,x4_1,rfl,HA,HJ1,⟨mc1,rfl⟩⟩:=hcut
  cases kq with
  | zero=>exact absurd HA.out (by simp [impl_argsOf.j0])
  | succ kj1 =>
   have H:=HA.out
   clear HA
   simp only [impl_argsOf.j0] at H
   by_cases c6:x4_1=true
   · subst c6
     rw [if_pos rfl] at H
     try dsimp only at H
     obtain rfl:=zi H
     go_wp2
     go_ret
     exact ⟨za33,za20⟩
   · replace c6:=Bool.eq_false_iff.mpr c6
     subst c6
     rw [if_neg zff] at H
     try dsimp only at H
     have HC7:=zk H
     clear H
     go_upto_if 9 with (fail)
     go_cut [9] (fun v9 wc=>∃ (kq:Nat) (x9_6:Bool),v9 = .bool x9_6∧Aside0 (impl_argsOf.j1 kq a0 x9_6=some r)∧Aside0 (kq≤kj1)∧Drawn0 w wc)
     case first =>
      have H:=HC7.out
      clear HC7
      by_cases c8:a0=8
      · rw [if_pos c8] at H
        have c8b0:=zbt c8
        have c8b1:=zqn c8
        clear c8
        ((rw [c8b0]))
        have H':=zk H
        clear H
        go_wp2
        go_meet
        case rel=>exact ⟨_,((a0 == 8)),za33,H',⟨by have:=HJ1.out;(omega)⟩,za20⟩
      · rw [if_neg c8] at H
        have c8b0:=zbn c8
        have c8b1:=zqt c8
        ((rw [c8b0]))
        have H':=zk H
        clear H
        go_wp2
        go_meet
        case rel=>exact ⟨_,((a0 == 9)),za33,H',⟨by have:=HJ1.out;(omega)⟩,za20⟩
     case rest =>
      clear HC7
      try clear c6
      obtain ⟨kq,x9_6,rfl,HA,HJ6,⟨mc6,rfl⟩⟩:=hcut
      cases kq with
      | zero=>exact absurd HA.out (by simp [impl_argsOf.j1])
      | succ kj6 =>
       have H:=HA.out
       clear HA
       simp only [impl_argsOf.j1] at H
       by_cases c9:x9_6=true
       subst c9
       rw [if_pos rfl] at H
       try dsimp only at H
       rotate_left
       replace c9:=Bool.eq_false_iff.mpr c9
       subst c9
       rw [if_neg zff] at H
       try dsimp only at H
       by_cases c10:a0=5
       rw [if_pos c10] at H
       have c10b0:=zbt c10
       have c10b1:=zqn c10
       clear c10
       rotate_left
       rw [if_neg c10] at H
       have c10b0:=zbn c10
       have c10b1:=zqt c10
       by_cases c11:a0=6
       rw [if_pos c11] at H
       have c11b0:=zbt c11
       have c11b1:=zqn c11
       clear c11
       rotate_left
       rw [if_neg c11] at H
       have c11b0:=zbn c11
       have c11b1:=zqt c11
       by_cases c12:a0=7
       rw [if_pos c12] at H
       have c12b0:=zbt c12
       have c12b1:=zqn c12
       clear c12
       rotate_left
       rw [if_neg c12] at H
       have c12b0:=zbn c12
       have c12b1:=zqt c12
       rotate_left
       all_goals
        obtain rfl:=zi H
        go_wp2
        go_ret
        exact ⟨za33,za20⟩
mutual
def impl_nodesOf.j0:Nat→Int→Bool→Int→ByteArray→List (S54)→Option (Int)
 | 0,_,_,_,_,_=>none
 | k+1,x1,x18,x95002000,x95002001,x95002002=>if x18=true then (some 17) else (if x95002000=3 then (if (x95002001.size:Int)=1 then ((impl_IsWord.f k x95002001).bind fun t95003=>(if t95003=true then (impl_nodesOf.j1 k x1 x95002000 x95002001 x95002002) else (some 17))) else (some 17)) else (if x95002001.toList=([]:List UInt8) then (impl_nodesOf.j1 k x1 x95002000 x95002001 x95002002) else (some 17)))
def impl_nodesOf.j1:Nat→Int→Int→ByteArray→List (S54)→Option (Int)
 | 0,_,_,_,_=>none
 | k+1,x1,x95002000,x95002001,x95002002=>impl_nodesOf.l0 k x1 1 x95002002 (x95002002.length:Int) 0
def impl_nodesOf.l0:Nat→Int→Int→List (S54)→Int→Int→Option (Int)
 | 0,_,_,_,_,_=>none
 | k+1,x1,x5,x36,x37,x38=>if x38 < x37 then (if 0≤x38 then (if x38 < (x36.length:Int) then ((impl_nodesOf.f k ((rd_T54 x36 x38).f0) ((rd_T54 x36 x38).f1) ((rd_T54 x36 x38).f2) (wrap64 (x1 - 1))).bind fun t95006=>(impl_nodesOf.l0 k x1 (wrap64 (x5+t95006)) x36 x37 (wrap64 (x38+1)))) else (none)) else (none)) else (some (mn x5 17))
def impl_nodesOf.f:Nat→Int→ByteArray→List (S54)→Int→Option (Int)
 | 0,_,_,_,_=>none
 | k+1,a0_0,a0_1,l0_2,a1=>if a1=0 then (impl_nodesOf.j0 k a1 true a0_0 a0_1 l0_2) else ((impl_argsOf.f k a0_0).bind fun t95002=>(impl_nodesOf.j0 k a1 ((l0_2.length:Int) != t95002) a0_0 a0_1 l0_2))
end
theorem impl_nodesOf.calls (k:Nat):∀ (a0_0:Int) (a0_1:ByteArray) (A0_2:Option Addr) (c0_2:Nat) (l0_2:List (S54)) (a1:Int) (r:Int) (w:World) (hr0_2:Kd.C k54 w A0_2 l0_2.length l0_2) (hc0_2:l0_2.length≤c0_2) (h:impl_nodesOf.f k a0_0 a0_1 l0_2 a1=some r),
   Calls Tryz.prog 95 #[.agg #[.int .i64 a0_0,.string a0_1,.slice A0_2 l0_2.length c0_2],.int .i64 a1] w fun e w'=>e = .returned (.int .i64 r)∧Below w.heap.size w w':=by
 induction k using Nat.strongRecOn with
 | _ k ih =>
 intro a0_0 a0_1 A0_2 c0_2 l0_2 a1 r w hr0_2 hc0_2 h
 cases k with
 | zero=>exact absurd h (by simp [impl_nodesOf.f])
 | succ k =>
 simp only [impl_nodesOf.f] at h
 have hu54:=Tryz.underlying54
 have HR0_2:=zk hr0_2
 have HC0_2:=zk hc0_2
 clear hr0_2 hc0_2
 have HB:=zk (Below.refl w.heap.size w)
 have H:=h
 clear h
 have HC3:=zk H
 clear H
 go_enter Tryz.func95,Tryz.ntmps95
 go_upto_region 1 with ((((with_reducible refine gate_dst (N:=2) rfl ?_);(try (refine gate_guard (by rfl) ?_;dsimp only));refine zE (cs:=#[.int .i64 a0_0,.string a0_1,.slice A0_2 l0_2.length c0_2]) (t:=54) ?_;intro gb1 hg w4 hbox hb;have BK1:=zk hbox;have GW1:=zk (zs (w:=w) hg za10);have GE1:=GW1;replace HB:=yB HB hb;clear hb hbox hg)))
 repeat (go_quiet ((((with_reducible refine gate_dst (N:=2) rfl ?_);(try (refine gate_guard (by rfl) ?_;dsimp only));refine zE (cs:=#[.int .i64 a0_0,.string a0_1,.slice A0_2 l0_2.length c0_2]) (t:=54) ?_;intro gb1 hg w4 hbox hb;have BK1:=zk hbox;have GW1:=zk (zs (w:=w) hg za10);have GE1:=GW1;replace HB:=yB HB hb;clear hb hbox hg)));go_upto_region 1 with ((((with_reducible refine gate_dst (N:=2) rfl ?_);(try (refine gate_guard (by rfl) ?_;dsimp only));refine zE (cs:=#[.int .i64 a0_0,.string a0_1,.slice A0_2 l0_2.length c0_2]) (t:=54) ?_;intro gb1 hg w4 hbox hb;have BK1:=zk hbox;have GW1:=zk (zs (w:=w) hg za10);have GE1:=GW1;replace HB:=yB HB hb;clear hb hbox hg))))
 (try simp only [Act.put,zt,zu,zv])
 go_cut [18] (fun v18 wc=>∃ (kq:Nat) (x18_2:Bool),v18 = .bool x18_2∧Aside0 (impl_nodesOf.j0 kq a1 x18_2 a0_0 a0_1 l0_2=some r)∧Aside0 (kq≤k)∧Aside0 (wc.heap[gb1]? = some (.cells #[.int .i64 a0_0,.string a0_1,(.slice A0_2 l0_2.length c0_2)] 54 (0,0)))∧Aside0 (Below w.heap.size w wc))
 case first =>
  have H:=HC3.out
  clear HC3
  by_cases c5:a1=0
  · rw [if_pos c5] at H
    have c5b0:=zbt c5
    have c5b1:=zqn c5
    clear c5
    ((skip))
    have H':=zk H
    clear H
    go_wp2
    repeat (go_quiet (fail);try go_wp2)
    go_meet
    case rel=>exact ⟨_,(true),za33,H',⟨by (omega)⟩,⟨za3 BK1.out⟩,⟨za10⟩⟩
  · rw [if_neg c5] at H
    have c5b0:=zbn c5
    have c5b1:=zqt c5
    ((skip))
    obtain ⟨t2,A6,H⟩:=zO H
    try dsimp only at H
    have H':=zk H
    clear H
    obtain ⟨hcz7_0,hcz7_1,hcz7_2,hfz7_0,hfz7_1,hfz7_2⟩:=blk3 BK1.out
    go_wp2_with (((go_at_call 105;(with_reducible refine (impl_argsOf.calls k a0_0 t2 _ A6.out).mono ?_);rintro e w' ⟨rfl,⟨nd,rfl⟩⟩;(try (exact ⟨rfl,_,World.drewN_drewN _ _ _⟩)))))
    repeat (go_quiet (((go_at_call 105;(with_reducible refine (impl_argsOf.calls k a0_0 t2 _ A6.out).mono ?_);rintro e w' ⟨rfl,⟨nd,rfl⟩⟩;(try (exact ⟨rfl,_,World.drewN_drewN _ _ _⟩)))));try go_wp2_with (((go_at_call 105;(with_reducible refine (impl_argsOf.calls k a0_0 t2 _ A6.out).mono ?_);rintro e w' ⟨rfl,⟨nd,rfl⟩⟩;(try (exact ⟨rfl,_,World.drewN_drewN _ _ _⟩))))))
    go_meet
    case rel=>exact ⟨_,(((l0_2.length:Int) != t2)),za33,H',⟨by (omega)⟩,⟨za3 BK1.out⟩,⟨za10⟩⟩
 case rest =>
  clear HC3
  obtain ⟨kq,x18_2,rfl,HA,HJ2,BK1,HB⟩:=hcut
  cases kq with
  | zero=>exact absurd HA.out (by simp [impl_nodesOf.j0])
  | succ kj2 =>
   have H:=HA.out
   clear HA
   simp only [impl_nodesOf.j0] at H
   by_cases c8:x18_2=true
   · subst c8
     rw [if_pos rfl] at H
     try dsimp only at H
     obtain rfl:=zi H
     go_wp2
     repeat (go_quiet (fail);try go_wp2)
     go_ret
     exact ⟨by (rfl),za10⟩
   · replace c8:=Bool.eq_false_iff.mpr c8
     subst c8
     rw [if_neg zff] at H
     try dsimp only at H
     have HC9:=zk H
     clear H
     obtain ⟨hcz10_0,hcz10_1,hcz10_2,hfz10_0,hfz10_1,hfz10_2⟩:=blk3 BK1.out
     go_upto_if 21 with (fail)
     repeat (go_quiet (fail);go_upto_if 21 with (fail))
     go_cut [] (fun wc=>∃ (kq:Nat),Aside0 (impl_nodesOf.j1 kq a1 a0_0 a0_1 l0_2=some r)∧Aside0 (kq≤kj2)∧Aside0 (wc.heap[gb1]? = some (.cells #[.int .i64 a0_0,.string a0_1,(.slice A0_2 l0_2.length c0_2)] 54 (0,0)))∧Aside0 (Below w.heap.size w wc))
     case first =>
      have H:=HC9.out
      clear HC9
      by_cases c11:a0_0=3
      rw [if_pos c11] at H
      have c11b0:=zbt c11
      have c11b1:=zqn c11
      clear c11
      ((rw [c11b0]))
      by_cases c12:(a0_1.size:Int)=1
      rw [if_pos c12] at H
      have c12b0:=zbt c12
      have c12b1:=zqn c12
      clear c12
      obtain ⟨t3,A13,H⟩:=zO H
      try dsimp only at H
      by_cases c14:t3=true
      subst c14
      rw [if_pos rfl] at H
      try dsimp only at H
      have H':=zk H
      clear H
      have fin0_:=zk trivial
      rotate_left
      replace c14:=Bool.eq_false_iff.mpr c14
      subst c14
      rw [if_neg zff] at H
      try dsimp only at H
      obtain rfl:=zi H
      have fin1_:=zk trivial
      rotate_left
      rw [if_neg c12] at H
      have c12b0:=zbn c12
      have c12b1:=zqt c12
      obtain rfl:=zi H
      have fin1_:=zk trivial
      rotate_left
      rw [if_neg c11] at H
      have c11b0:=zbn c11
      have c11b1:=zqt c11
      ((rw [c11b0]))
      by_cases c18:a0_1.toList=([]:List UInt8)
      rw [if_pos c18] at H
      have c18b0:=zbt c18
      have c18b1:=zqn c18
      clear c18
      have H':=zk H
      clear H
      have fin0_:=zk trivial
      rotate_left
      rw [if_neg c18] at H
      have c18b0:=zbn c18
      have c18b1:=zqt c18
      obtain rfl:=zi H
      have fin1_:=zk trivial
      rotate_left
      all_goals
       obtain ⟨hcz15_0,hcz15_1,hcz15_2,hfz15_0,hfz15_1,hfz15_2⟩:=blk3 BK1.out
       go_wp2_with ((go_at_call 55;(with_reducible refine (impl_IsWord.calls kj2 a0_1 _ _ A13.out).mono ?_);rintro e w' ⟨rfl,⟨nd,rfl⟩⟩;(try (exact ⟨rfl,_,World.drewN_drewN _ _ _⟩))))
       repeat (go_quiet ((go_at_call 55;(with_reducible refine (impl_IsWord.calls kj2 a0_1 _ _ A13.out).mono ?_);rintro e w' ⟨rfl,⟨nd,rfl⟩⟩;(try (exact ⟨rfl,_,World.drewN_drewN _ _ _⟩))));try go_wp2_with ((go_at_call 55;(with_reducible refine (impl_IsWord.calls kj2 a0_1 _ _ A13.out).mono ?_);rintro e w' ⟨rfl,⟨nd,rfl⟩⟩;(try (exact ⟨rfl,_,World.drewN_drewN _ _ _⟩)))))
       first
       | (
          clear fin0_
          go_meet
          case rel=>exact ⟨_,H',⟨by have:=HJ2.out;first|omega|exact Nat.le_refl _⟩,⟨za0 BK1.out⟩,⟨za9⟩⟩)
       | (
          clear fin1_
          go_ret
          exact ⟨by (rfl),za10⟩)
     case rest =>
      clear HC9
      try clear c8
      try clear hcz10_0
      try clear hcz10_1
      try clear hcz10_2
      try clear hfz10_0
      try clear hfz10_1
      try clear hfz10_2
      obtain ⟨kq,HA,HJ8,BK1,HB⟩:=hcut
      cases kq with
      | zero=>exact absurd HA.out (by simp [impl_nodesOf.j1])
      | succ kj8 =>
       have H:=HA.out
       clear HA
       simp only [impl_nodesOf.j1] at H
       have H':=zk H
       clear H
       obtain ⟨hcz21_0,hcz21_1,hcz21_2,hfz21_0,hfz21_1,hfz21_2⟩:=blk3 BK1.out
       go_wp2
       repeat (go_quiet (fail);try go_wp2)
       try simp only [Act.put,zt,zv,zu]
       go_loopg [5,38] kj8 (fun kq v5 v38 w'=>∃ (x5_3:Int) (x38_3:Int),v5 = .int .i64 x5_3∧v38 = .int .i64 x38_3∧Aside0 (impl_nodesOf.l0 kq a1 x5_3 l0_2 (l0_2.length:Int) x38_3=some r)∧Aside0 (kq≤kj8)∧Aside0 (w'.heap[gb1]? = some (.cells #[.int .i64 a0_0,.string a0_1,(.slice A0_2 l0_2.length c0_2)] 54 (0,0)))∧Aside0 (Below w.heap.size w w'))
       case atStart=>exact ⟨(1),(0),za33,za33,H',⟨Nat.le_refl _⟩,⟨za3 BK1.out⟩,⟨za10⟩⟩
       case round =>
        clear H'
        try clear c8
        try clear hcz10_0
        try clear hcz10_1
        try clear hcz10_2
        try clear hcz21_0
        try clear hcz21_1
        try clear hcz21_2
        try clear hfz10_0
        try clear hfz10_1
        try clear hfz10_2
        try clear hfz21_0
        try clear hfz21_1
        try clear hfz21_2
        obtain ⟨x5_3,x38_3,rfl,rfl,HA,HK3,BK1,HB⟩:=hrel
        cases gk with
        | zero=>exact absurd HA.out (by simp [impl_nodesOf.l0])
        | succ k3 =>
         have H:=HA.out
         clear HA
         simp only [impl_nodesOf.l0] at H
         by_cases c22:x38_3 < (l0_2.length:Int)
         rw [if_pos c22] at H
         have c22b0:=zdl c22
         clear c22
         by_cases c23:0≤x38_3
         rw [if_pos c23] at H
         have c23b0:=zdle c23
         clear c23
         by_cases c24:x38_3 < (l0_2.length:Int)
         · rw [if_pos c24] at H
           have c24b0:=zdl c24
           clear c24
           obtain ⟨t6,A25,H⟩:=zO H
           try dsimp only at H
           have H':=zk H
           clear H
           have p95004:0≤(x38_3:Int):=of_decide_eq_true za25
           have q95004:x38_3 < (l0_2.length:Int):=of_decide_eq_true za25
           obtain ⟨ad95004,A95004_2,c95004_2,e95004,hx95004_0,hx95004_1,hx95004_2,hl95004_2,hi95004_2⟩:=at_T54 HR0_2.out x38_3 p95004 q95004
           cases e95004
           replace hx95004_0:=zx HB.out hx95004_0
           replace hx95004_1:=zx HB.out hx95004_1
           replace hx95004_2:=zx HB.out hx95004_2
           have HR95004_2:=zk hi95004_2
           have HC95004_2:=zk hl95004_2
           clear hi95004_2 hl95004_2
           replace p95004:=eq_true p95004
           replace q95004:=eq_true q95004
           go_wp2_with (first|((with_reducible refine gate_dst (N:=7) rfl ?_);(try (refine gate_guard (by rfl) ?_;dsimp only));refine zE (cs:=#[.int .i64 0,.string ⟨#[]⟩,.slice none 0 0]) (t:=54) ?_;intro gb5 hg w26 hbox hb;have BK5:=zk hbox;have GW5:=zk (zs (w:=w) hg za10);have GE5:=GW5;have NB1_5:=yn hg BK1;have NB5_1:=yp hg BK1;replace BK1:=yb BK1 hb;replace HB:=yB HB hb;clear hb hbox hg;have hnb27:=NB5_1.out;have hnc27:=NB1_5.out;obtain ⟨hcz28_0,hcz28_1,hcz28_2,hfz28_0,hfz28_1,hfz28_2⟩:=blk3 BK5.out)|(go_at_call 95;(with_reducible refine (ih k3 za85 ((rd_T54 l0_2 x38_3).f0) ((rd_T54 l0_2 x38_3).f1) _ _ ((rd_T54 l0_2 x38_3).f2) (wrap64 (a1 - 1)) t6 _ ?side1 ?side2 A25.out).mono ?_);(case side1=>exact Kd.C_below HR95004_2.out za10);(case side2=>exact HC95004_2.out);rintro e w29 ⟨rfl,hb⟩;replace BK1:=zk (blk_below (g:=gb1) (o:=.cells #[.int .i64 a0_0,.string a0_1,.slice (some ad95004) l0_2.length c0_2] 54 (0,0)) (zpw BK1.out) hb);replace BK5:=zk (blk_below (g:=gb5) (o:=.cells #[.int .i64 ((rd_T54 l0_2 x38_3).f0),.string ((rd_T54 l0_2 x38_3).f1),.slice A95004_2 ((rd_T54 l0_2 x38_3).f2).length c95004_2] 54 (0,0)) (zpu BK5.out) hb);replace HB:=yB HB hb;(try clear hb)))
           repeat (go_quiet (first|((with_reducible refine gate_dst (N:=7) rfl ?_);(try (refine gate_guard (by rfl) ?_;dsimp only));refine zE (cs:=#[.int .i64 0,.string ⟨#[]⟩,.slice none 0 0]) (t:=54) ?_;intro gb5 hg w26 hbox hb;have BK5:=zk hbox;have GW5:=zk (zs (w:=w) hg za10);have GE5:=GW5;have NB1_5:=yn hg BK1;have NB5_1:=yp hg BK1;replace BK1:=yb BK1 hb;replace HB:=yB HB hb;clear hb hbox hg;have hnb27:=NB5_1.out;have hnc27:=NB1_5.out;obtain ⟨hcz28_0,hcz28_1,hcz28_2,hfz28_0,hfz28_1,hfz28_2⟩:=blk3 BK5.out)|(go_at_call 95;(with_reducible refine (ih k3 za85 ((rd_T54 l0_2 x38_3).f0) ((rd_T54 l0_2 x38_3).f1) _ _ ((rd_T54 l0_2 x38_3).f2) (wrap64 (a1 - 1)) t6 _ ?side1 ?side2 A25.out).mono ?_);(case side1=>exact Kd.C_below HR95004_2.out za10);(case side2=>exact HC95004_2.out);rintro e w29 ⟨rfl,hb⟩;replace BK1:=zk (blk_below (g:=gb1) (o:=.cells #[.int .i64 a0_0,.string a0_1,.slice (some ad95004) l0_2.length c0_2] 54 (0,0)) (zpw BK1.out) hb);replace BK5:=zk (blk_below (g:=gb5) (o:=.cells #[.int .i64 ((rd_T54 l0_2 x38_3).f0),.string ((rd_T54 l0_2 x38_3).f1),.slice A95004_2 ((rd_T54 l0_2 x38_3).f2).length c95004_2] 54 (0,0)) (zpu BK5.out) hb);replace HB:=yB HB hb;(try clear hb)));try go_wp2_with (first|((with_reducible refine gate_dst (N:=7) rfl ?_);(try (refine gate_guard (by rfl) ?_;dsimp only));refine zE (cs:=#[.int .i64 0,.string ⟨#[]⟩,.slice none 0 0]) (t:=54) ?_;intro gb5 hg w26 hbox hb;have BK5:=zk hbox;have GW5:=zk (zs (w:=w) hg za10);have GE5:=GW5;have NB1_5:=yn hg BK1;have NB5_1:=yp hg BK1;replace BK1:=yb BK1 hb;replace HB:=yB HB hb;clear hb hbox hg;have hnb27:=NB5_1.out;have hnc27:=NB1_5.out;obtain ⟨hcz28_0,hcz28_1,hcz28_2,hfz28_0,hfz28_1,hfz28_2⟩:=blk3 BK5.out)|(go_at_call 95;(with_reducible refine (ih k3 za85 ((rd_T54 l0_2 x38_3).f0) ((rd_T54 l0_2 x38_3).f1) _ _ ((rd_T54 l0_2 x38_3).f2) (wrap64 (a1 - 1)) t6 _ ?side1 ?side2 A25.out).mono ?_);(case side1=>exact Kd.C_below HR95004_2.out za10);(case side2=>exact HC95004_2.out);rintro e w29 ⟨rfl,hb⟩;replace BK1:=zk (blk_below (g:=gb1) (o:=.cells #[.int .i64 a0_0,.string a0_1,.slice (some ad95004) l0_2.length c0_2] 54 (0,0)) (zpw BK1.out) hb);replace BK5:=zk (blk_below (g:=gb5) (o:=.cells #[.int .i64 ((rd_T54 l0_2 x38_3).f0),.string ((rd_T54 l0_2 x38_3).f1),.slice A95004_2 ((rd_T54 l0_2 x38_3).f2).length c95004_2] 54 (0,0)) (zpu BK5.out) hb);replace HB:=yB HB hb;(try clear hb))))
           go_roundg k3
           case measure=>have:=HJ2.out;have:=HJ8.out;have:=HK3.out;omega
           case rel=>exact ⟨(wrap64 (x5_3+t6)),(wrap64 (x38_3+1)),za33,za33,H',⟨za85⟩,⟨za3 BK1.out⟩,⟨za10⟩⟩
         · rw [if_neg c24] at H
           exact absurd H (by simp)
         · rw [if_neg c23] at H
           exact absurd H (by simp)
         · rw [if_neg c22] at H
           have c22b0:=zdnl c22
           clear c22
           obtain ⟨ji30,hji30⟩:∃ j_:Int,(mn x5_3 17)=j_:=⟨_,rfl⟩
           replace H:(some ji30)=some r:=by ((rw [hji30] at H;exact H))
           have hji30_:(if 17 < x5_3 then 17 else x5_3)=ji30:=hji30
           obtain rfl:=zi H
           go_wp2
           repeat (go_quiet (fail);try go_wp2)
           go_ret
           exact ⟨by (rfl),za10⟩
def impl_IsValidRegex.f (k:Nat) (a0_0:Int) (a0_1:ByteArray) (l0_2:List (S54)):Option (Bool):=(impl_nodesOf.f k a0_0 a0_1 l0_2 6).bind fun t69002=>(some (decide (t69002≤16)))
theorem impl_IsValidRegex.calls (k:Nat) (a0_0:Int) (a0_1:ByteArray) (A0_2:Option Addr) (c0_2:Nat) (l0_2:List (S54)) (r:Bool) (w:World) (hr0_2:Kd.C k54 w A0_2 l0_2.length l0_2) (hc0_2:l0_2.length≤c0_2) (h:impl_IsValidRegex.f k a0_0 a0_1 l0_2=some r) :
  Calls Tryz.prog 69 #[.agg #[.int .i64 a0_0,.string a0_1,.slice A0_2 l0_2.length c0_2]] w fun e w'=>e = .returned (.bool r)∧Below w.heap.size w w':=by
 have hu54:=Tryz.underlying54
 have HR0_2:=zk hr0_2
 have HC0_2:=zk hc0_2
 clear hr0_2 hc0_2
 have HB:=zk (Below.refl w.heap.size w)
 have H:=h
 unfold impl_IsValidRegex.f at H
 clear h
 obtain ⟨t2,A2,H⟩:=zO H
 try dsimp only at H
 obtain rfl:=zi H
 go_enter Tryz.func69,Tryz.ntmps69
 go_wp2_with (first|((with_reducible refine gate_dst (N:=1) rfl ?_);refine zE (cs:=#[.int .i64 a0_0,.string a0_1,.slice A0_2 l0_2.length c0_2]) (t:=54) ?_;intro gb1 hg w3 hbox hb;have BK1:=zk hbox;have GW1:=zk (zs (w:=w) hg za10);have GE1:=GW1;replace HB:=yB HB hb;clear hb hbox hg;obtain ⟨hcz4_0,hcz4_1,hcz4_2,hfz4_0,hfz4_1,hfz4_2⟩:=blk3 BK1.out)|((with_reducible refine gate_callee (f:=95) rfl ?_);refine zg (some 4) Tryz.func95 #[.agg #[.int .i64 a0_0,.string a0_1,.slice A0_2 l0_2.length c0_2],.int .i64 6] rfl za11 ?_;(with_reducible refine (impl_nodesOf.calls k a0_0 a0_1 _ _ l0_2 6 t2 _ ?side1 ?side2 A2.out).mono ?_);(case side1=>repeat ((exact (Kd.C_below HR0_2.out HB.out))));(case side2=>exact HC0_2.out);rintro e w5 ⟨rfl,hb⟩;refine ⟨_,rfl,?_⟩;replace BK1:=yb BK1 hb;replace HB:=yB HB hb;(try clear hb)))
 go_ret
 exact ⟨by (rfl),za10⟩
def impl_IsValidConstraint_1.f (a0:Int):Option (Bool):=(impl_within.f a0 (-9) 9).bind fun t72001=>(some (!t72001))
theorem impl_IsValidConstraint_1.calls (a0:Int) (r:Bool) (w:World) (h:impl_IsValidConstraint_1.f a0=some r) :
  Calls Tryz.prog 72 #[.int .i64 a0] w fun e w'=>e = .returned (.bool r)∧Drawn0 w w':=by
 have H:=h
 unfold impl_IsValidConstraint_1.f at H
 clear h
 obtain ⟨t1,A2,H⟩:=zO H
 try dsimp only at H
 obtain rfl:=zi H
 go_enter Tryz.func72,Tryz.ntmps72
 go_wp2_with (first|((with_reducible refine gate_callee (f:=70) rfl ?_);refine zg (some 4) Tryz.func70 #[.int .i64 a0,.int .i64 (-9),.int .i64 9] rfl za14 ?_;(with_reducible refine (impl_within.calls a0 (-9) 9 t1 _ A2.out).mono ?_);rintro e w' ⟨rfl,⟨nd,rfl⟩⟩;refine ⟨_,rfl,?_⟩))
 go_ret
 exact ⟨za23,za20⟩
end Go.Proofs.YtcbjhfoeecfcoaaGreat.A
namespace Go.Proofs.YtcbjhfoeecfcoaaGreat.Ext
open Go.RowKit YtcbjhfoeecfcoaaGreatW.PrintWords YtcbjhfoeecfcoaaGreatW.PrintLast
theorem goesF_ {P : Program} {ops : Array Oper} {Q : Exit → Act → World → Prop} {rest : List Oper} {oi : Oper} {a : Act} {w : World} (N : Option Tmp) (hd : oi.dst = N) (hg : oi.guard = none) {f : FuncId} {fn : Func} {as_ : Array Operand} {ts : Array TypeId} {c : Operand} (hf : P.funcs[f]? = some fn) (hname : (fn.name == "runtime.NumGoroutine") = false) (hb : fn.body.isSome = true) (args : Array Value)
  (hop:oi.op = .call { callee:=.value c,args:=as_,argTypes:=ts }) (hc:a.eval c = .func (.func f) #[] #[]) (hargs:as_.map a.eval=args)
  (h:Calls P f args w fun e w'=>∃ v,e = .returned v∧wpList P ops Q rest (a.put N v) w'):wpList P ops Q (oi :: rest) a w:=by
 refine wpList_plain hg fun K hK=>?_
 have he:=enters_ hf hname hb args w
 have hrun:(execOp a.eval oi).run P w = .ok (.enter f args) w:=by
  unfold execOp
  rw [hop]
  simp [hc,resolve,Deferred.ofValue,invoke,hargs,he]
 unfold Oper.wp
 rw [hrun,Oper.upon_enter]
 refine h.mono fun e w'' hh=>?_
 obtain ⟨v,rfl,hk⟩:=hh
 subst hd
 exact hK _ _ hk
end Go.Proofs.YtcbjhfoeecfcoaaGreat.Ext
namespace Go.Proofs.YtcbjhfoeecfcoaaGreat.A
open Go.RowKit YtcbjhfoeecfcoaaGreat.Ext YtcbjhfoeecfcoaaGreatW.PrintWords YtcbjhfoeecfcoaaGreatW.PrintLast YtcbjhfoeecfcoaaGreatW.PrintMore
attribute [local go_sem] max2_int min2_int max_two min_two max_three min_three max_four min_four
def slices_IndexFunc_int_int.l0:Nat→List Int→Int→Int→Option (Int)
 | 0,_,_,_=>none
 | k+1,x0,x7,x8=>if x8 < x7 then (if 0≤x8 then (if x8 < (x0.length:Int) then ((impl_IsValidConstraint_1.f (rd x0 x8)).bind fun t96002=>(if t96002=true then (some x8) else (slices_IndexFunc_int_int.l0 k x0 x7 (wrap64 (x8+1))))) else (none)) else (none)) else (some (-1))
def slices_IndexFunc_int_int.f (k:Nat) (l0:List Int):Option (Int):=slices_IndexFunc_int_int.l0 k l0 (l0.length:Int) 0
theorem slices_IndexFunc_int_int.calls (k:Nat) (A0:Option Addr) (c0:Nat) (l0:List Int) (r:Int) (w:World) (hr0:Kd.C (Kd.int .i64) w A0 l0.length l0) (hc0:l0.length≤c0) (h:slices_IndexFunc_int_int.f k l0=some r) :
   Calls Tryz.prog 96 #[.slice A0 l0.length c0,.func (.func 72) #[] #[]] w fun e w'=>e = .returned (.int .i64 r)∧Drawn0 w w':=by
 have HR0:=zk hr0
 have HC0:=zk hc0
 clear hr0 hc0
 have H:=h
 unfold slices_IndexFunc_int_int.f at H
 clear h
 have H':=zk H
 clear H
 go_enter Tryz.func96,Tryz.ntmps96
 go_wp2
 try simp only [Act.put,zt,zv,zu]
 go_loopg [8] k (fun kq v8 w'=>∃ (x8_1:Int),v8 = .int .i64 x8_1∧Aside0 (slices_IndexFunc_int_int.l0 kq l0 (l0.length:Int) x8_1=some r)∧Aside0 (kq≤k)∧Drawn0 w w')
 case atStart=>exact ⟨(0),za23,H',⟨Nat.le_refl _⟩,za20⟩
 case round =>
  clear H'
  obtain ⟨x8_1,rfl,HA,HK1,⟨m1,rfl⟩⟩:=hrel
  cases gk with
  | zero=>exact absurd HA.out (by simp [slices_IndexFunc_int_int.l0])
  | succ k1 =>
   have H:=HA.out
   clear HA
   simp only [slices_IndexFunc_int_int.l0] at H
   by_cases c2:x8_1 < (l0.length:Int)
   rw [if_pos c2] at H
   have c2b0:=zdl c2
   clear c2
   by_cases c3:0≤x8_1
   rw [if_pos c3] at H
   have c3b0:=zdle c3
   clear c3
   by_cases c4:x8_1 < (l0.length:Int)
   rw [if_pos c4] at H
   have c4b0:=zdl c4
   clear c4
   obtain ⟨t2,A5,H⟩:=zO H
   try dsimp only at H
   by_cases c6:t2=true
   subst c6
   rw [if_pos rfl] at H
   try dsimp only at H
   obtain rfl:=zi H
   have fin0_:=zk trivial
   rotate_left
   replace c6:=Bool.eq_false_iff.mpr c6
   subst c6
   rw [if_neg zff] at H
   try dsimp only at H
   have H':=zk H
   clear H
   have fin1_:=zk trivial
   rotate_left
   · rw [if_neg c4] at H
     exact absurd H (by simp)
   · rw [if_neg c3] at H
     exact absurd H (by simp)
   · rw [if_neg c2] at H
     have c2b0:=zdnl c2
     clear c2
     obtain rfl:=zi H
     go_wp2
     go_ret
     exact ⟨za23,za20⟩
   all_goals
    have p96001:0≤(x8_1:Int):=of_decide_eq_true za36
    have q96001:x8_1 < (l0.length:Int):=of_decide_eq_true za36
    obtain ⟨ad96001,e96001,hx96001_0⟩:=Kd.at_int HR0.out x8_1 p96001 q96001
    cases e96001
    replace p96001:=eq_true p96001
    replace q96001:=eq_true q96001
    go_wp2_with (((with_reducible refine gate_dst (N:=16) rfl ?_);refine goesF_ (some 16) rfl rfl Tryz.func72 (by kernel_rfl) rfl #[.int .i64 (rd l0 x8_1)] rfl (by first|rfl|(go_simp;done)) za14 ?_;(with_reducible refine (impl_IsValidConstraint_1.calls (rd l0 x8_1) _ _ A5.out).mono ?_);rintro e w' ⟨rfl,⟨nd,rfl⟩⟩;refine ⟨_,rfl,?_⟩))
    first
    | (
      clear fin0_
      go_ret
      exact ⟨za23,za20⟩)
    | (
      clear fin1_
      go_roundg k1
      case measure=>have:=HK1.out;omega
      case rel=>exact ⟨(wrap64 (x8_1+1)),za23,H',⟨za43⟩,za20⟩)
def slices_ContainsFunc_int_int.f (k:Nat) (l0:List Int):Option (Bool):=(slices_IndexFunc_int_int.f k l0).bind fun t71001=>(some (decide (t71001 ≥ 0)))
theorem slices_ContainsFunc_int_int.calls (k:Nat) (A0:Option Addr) (c0:Nat) (l0:List Int) (r:Bool) (w:World) (hr0:Kd.C (Kd.int .i64) w A0 l0.length l0) (hc0:l0.length≤c0) (h:slices_ContainsFunc_int_int.f k l0=some r) :
  Calls Tryz.prog 71 #[.slice A0 l0.length c0,.func (.func 72) #[] #[]] w fun e w'=>e = .returned (.bool r)∧Drawn0 w w':=by
 have HR0:=zk hr0
 have HC0:=zk hc0
 clear hr0 hc0
 have H:=h
 unfold slices_ContainsFunc_int_int.f at H
 clear h
 obtain ⟨t1,A2,H⟩:=zO H
 try dsimp only at H
 obtain rfl:=zi H
 go_enter Tryz.func71,Tryz.ntmps71
 go_wp2_with (first|((with_reducible refine gate_callee (f:=96) rfl ?_);refine zg (some 7) Tryz.func96 #[.slice A0 l0.length c0,.func (.func 72) #[] #[]] rfl za14 ?_;(with_reducible refine (slices_IndexFunc_int_int.calls k _ _ l0 t1 _ ?side1 ?side2 A2.out).mono ?_);(case side1=>repeat (first|exact HR0.out|(with_reducible refine Kd.C_alloc ?_ _)|(with_reducible refine Kd.C_drewN ?_ _)|(with_reducible refine Kd.C_drew ?_)));(case side2=>exact HC0.out);rintro e w' ⟨rfl,⟨nd,rfl⟩⟩;refine ⟨_,rfl,?_⟩))
 go_ret
 exact ⟨za23,za20⟩
end Go.Proofs.YtcbjhfoeecfcoaaGreat.A
namespace Go.Proofs.YtcbjhfoeecfcoaaGreat.Ext
open Go Go.RowKit YtcbjhfoeecfcoaaGreatW.PrintWords YtcbjhfoeecfcoaaGreatW.PrintLast YtcbjhfoeecfcoaaGreat.A
theorem two_new (w:World) (o1 o2:Obj):((w.alloc o1).alloc o2).drew.heap[w.heap.size]? = some o1∧((w.alloc o1).alloc o2).drew.heap[w.heap.size+1]? = some o2∧Below w.heap.size w ((w.alloc o1).alloc o2).drew:=by
 refine ⟨blk_drew (blk_alloc (blk_new w o1) o2),?_,below_drew (below_alloc (below_alloc (Below.refl _ _) _) _)⟩
 have:=blk_new (w.alloc o1) o2
 rw [show (w.alloc o1).heap.size=w.heap.size+1 by simp] at this
 exact blk_drew this
section
variable (w0 : World) (g b : Nat) (hgb : g ≠ b) (hg : w0.heap.size ≤ g) (hb : w0.heap.size ≤ b) (s : ByteArray) (n : Nat) (hn : n ≤ 401) (hsn : s.size + 1 = n) (z : Nat) (hz : z ≤ 16) (T : Nat → Nat → Nat → Bool)
 (bs:ByteArray) (A:Option Addr) (c id i j:Nat) (hij:i≤j) (hj:j < n) (m:List Int) (W:World) (hl:m.length=z * n * n) (hM:MSt g b s n m W) (hB:Below w0.heap.size w0 W)
include hgb hg hb hn hsn hz hij hj hl hM hB
set_option maxHeartbeats 4000000 in
theorem find_not (y:S54) (u:Rx) (hC:Kd.C k54 w0 A 1 [y]) (hid:id+1+u.size≤z)
  (hc:∀ A2 c2,y.f2.length≤c2→Kd.C k54 w0 A2 y.f2.length y.f2→MC w0 g b s n z T u y.f0 y.f1 A2 y.f2.length c2 (id+1) n)
  (hG:Gd n T m (RgF id (1+u.size) (j - i))) :
  Calls Tryz.prog 102 #[.pointer (some ⟨g,0,none⟩),.agg #[.int .i64 9,.string bs,.slice A 1 c],.int .i64 (id:Int),.int .i64 (i:Int),.int .i64 (j:Int)] W (MPost w0 W g b s n T m (RgF id (1+u.size) (j - i)) (!mt s u i j)):=by
 obtain ⟨ad,A2,c2,rfl,e0,e1,e2,h3,h4⟩:=arg0_at hC hB
 have hsub:∀ a' i' j',RgM (id+1) u.size (j - i) a' i' j'→RgF id (1+u.size) (j - i) a' i' j':=fun a' i' j' h=>⟨by have:=h.1;omega,by have:=h.2.1;omega,fun e=>by have:=h.1;omega⟩
 have HC:=zk (fun (W':World) (hM':MSt g b s n m W') (hB':Below w0.heap.size w0 W')=>hc A2 c2 h3 h4 i j ((id:Int)+1) i j m W' (by omega) rfl rfl hij hj (by omega) hl hM' (hG.sub hsub) hB')
 have HS:=zk hsub
 have HM:=zk hM
 have HB:=zk hB
 have HG:=zk hG
 clear hM hB hG hl hsub hc h3 h4 hC
 go_enter Tryz.func102,Tryz.ntmps102
 go_wp2_with (first|((with_reducible refine gate_dst (N:=6) rfl ?_);refine zE (cs:=#[.int .i64 9,.string bs,.slice (some ad) 1 c]) (t:=54) ?_;intro gx hgx w3 hbox hb3;have M3:=zk (HM.out.below hb3);have K3:=zk (KeepBut.of_below hb3 b none);have B3:=zk (below_step HB.out hb3:Below w0.heap.size w0 w3);have X3:=zk hbox;have G3:=zk (show W.heap.size≤gx by omega);have N3:=zk (show b < W.heap.size from blk_lt HM.out.hb);have e0:=pw_cell_below hb3 e0;have e1:=pw_cell_below hb3 e1;have e2:=pw_cell_below hb3 e2;clear hb3 hbox hgx;obtain ⟨y0,y1,y2,g0,g1,g2⟩:=blk3 X3.out;obtain ⟨z0,z1,z2,f0,f1,f2⟩:=blk3 M3.out.hm)|(go_at_call 85;(with_reducible refine (HC.out _ M3.out B3.out).mono ?_);rintro e w5 ⟨rfl,m5,hl5,M5,G5,S5,K5,B5⟩;have n0_:=zk hl5;have n1_:=zk G5;have n2_:=zk S5;have n3_:=zk K5;have n4_:=zk B5;have n5_:=zk M5;clear hl5 G5 S5 K5 B5 M5))
 go_ret
 exact ⟨rfl,m5,n0_.out,n5_.out,HG.out.next n1_.out n2_.out,Sm3.next (Sm3.refl _ _ _) n2_.out HS.out,K3.out.trans n3_.out (.inl rfl),n4_.out⟩
set_option maxHeartbeats 4000000 in
theorem find_or (x y:S54) (t u:Rx) (hC:Kd.C k54 w0 A 2 [x,y]) (hid:id+1+t.size+u.size≤z)
  (hx:∀ A2 c2,x.f2.length≤c2→Kd.C k54 w0 A2 x.f2.length x.f2→MC w0 g b s n z T t x.f0 x.f1 A2 x.f2.length c2 (id+1) n)
  (hy:∀ A2 c2,y.f2.length≤c2→Kd.C k54 w0 A2 y.f2.length y.f2→MC w0 g b s n z T u y.f0 y.f1 A2 y.f2.length c2 (id+1+t.size) n)
  (hsz:∀ A2 c2 W',x.f2.length≤c2→Kd.C k54 W' A2 x.f2.length x.f2→Calls Tryz.prog 84 #[.agg #[.int .i64 x.f0,.string x.f1,.slice A2 x.f2.length c2]] W' fun e w'=>e = .returned (.int .i64 (t.size:Int))∧Below W'.heap.size W' w')
  (hG:Gd n T m (RgF id (1+t.size+u.size) (j - i))) :
  Calls Tryz.prog 102 #[.pointer (some ⟨g,0,none⟩),.agg #[.int .i64 6,.string bs,.slice A 2 c],.int .i64 (id:Int),.int .i64 (i:Int),.int .i64 (j:Int)] W (MPost w0 W g b s n T m (RgF id (1+t.size+u.size) (j - i)) (mt s t i j || mt s u i j)):=by
 obtain ⟨ad,A2,c2,rfl,e0,e1,e2,h3,h4⟩:=arg0_at hC hB
 obtain ⟨A3,c3,e3,e4,e5,h5,h6⟩:=arg1_at hC hB
 have HM:=zk hM
 have HB:=zk hB
 have HG:=zk hG
 have hs1:∀ a' i' j',RgM (id+1) t.size (j - i) a' i' j'→RgF id (1+t.size+u.size) (j - i) a' i' j':=fun a' i' j' h=>⟨by have:=h.1;omega,by have:=h.2.1;omega,fun e=>by have:=h.1;omega⟩
 have hs2:∀ a' i' j',RgM (id+1+t.size) u.size (j - i) a' i' j'→RgF id (1+t.size+u.size) (j - i) a' i' j':=fun a' i' j' h=>⟨by have:=h.1;omega,by have:=h.2.1;omega,fun e=>by have:=h.1;omega⟩
 have HX:=zk (fun (W':World) (hM':MSt g b s n m W') (hB':Below w0.heap.size w0 W')=>hx A2 c2 h3 h4 i j ((id:Int)+1) i j m W' (by omega) rfl rfl hij hj (by omega) hl hM' (hG.sub hs1) hB')
 have HY:=zk (fun (m':List Int) (W':World) (hl':m'.length=m.length) (hM':MSt g b s n m' W') (hG':Gd n T m' (RgF id (1+t.size+u.size) (j - i))) (hB':Below w0.heap.size w0 W')=>hy A3 c3 h5 h6 i j ((id:Int)+1+(t.size:Int)) i j m' W' (by omega) rfl rfl hij hj (by omega) (hl'.trans hl) hM' (hG'.sub hs2) hB')
 have HZ:=zk (fun (W':World) (hB':Below w0.heap.size w0 W')=>hsz A2 c2 W' h3 (Kd.C_below h4 hB'))
 have HS1:=zk hs1
 have HS2:=zk hs2
 have ht0:0 < t.size:=t.size_pos
 clear hM hB hG hl hx hy h3 h4 h5 h6 hC hsz hs1 hs2
 go_enter Tryz.func102,Tryz.ntmps102
 go_upto_region 22 with ((with_reducible refine gate_dst (N:=6) rfl ?_);refine zE (cs:=#[.int .i64 6,.string bs,.slice (some ad) 2 c]) (t:=54) ?_;intro gx hgx w3 hbox hb3;have M3:=zk (HM.out.below hb3);have K3:=zk (KeepBut.of_below hb3 b none);have B3:=zk (below_step HB.out hb3:Below w0.heap.size w0 w3);have X3:=zk hbox;have G3:=zk (show W.heap.size≤gx by omega);have N3:=zk (show b < W.heap.size from blk_lt HM.out.hb);have e0:=pw_cell_below hb3 e0;have e1:=pw_cell_below hb3 e1;have e2:=pw_cell_below hb3 e2;have e3:=pw_cell_below hb3 e3;have e4:=pw_cell_below hb3 e4;have e5:=pw_cell_below hb3 e5;clear hb3 hbox hgx;obtain ⟨y0,y1,y2,g0,g1,g2⟩:=blk3 X3.out;obtain ⟨z0,z1,z2,f0,f1,f2⟩:=blk3 M3.out.hm)
 have l1:gx < w3.heap.size:=blk_lt X3.out
 have l2:ad.block < w3.heap.size:=World.block_lt_of_cell? w3 _ e0
 go_cut [12,13] (fun v12 v13 wc=>∃ (L R:Nat),v12 = .pointer (some ⟨L,0,none⟩)∧v13 = .pointer (some ⟨R,0,none⟩)∧Aside0 (wc.heap[L]? = some (.cells #[.int .i64 x.f0,.string x.f1,.slice A2 x.f2.length c2] 54 (0,0)))∧Aside0 (wc.heap[R]? = some (.cells #[.int .i64 y.f0,.string y.f1,.slice A3 y.f2.length c3] 54 (0,0)))∧Aside0 (wc.heap[gx]? = some (.cells #[.int .i64 6,.string bs,.slice (some ad) 2 c] 54 (0,0)))∧Aside0 (MSt g b s n m wc)∧Aside0 (KeepBut W wc b none)∧Aside0 (Below w0.heap.size w0 wc)∧Aside0 (W.heap.size≤L∧W.heap.size≤R∧W.heap.size≤gx))
 case first =>
  have hw3:Aside0 (W.heap.size≤w3.heap.size):=⟨K3.out.1⟩
  go_region
  all_goals
   try go_wp2
   go_meet
   case rel =>
    first
    | exact ⟨_,_,rfl,rfl,⟨(two_new w3 _ _).2.1⟩,⟨(two_new w3 _ _).1⟩,⟨blk_below X3.out (two_new w3 _ _).2.2⟩,⟨M3.out.below (two_new w3 _ _).2.2⟩,⟨K3.out.trans (KeepBut.of_below (two_new w3 _ _).2.2 b none) (.inl rfl)⟩,⟨below_step B3.out (two_new w3 _ _).2.2⟩,⟨by have:=hw3.out;omega,hw3.out,G3.out⟩⟩
    | exact ⟨_,_,rfl,rfl,⟨(two_new w3 _ _).1⟩,⟨(two_new w3 _ _).2.1⟩,⟨blk_below X3.out (two_new w3 _ _).2.2⟩,⟨M3.out.below (two_new w3 _ _).2.2⟩,⟨K3.out.trans (KeepBut.of_below (two_new w3 _ _).2.2 b none) (.inl rfl)⟩,⟨below_step B3.out (two_new w3 _ _).2.2⟩,⟨hw3.out,by have:=hw3.out;omega,G3.out⟩⟩
 case rest =>
  clear M3 K3 B3 X3 HM HB e0 e1 e2 e3 e4 e5 y0 y1 y2 g0 g1 g2 z0 z1 z2 f0 f1 f2 l1 l2
  obtain ⟨L,R,rfl,rfl,XL,XR,XG,HM,HK,HB,HW⟩:=hcut
  obtain ⟨y0,y1,y2,g0,g1,g2⟩:=blk3 XL.out
  go_upto_region 24 with (go_at_call 84;(with_reducible refine (HZ.out _ HB.out).mono ?_);rintro e w6 ⟨rfl,hb6⟩;have n0_:=zk (blk_below XL.out hb6);have n1_:=zk (blk_below XR.out hb6);have n2_:=zk (blk_below XG.out hb6);have n3_:=zk (HM.out.below hb6);have n4_:=zk (HK.out.trans (KeepBut.of_below hb6 b none) (.inl rfl));have n5_:=zk (below_step HB.out hb6);clear XL XR XG HM HK HB hb6 y0 y1 y2 g0 g1 g2;have XL:=n0_;have XR:=n1_;have XG:=n2_;have HM:=n3_;have HK:=n4_;have HB:=n5_;clear n0_ n1_ n2_ n3_ n4_ n5_;obtain ⟨y0,y1,y2,g0,g1,g2⟩:=blk3 XL.out;obtain ⟨x0,x1,x2,h0,h1,h2⟩:=blk3 XR.out;obtain ⟨z0,z1,z2,f0,f1,f2⟩:=blk3 XG.out)
  cases hv:mt s t i j
  ·go_wp2_with (first|(go_at_call 85;(with_reducible refine (HX.out _ HM.out HB.out).mono ?_);rintro e w7 ⟨he,m7,hl7,M7,G7,S7,K7,B7⟩;rw [hv] at he;subst he;have L7:=zk hl7;have D7:=zk (HG.out.next G7 S7);have S7':=zk (Sm3.next (Sm3.refl n m _) S7 HS1.out);have Q7:=zk (HK.out.trans K7 (.inl rfl));have XR7:=zk (K7.blk XR.out za61 (by simp));have B7':=zk B7;have M7':=zk M7;clear hl7 M7 G7 S7 K7 B7 x0 x1 x2 h0 h1 h2 y0 y1 y2 g0 g1 g2 z0 z1 z2 f0 f1 f2;obtain ⟨x0,x1,x2,h0,h1,h2⟩:=blk3 XR7.out)|(go_at_call 85;(with_reducible refine (HY.out m7 _ L7.out M7'.out D7.out B7'.out).mono ?_);rintro e w8 ⟨rfl,m8,hl8,M8,G8,S8,K8,B8⟩;have L8:=zk (hl8.trans L7.out);have D8:=zk (D7.out.next G8 S8);have S8':=zk (Sm3.next S7'.out S8 HS2.out);have Q8:=zk (Q7.out.trans K8 (.inl rfl));have B8':=zk B8;have M8':=zk M8;clear hl8 M8 G8 S8 K8 B8))
   go_ret
   exact ⟨by rw [hv];rfl,m8,L8.out,M8'.out,D8.out,S8'.out,Q8.out,B8'.out⟩
  ·go_wp2_with (go_at_call 85;(with_reducible refine (HX.out _ HM.out HB.out).mono ?_);rintro e w7 ⟨he,m7,hl7,M7,G7,S7,K7,B7⟩;rw [hv] at he;subst he;have L7:=zk hl7;have D7:=zk (HG.out.next G7 S7);have S7':=zk (Sm3.next (Sm3.refl n m _) S7 HS1.out);have Q7:=zk (HK.out.trans K7 (.inl rfl));have XR7:=zk (K7.blk XR.out za61 (by simp));have B7':=zk B7;have M7':=zk M7;clear hl7 M7 G7 S7 K7 B7 x0 x1 x2 h0 h1 h2 y0 y1 y2 g0 g1 g2 z0 z1 z2 f0 f1 f2;obtain ⟨x0,x1,x2,h0,h1,h2⟩:=blk3 XR7.out)
   go_ret
   exact ⟨by rw [hv];rfl,m7,L7.out,M7'.out,D7.out,S7'.out,Q7.out,B7'.out⟩
set_option maxHeartbeats 4000000 in
theorem find_and (x y:S54) (t u:Rx) (hC:Kd.C k54 w0 A 2 [x,y]) (hid:id+1+t.size+u.size≤z)
  (hx:∀ A2 c2,x.f2.length≤c2→Kd.C k54 w0 A2 x.f2.length x.f2→MC w0 g b s n z T t x.f0 x.f1 A2 x.f2.length c2 (id+1) n)
  (hy:∀ A2 c2,y.f2.length≤c2→Kd.C k54 w0 A2 y.f2.length y.f2→MC w0 g b s n z T u y.f0 y.f1 A2 y.f2.length c2 (id+1+t.size) n)
  (hsz:∀ A2 c2 W',x.f2.length≤c2→Kd.C k54 W' A2 x.f2.length x.f2→Calls Tryz.prog 84 #[.agg #[.int .i64 x.f0,.string x.f1,.slice A2 x.f2.length c2]] W' fun e w'=>e = .returned (.int .i64 (t.size:Int))∧Below W'.heap.size W' w')
  (hG:Gd n T m (RgF id (1+t.size+u.size) (j - i))) :
  Calls Tryz.prog 102 #[.pointer (some ⟨g,0,none⟩),.agg #[.int .i64 7,.string bs,.slice A 2 c],.int .i64 (id:Int),.int .i64 (i:Int),.int .i64 (j:Int)] W (MPost w0 W g b s n T m (RgF id (1+t.size+u.size) (j - i)) (mt s t i j && mt s u i j)):=by
 obtain ⟨ad,A2,c2,rfl,e0,e1,e2,h3,h4⟩:=arg0_at hC hB
 obtain ⟨A3,c3,e3,e4,e5,h5,h6⟩:=arg1_at hC hB
 have HM:=zk hM
 have HB:=zk hB
 have HG:=zk hG
 have hs1:∀ a' i' j',RgM (id+1) t.size (j - i) a' i' j'→RgF id (1+t.size+u.size) (j - i) a' i' j':=fun a' i' j' h=>⟨by have:=h.1;omega,by have:=h.2.1;omega,fun e=>by have:=h.1;omega⟩
 have hs2:∀ a' i' j',RgM (id+1+t.size) u.size (j - i) a' i' j'→RgF id (1+t.size+u.size) (j - i) a' i' j':=fun a' i' j' h=>⟨by have:=h.1;omega,by have:=h.2.1;omega,fun e=>by have:=h.1;omega⟩
 have HX:=zk (fun (W':World) (hM':MSt g b s n m W') (hB':Below w0.heap.size w0 W')=>hx A2 c2 h3 h4 i j ((id:Int)+1) i j m W' (by omega) rfl rfl hij hj (by omega) hl hM' (hG.sub hs1) hB')
 have HY:=zk (fun (m':List Int) (W':World) (hl':m'.length=m.length) (hM':MSt g b s n m' W') (hG':Gd n T m' (RgF id (1+t.size+u.size) (j - i))) (hB':Below w0.heap.size w0 W')=>hy A3 c3 h5 h6 i j ((id:Int)+1+(t.size:Int)) i j m' W' (by omega) rfl rfl hij hj (by omega) (hl'.trans hl) hM' (hG'.sub hs2) hB')
 have HZ:=zk (fun (W':World) (hB':Below w0.heap.size w0 W')=>hsz A2 c2 W' h3 (Kd.C_below h4 hB'))
 have HS1:=zk hs1
 have HS2:=zk hs2
 have ht0:0 < t.size:=t.size_pos
 clear hM hB hG hl hx hy h3 h4 h5 h6 hC hsz hs1 hs2
 go_enter Tryz.func102,Tryz.ntmps102
 go_upto_region 22 with ((with_reducible refine gate_dst (N:=6) rfl ?_);refine zE (cs:=#[.int .i64 7,.string bs,.slice (some ad) 2 c]) (t:=54) ?_;intro gx hgx w3 hbox hb3;have M3:=zk (HM.out.below hb3);have K3:=zk (KeepBut.of_below hb3 b none);have B3:=zk (below_step HB.out hb3:Below w0.heap.size w0 w3);have X3:=zk hbox;have G3:=zk (show W.heap.size≤gx by omega);have N3:=zk (show b < W.heap.size from blk_lt HM.out.hb);have e0:=pw_cell_below hb3 e0;have e1:=pw_cell_below hb3 e1;have e2:=pw_cell_below hb3 e2;have e3:=pw_cell_below hb3 e3;have e4:=pw_cell_below hb3 e4;have e5:=pw_cell_below hb3 e5;clear hb3 hbox hgx;obtain ⟨y0,y1,y2,g0,g1,g2⟩:=blk3 X3.out;obtain ⟨z0,z1,z2,f0,f1,f2⟩:=blk3 M3.out.hm)
 have l1:gx < w3.heap.size:=blk_lt X3.out
 have l2:ad.block < w3.heap.size:=World.block_lt_of_cell? w3 _ e0
 go_cut [12,13] (fun v12 v13 wc=>∃ (L R:Nat),v12 = .pointer (some ⟨L,0,none⟩)∧v13 = .pointer (some ⟨R,0,none⟩)∧Aside0 (wc.heap[L]? = some (.cells #[.int .i64 x.f0,.string x.f1,.slice A2 x.f2.length c2] 54 (0,0)))∧Aside0 (wc.heap[R]? = some (.cells #[.int .i64 y.f0,.string y.f1,.slice A3 y.f2.length c3] 54 (0,0)))∧Aside0 (wc.heap[gx]? = some (.cells #[.int .i64 7,.string bs,.slice (some ad) 2 c] 54 (0,0)))∧Aside0 (MSt g b s n m wc)∧Aside0 (KeepBut W wc b none)∧Aside0 (Below w0.heap.size w0 wc)∧Aside0 (W.heap.size≤L∧W.heap.size≤R∧W.heap.size≤gx))
 case first =>
  have hw3:Aside0 (W.heap.size≤w3.heap.size):=⟨K3.out.1⟩
  go_region
  all_goals
   try go_wp2
   go_meet
   case rel =>
    first
    | exact ⟨_,_,rfl,rfl,⟨(two_new w3 _ _).2.1⟩,⟨(two_new w3 _ _).1⟩,⟨blk_below X3.out (two_new w3 _ _).2.2⟩,⟨M3.out.below (two_new w3 _ _).2.2⟩,⟨K3.out.trans (KeepBut.of_below (two_new w3 _ _).2.2 b none) (.inl rfl)⟩,⟨below_step B3.out (two_new w3 _ _).2.2⟩,⟨by have:=hw3.out;omega,hw3.out,G3.out⟩⟩
    | exact ⟨_,_,rfl,rfl,⟨(two_new w3 _ _).1⟩,⟨(two_new w3 _ _).2.1⟩,⟨blk_below X3.out (two_new w3 _ _).2.2⟩,⟨M3.out.below (two_new w3 _ _).2.2⟩,⟨K3.out.trans (KeepBut.of_below (two_new w3 _ _).2.2 b none) (.inl rfl)⟩,⟨below_step B3.out (two_new w3 _ _).2.2⟩,⟨hw3.out,by have:=hw3.out;omega,G3.out⟩⟩
 case rest =>
  clear M3 K3 B3 X3 HM HB e0 e1 e2 e3 e4 e5 y0 y1 y2 g0 g1 g2 z0 z1 z2 f0 f1 f2 l1 l2
  obtain ⟨L,R,rfl,rfl,XL,XR,XG,HM,HK,HB,HW⟩:=hcut
  obtain ⟨y0,y1,y2,g0,g1,g2⟩:=blk3 XL.out
  go_upto_region 24 with (go_at_call 84;(with_reducible refine (HZ.out _ HB.out).mono ?_);rintro e w6 ⟨rfl,hb6⟩;have n0_:=zk (blk_below XL.out hb6);have n1_:=zk (blk_below XR.out hb6);have n2_:=zk (blk_below XG.out hb6);have n3_:=zk (HM.out.below hb6);have n4_:=zk (HK.out.trans (KeepBut.of_below hb6 b none) (.inl rfl));have n5_:=zk (below_step HB.out hb6);clear XL XR XG HM HK HB hb6 y0 y1 y2 g0 g1 g2;have XL:=n0_;have XR:=n1_;have XG:=n2_;have HM:=n3_;have HK:=n4_;have HB:=n5_;clear n0_ n1_ n2_ n3_ n4_ n5_;obtain ⟨y0,y1,y2,g0,g1,g2⟩:=blk3 XL.out;obtain ⟨x0,x1,x2,h0,h1,h2⟩:=blk3 XR.out;obtain ⟨z0,z1,z2,f0,f1,f2⟩:=blk3 XG.out)
  cases hv:mt s t i j
  ·go_wp2_with (go_at_call 85;(with_reducible refine (HX.out _ HM.out HB.out).mono ?_);rintro e w7 ⟨he,m7,hl7,M7,G7,S7,K7,B7⟩;rw [hv] at he;subst he;have L7:=zk hl7;have D7:=zk (HG.out.next G7 S7);have S7':=zk (Sm3.next (Sm3.refl n m _) S7 HS1.out);have Q7:=zk (HK.out.trans K7 (.inl rfl));have XR7:=zk (K7.blk XR.out za61 (by simp));have B7':=zk B7;have M7':=zk M7;clear hl7 M7 G7 S7 K7 B7 x0 x1 x2 h0 h1 h2 y0 y1 y2 g0 g1 g2 z0 z1 z2 f0 f1 f2;obtain ⟨x0,x1,x2,h0,h1,h2⟩:=blk3 XR7.out)
   go_ret
   exact ⟨by rw [hv];rfl,m7,L7.out,M7'.out,D7.out,S7'.out,Q7.out,B7'.out⟩
  ·go_wp2_with (first|(go_at_call 85;(with_reducible refine (HX.out _ HM.out HB.out).mono ?_);rintro e w7 ⟨he,m7,hl7,M7,G7,S7,K7,B7⟩;rw [hv] at he;subst he;have L7:=zk hl7;have D7:=zk (HG.out.next G7 S7);have S7':=zk (Sm3.next (Sm3.refl n m _) S7 HS1.out);have Q7:=zk (HK.out.trans K7 (.inl rfl));have XR7:=zk (K7.blk XR.out za61 (by simp));have B7':=zk B7;have M7':=zk M7;clear hl7 M7 G7 S7 K7 B7 x0 x1 x2 h0 h1 h2 y0 y1 y2 g0 g1 g2 z0 z1 z2 f0 f1 f2;obtain ⟨x0,x1,x2,h0,h1,h2⟩:=blk3 XR7.out)|(go_at_call 85;(with_reducible refine (HY.out m7 _ L7.out M7'.out D7.out B7'.out).mono ?_);rintro e w8 ⟨rfl,m8,hl8,M8,G8,S8,K8,B8⟩;have L8:=zk (hl8.trans L7.out);have D8:=zk (D7.out.next G8 S8);have S8':=zk (Sm3.next S7'.out S8 HS2.out);have Q8:=zk (Q7.out.trans K8 (.inl rfl));have B8':=zk B8;have M8':=zk M8;clear hl8 M8 G8 S8 K8 B8))
   go_ret
   exact ⟨by rw [hv];rfl,m8,L8.out,M8'.out,D8.out,S8'.out,Q8.out,B8'.out⟩
end
section
variable (w0 : World) (g b : Nat) (hgb : g ≠ b) (hg : w0.heap.size ≤ g) (hb : w0.heap.size ≤ b) (s : ByteArray) (n : Nat) (hn : n ≤ 401) (hsn : s.size + 1 = n) (z : Nat) (hz : z ≤ 16) (T : Nat → Nat → Nat → Bool)
 (bs:ByteArray) (A:Option Addr) (c id i j:Nat) (hij:i≤j) (hj:j < n) (m:List Int) (W:World) (hl:m.length=z * n * n) (hM:MSt g b s n m W) (hB:Below w0.heap.size w0 W)
include hgb hg hb hn hsn hz hij hj hl hM hB
set_option maxHeartbeats 4000000 in
theorem find_cat (x y:S54) (t u:Rx) (hC:Kd.C k54 w0 A 2 [x,y]) (hid:id+1+t.size+u.size≤z)
  (hx:∀ A2 c2,x.f2.length≤c2→Kd.C k54 w0 A2 x.f2.length x.f2→MC w0 g b s n z T t x.f0 x.f1 A2 x.f2.length c2 (id+1) n)
  (hy:∀ A2 c2,y.f2.length≤c2→Kd.C k54 w0 A2 y.f2.length y.f2→MC w0 g b s n z T u y.f0 y.f1 A2 y.f2.length c2 (id+1+t.size) n)
  (hsz:∀ A2 c2 W',x.f2.length≤c2→Kd.C k54 W' A2 x.f2.length x.f2→Calls Tryz.prog 84 #[.agg #[.int .i64 x.f0,.string x.f1,.slice A2 x.f2.length c2]] W' fun e w'=>e = .returned (.int .i64 (t.size:Int))∧Below W'.heap.size W' w')
  (hG:Gd n T m (RgF id (1+t.size+u.size) (j - i))) :
  Calls Tryz.prog 102 #[.pointer (some ⟨g,0,none⟩),.agg #[.int .i64 5,.string bs,.slice A 2 c],.int .i64 (id:Int),.int .i64 (i:Int),.int .i64 (j:Int)] W (MPost w0 W g b s n T m (RgF id (1+t.size+u.size) (j - i)) (exIn (fun k=>mt s t i k && mt s u k j) i j)):=by
 obtain ⟨ad,A2,c2,rfl,e0,e1,e2,h3,h4⟩:=arg0_at hC hB
 obtain ⟨A3,c3,e3,e4,e5,h5,h6⟩:=arg1_at hC hB
 have HM:=zk hM
 have HB:=zk hB
 have HG:=zk hG
 have hs1:∀ l' a' i' j',RgM (id+1) t.size l' a' i' j'→RgF id (1+t.size+u.size) (j - i) a' i' j':=fun l' a' i' j' h=>⟨by have:=h.1;omega,by have:=h.2.1;omega,fun e=>by have:=h.1;omega⟩
 have hs2:∀ l' a' i' j',RgM (id+1+t.size) u.size l' a' i' j'→RgF id (1+t.size+u.size) (j - i) a' i' j':=fun l' a' i' j' h=>⟨by have:=h.1;omega,by have:=h.2.1;omega,fun e=>by have:=h.1;omega⟩
 have HX:=zk (fun (kk:Nat) (m':List Int) (W':World) (h1:i≤kk) (h2:kk≤j) (hl':m'.length=m.length) (hM':MSt g b s n m' W') (hG':Gd n T m' (RgF id (1+t.size+u.size) (j - i))) (hB':Below w0.heap.size w0 W')=>hx A2 c2 h3 h4 i kk ((id:Int)+1) i kk m' W' (by omega) rfl rfl h1 (by omega) (by omega) (hl'.trans hl) hM' (hG'.sub (hs1 _)) hB')
 have HY:=zk (fun (kk:Nat) (m':List Int) (W':World) (h1:i≤kk) (h2:kk≤j) (hl':m'.length=m.length) (hM':MSt g b s n m' W') (hG':Gd n T m' (RgF id (1+t.size+u.size) (j - i))) (hB':Below w0.heap.size w0 W')=>hy A3 c3 h5 h6 kk j ((id:Int)+1+(t.size:Int)) kk j m' W' (by omega) rfl rfl h2 hj (by omega) (hl'.trans hl) hM' (hG'.sub (hs2 _)) hB')
 have HZ:=zk (fun (W':World) (hB':Below w0.heap.size w0 W')=>hsz A2 c2 W' h3 (Kd.C_below h4 hB'))
 have HS1:=zk hs1
 have HS2:=zk hs2
 have ht0:0 < t.size:=t.size_pos
 clear hM hB hG hl hx hy h3 h4 h5 h6 hC hsz hs1 hs2
 go_enter Tryz.func102,Tryz.ntmps102
 go_upto_region 22 with ((with_reducible refine gate_dst (N:=6) rfl ?_);refine zE (cs:=#[.int .i64 5,.string bs,.slice (some ad) 2 c]) (t:=54) ?_;intro gx hgx w3 hbox hb3;have M3:=zk (HM.out.below hb3);have K3:=zk (KeepBut.of_below hb3 b none);have B3:=zk (below_step HB.out hb3:Below w0.heap.size w0 w3);have X3:=zk hbox;have G3:=zk (show W.heap.size≤gx by omega);have N3:=zk (show b < W.heap.size from blk_lt HM.out.hb);have e0:=pw_cell_below hb3 e0;have e1:=pw_cell_below hb3 e1;have e2:=pw_cell_below hb3 e2;have e3:=pw_cell_below hb3 e3;have e4:=pw_cell_below hb3 e4;have e5:=pw_cell_below hb3 e5;clear hb3 hbox hgx;obtain ⟨y0,y1,y2,g0,g1,g2⟩:=blk3 X3.out;obtain ⟨z0,z1,z2,f0,f1,f2⟩:=blk3 M3.out.hm)
 have l1:gx < w3.heap.size:=blk_lt X3.out
 have l2:ad.block < w3.heap.size:=World.block_lt_of_cell? w3 _ e0
 go_cut [12,13] (fun v12 v13 wc=>∃ (L R:Nat),v12 = .pointer (some ⟨L,0,none⟩)∧v13 = .pointer (some ⟨R,0,none⟩)∧Aside0 (wc.heap[L]? = some (.cells #[.int .i64 x.f0,.string x.f1,.slice A2 x.f2.length c2] 54 (0,0)))∧Aside0 (wc.heap[R]? = some (.cells #[.int .i64 y.f0,.string y.f1,.slice A3 y.f2.length c3] 54 (0,0)))∧Aside0 (wc.heap[gx]? = some (.cells #[.int .i64 5,.string bs,.slice (some ad) 2 c] 54 (0,0)))∧Aside0 (MSt g b s n m wc)∧Aside0 (KeepBut W wc b none)∧Aside0 (Below w0.heap.size w0 wc)∧Aside0 (W.heap.size≤L∧W.heap.size≤R∧W.heap.size≤gx))
 case first =>
  have hw3:Aside0 (W.heap.size≤w3.heap.size):=⟨K3.out.1⟩
  go_region
  all_goals
   try go_wp2
   go_meet
   case rel =>
    first
    | exact ⟨_,_,rfl,rfl,⟨(two_new w3 _ _).2.1⟩,⟨(two_new w3 _ _).1⟩,⟨blk_below X3.out (two_new w3 _ _).2.2⟩,⟨M3.out.below (two_new w3 _ _).2.2⟩,⟨K3.out.trans (KeepBut.of_below (two_new w3 _ _).2.2 b none) (.inl rfl)⟩,⟨below_step B3.out (two_new w3 _ _).2.2⟩,⟨by have:=hw3.out;omega,hw3.out,G3.out⟩⟩
    | exact ⟨_,_,rfl,rfl,⟨(two_new w3 _ _).1⟩,⟨(two_new w3 _ _).2.1⟩,⟨blk_below X3.out (two_new w3 _ _).2.2⟩,⟨M3.out.below (two_new w3 _ _).2.2⟩,⟨K3.out.trans (KeepBut.of_below (two_new w3 _ _).2.2 b none) (.inl rfl)⟩,⟨below_step B3.out (two_new w3 _ _).2.2⟩,⟨hw3.out,by have:=hw3.out;omega,G3.out⟩⟩
 case rest =>
  clear M3 K3 B3 X3 HM HB e0 e1 e2 e3 e4 e5 y0 y1 y2 g0 g1 g2 z0 z1 z2 f0 f1 f2 l1 l2
  obtain ⟨L,R,rfl,rfl,XL,XR,XG,HM,HK,HB,HW⟩:=hcut
  obtain ⟨y0,y1,y2,g0,g1,g2⟩:=blk3 XL.out
  go_upto_region 24 with (go_at_call 84;(with_reducible refine (HZ.out _ HB.out).mono ?_);rintro e w6 ⟨rfl,hb6⟩;have n0_:=zk (blk_below XL.out hb6);have n1_:=zk (blk_below XR.out hb6);have n2_:=zk (blk_below XG.out hb6);have n3_:=zk (HM.out.below hb6);have n4_:=zk (HK.out.trans (KeepBut.of_below hb6 b none) (.inl rfl));have n5_:=zk (below_step HB.out hb6);clear XL XR XG HM HK HB hb6 y0 y1 y2 g0 g1 g2;have XL:=n0_;have XR:=n1_;have XG:=n2_;have HM:=n3_;have HK:=n4_;have HB:=n5_;clear n0_ n1_ n2_ n3_ n4_ n5_;obtain ⟨y0,y1,y2,g0,g1,g2⟩:=blk3 XL.out;obtain ⟨x0,x1,x2,h0,h1,h2⟩:=blk3 XR.out;obtain ⟨z0,z1,z2,f0,f1,f2⟩:=blk3 XG.out)
  go_wp2
  clear x0 x1 x2 h0 h1 h2 y0 y1 y2 g0 g1 g2 z0 z1 z2 f0 f1 f2
  go_loopg [15] (j+1 - i) (fun kq v15 w'=>∃ (kk:Nat) (mm:List Int),v15 = .int .i64 (kk:Int)∧Aside0 (kk+kq=j+1)∧Aside0 (i≤kk)∧Aside0 (∀ k',i≤k'→k' < kk→(mt s t i k' && mt s u k' j)=false)∧Aside0 (mm.length=m.length)∧Aside0 (MSt g b s n mm w')∧Aside0 (Gd n T mm (RgF id (1+t.size+u.size) (j - i)))∧Aside0 (Sm3 n m mm (RgF id (1+t.size+u.size) (j - i)))∧Aside0 (KeepBut W w' b none)∧Aside0 (Below w0.heap.size w0 w')∧Aside0 (w'.heap[L]? = some (.cells #[.int .i64 x.f0,.string x.f1,.slice A2 x.f2.length c2] 54 (0,0)))∧Aside0 (w'.heap[R]? = some (.cells #[.int .i64 y.f0,.string y.f1,.slice A3 y.f2.length c3] 54 (0,0))))
  case atStart=>exact ⟨i,m,rfl,⟨by omega⟩,⟨Nat.le_refl _⟩,⟨fun k' h1 h2=>by omega⟩,⟨rfl⟩,HM,HG,⟨Sm3.refl _ _ _⟩,HK,HB,XL,XR⟩
  case round =>
   clear HM HG HK HB XL XR XG
   obtain ⟨kk,mm,rfl,HQ,HK1,HN,HL,HM,HD,HS,HK,HB,XL,XR⟩:=hrel
   obtain ⟨y0,y1,y2,g0,g1,g2⟩:=blk3 XL.out
   obtain ⟨x0,x1,x2,h0,h1,h2⟩:=blk3 XR.out
   by_cases hle:kk≤j
   ·have HK2:=zk hle
    have hd:decide (kk≤j)=true:=decide_eq_true hle
    clear hle
    have hk9:kk≤401:=by have:=HK2.out;omega
    cases gk with
    | zero=>exact absurd HQ.out za91
    | succ k1 =>
     cases hv:mt s t i kk
     ·go_wp2_with (go_at_call 85;(with_reducible refine (HX.out kk mm _ HK1.out HK2.out HL.out HM.out HD.out HB.out).mono ?_);rintro e w7 ⟨he,m7,hl7,M7,G7,S7,K7,B7⟩;rw [hv] at he;subst he;have L7:=zk (hl7.trans HL.out);have D7:=zk (HD.out.next G7 S7);have S7':=zk (Sm3.next HS.out S7 (HS1.out _));have Q7:=zk (HK.out.trans K7 (.inl rfl));have XR7:=zk (K7.blk XR.out za61 (by simp));have XL7:=zk (K7.blk XL.out za61 (by simp));have B7':=zk B7;have M7':=zk M7;clear hl7 M7 G7 S7 K7 B7 x0 x1 x2 h0 h1 h2 y0 y1 y2 g0 g1 g2;obtain ⟨x0,x1,x2,h0,h1,h2⟩:=blk3 XR7.out)
      go_roundg k1
      case measure=>omega
      case rel=>exact ⟨kk+1,m7,za93,⟨za88⟩,⟨za43⟩,⟨fun k' h1 h2=>by
        by_cases e:k'=kk
        ·subst e;rw [hv];rfl
        ·exact HN.out k' h1 (by omega)⟩,L7,M7',D7,S7',Q7,B7',XL7,XR7⟩
     ·cases hv2:mt s u kk j
      ·go_wp2_with (first|(go_at_call 85;(with_reducible refine (HX.out kk mm _ HK1.out HK2.out HL.out HM.out HD.out HB.out).mono ?_);rintro e w7 ⟨he,m7,hl7,M7,G7,S7,K7,B7⟩;rw [hv] at he;subst he;have L7:=zk (hl7.trans HL.out);have D7:=zk (HD.out.next G7 S7);have S7':=zk (Sm3.next HS.out S7 (HS1.out _));have Q7:=zk (HK.out.trans K7 (.inl rfl));have XR7:=zk (K7.blk XR.out za61 (by simp));have XL7:=zk (K7.blk XL.out za61 (by simp));have B7':=zk B7;have M7':=zk M7;clear hl7 M7 G7 S7 K7 B7 x0 x1 x2 h0 h1 h2 y0 y1 y2 g0 g1 g2;obtain ⟨x0,x1,x2,h0,h1,h2⟩:=blk3 XR7.out)|(go_at_call 85;(with_reducible refine (HY.out kk m7 _ HK1.out HK2.out L7.out M7'.out D7.out B7'.out).mono ?_);rintro e w8 ⟨he,m8,hl8,M8,G8,S8,K8,B8⟩;rw [hv2] at he;subst he;have L8:=zk (hl8.trans L7.out);have D8:=zk (D7.out.next G8 S8);have S8':=zk (Sm3.next S7'.out S8 (HS2.out _));have Q8:=zk (Q7.out.trans K8 (.inl rfl));have XR8:=zk (K8.blk XR7.out za61 (by simp));have XL8:=zk (K8.blk XL7.out za61 (by simp));have B8':=zk B8;have M8':=zk M8;clear hl8 M8 G8 S8 K8 B8))
       go_roundg k1
       case measure=>omega
       case rel=>exact ⟨kk+1,m8,za93,⟨za88⟩,⟨za43⟩,⟨fun k' h1 h2=>by
         by_cases e:k'=kk
         ·subst e;rw [hv,hv2];rfl
         ·exact HN.out k' h1 (by omega)⟩,L8,M8',D8,S8',Q8,B8',XL8,XR8⟩
      ·go_wp2_with (first|(go_at_call 85;(with_reducible refine (HX.out kk mm _ HK1.out HK2.out HL.out HM.out HD.out HB.out).mono ?_);rintro e w7 ⟨he,m7,hl7,M7,G7,S7,K7,B7⟩;rw [hv] at he;subst he;have L7:=zk (hl7.trans HL.out);have D7:=zk (HD.out.next G7 S7);have S7':=zk (Sm3.next HS.out S7 (HS1.out _));have Q7:=zk (HK.out.trans K7 (.inl rfl));have XR7:=zk (K7.blk XR.out za61 (by simp));have XL7:=zk (K7.blk XL.out za61 (by simp));have B7':=zk B7;have M7':=zk M7;clear hl7 M7 G7 S7 K7 B7 x0 x1 x2 h0 h1 h2 y0 y1 y2 g0 g1 g2;obtain ⟨x0,x1,x2,h0,h1,h2⟩:=blk3 XR7.out)|(go_at_call 85;(with_reducible refine (HY.out kk m7 _ HK1.out HK2.out L7.out M7'.out D7.out B7'.out).mono ?_);rintro e w8 ⟨he,m8,hl8,M8,G8,S8,K8,B8⟩;rw [hv2] at he;subst he;have L8:=zk (hl8.trans L7.out);have D8:=zk (D7.out.next G8 S8);have S8':=zk (Sm3.next S7'.out S8 (HS2.out _));have Q8:=zk (Q7.out.trans K8 (.inl rfl));have XR8:=zk (K8.blk XR7.out za61 (by simp));have XL8:=zk (K8.blk XL7.out za61 (by simp));have B8':=zk B8;have M8':=zk M8;clear hl8 M8 G8 S8 K8 B8))
       go_ret
       exact ⟨by rw [(exIn_iff _ _ _).2 ⟨kk,HK1.out,HK2.out,by rw [hv,hv2];rfl⟩];rfl,m8,L8.out,M8'.out,D8.out,S8'.out,Q8.out,B8'.out⟩
   ·have hd:decide (kk≤j)=false:=decide_eq_false hle
    have HE:exIn (fun k=>mt s t i k && mt s u k j) i j=false:=by
     rw [Bool.eq_false_iff]
     intro h
     obtain ⟨k',h1,h2,h3⟩:=(exIn_iff _ _ _).1 h
     rw [HN.out k' h1 (by omega)] at h3
     exact absurd h3 (by simp)
    have HE2:=zk HE
    clear hle HE
    go_wp2
    go_ret
    exact ⟨by rw [HE2.out];rfl,mm,HL.out,HM.out,HD.out,HS.out,HK.out,HB.out⟩
end
section
variable (w0 : World) (g b : Nat) (hgb : g ≠ b) (hg : w0.heap.size ≤ g) (hb : w0.heap.size ≤ b) (s : ByteArray) (n : Nat) (hn : n ≤ 401) (hsn : s.size + 1 = n) (z : Nat) (hz : z ≤ 16) (T : Nat → Nat → Nat → Bool)
 (bs:ByteArray) (A:Option Addr) (c id i j:Nat) (hij:i≤j) (hj:j < n) (m:List Int) (W:World) (hl:m.length=z * n * n) (hM:MSt g b s n m W) (hB:Below w0.heap.size w0 W)
include hgb hg hb hn hsn hz hij hj hl hM hB
set_option maxHeartbeats 4000000 in
theorem find_star (x:S54) (u:Rx) (hC:Kd.C k54 w0 A 1 [x]) (hid:id+1+u.size≤z)
  (hx:∀ A2 c2,x.f2.length≤c2→Kd.C k54 w0 A2 x.f2.length x.f2→MC w0 g b s n z T u x.f0 x.f1 A2 x.f2.length c2 (id+1) n)
  (hs:MC w0 g b s n z T (.star u) 8 bs A 1 c id (j - i))
  (hG:Gd n T m (RgF id (1+u.size) (j - i))) :
  Calls Tryz.prog 102 #[.pointer (some ⟨g,0,none⟩),.agg #[.int .i64 8,.string bs,.slice A 1 c],.int .i64 (id:Int),.int .i64 (i:Int),.int .i64 (j:Int)] W (MPost w0 W g b s n T m (RgF id (1+u.size) (j - i)) (mt s (.star u) i j)):=by
 obtain ⟨ad,A2,c2,rfl,e0,e1,e2,h3,h4⟩:=arg0_at hC (Below.refl _ w0)
 have hs1:∀ l' a' i' j',RgM (id+1) u.size l' a' i' j'→RgF id (1+u.size) (j - i) a' i' j':=fun l' a' i' j' h=>⟨by have:=h.1;omega,by have:=h.2.1;omega,fun e=>by have:=h.1;omega⟩
 have hs2:∀ kk,i+1≤kk→kk≤j→∀ a' i' j',RgM id (Rx.star u).size (j - kk) a' i' j'→RgF id (1+u.size) (j - i) a' i' j':=fun kk hk hk2 a' i' j' h=>⟨h.1,h.2.1,fun e=>by have:=h.2.2 e;simp only [Rx.size] at h;omega⟩
 have HX:=zk (fun (kk:Nat) (m':List Int) (W':World) (h1:i+1≤kk) (h2:kk≤j) (hl':m'.length=m.length) (hM':MSt g b s n m' W') (hG':Gd n T m' (RgF id (1+u.size) (j - i))) (hB':Below w0.heap.size w0 W')=>hx A2 c2 h3 h4 i kk ((id:Int)+1) i kk m' W' (by omega) rfl rfl (by omega) (by omega) (by omega) (hl'.trans hl) hM' (hG'.sub (hs1 _)) hB')
 have HY:=zk (fun (kk:Nat) (m':List Int) (W':World) (h1:i+1≤kk) (h2:kk≤j) (hl':m'.length=m.length) (hM':MSt g b s n m' W') (hG':Gd n T m' (RgF id (1+u.size) (j - i))) (hB':Below w0.heap.size w0 W')=>hs kk j (id:Int) kk j m' W' rfl rfl rfl h2 hj (by omega) (hl'.trans hl) hM' (hG'.sub (hs2 kk h1 h2)) hB')
 have HS1:=zk hs1
 have HS2:=zk hs2
 have HM:=zk hM
 have HB:=zk hB
 have HG:=zk hG
 clear hM hB hG hl hx h3 h4 hC hs hs1 hs2
 by_cases hd:i=j
 ·subst hd
  go_enter Tryz.func102,Tryz.ntmps102
  go_wp2_with ((with_reducible refine gate_dst (N:=6) rfl ?_);refine zE (cs:=#[.int .i64 8,.string bs,.slice (some ad) 1 c]) (t:=54) ?_;intro gx hgx w3 hbox hb3;have M3:=zk (HM.out.below hb3);have K3:=zk (KeepBut.of_below hb3 b none);have B3:=zk (below_step HB.out hb3:Below w0.heap.size w0 w3);have X3:=zk hbox;have G3:=zk (show W.heap.size≤gx by omega);have N3:=zk (show b < W.heap.size from blk_lt HM.out.hb);have e0':=pw_cell_below (below_then HB.out HB.out.size hb3) e0;have e1':=pw_cell_below (below_then HB.out HB.out.size hb3) e1;have e2':=pw_cell_below (below_then HB.out HB.out.size hb3) e2;clear hb3 hbox hgx;obtain ⟨y0,y1,y2,g0,g1,g2⟩:=blk3 X3.out;obtain ⟨z0,z1,z2,f0,f1,f2⟩:=blk3 M3.out.hm)
  go_ret
  exact ⟨by rw [star_self];rfl,m,rfl,M3.out,HG.out,Sm3.refl _ _ _,K3.out,B3.out⟩
 ·have hlt:i < j:=by omega
  have HR:=zk (star_first s u i j hlt)
  have hd2:(i == j)=false:=by simpa using hd
  have hd3:((i:Int) == (j:Int))=false:=by simp;omega
  clear hd
  have hi9:i≤401:=by omega
  go_enter Tryz.func102,Tryz.ntmps102
  go_wp2_with ((with_reducible refine gate_dst (N:=6) rfl ?_);refine zE (cs:=#[.int .i64 8,.string bs,.slice (some ad) 1 c]) (t:=54) ?_;intro gx hgx w3 hbox hb3;have M3:=zk (HM.out.below hb3);have K3:=zk (KeepBut.of_below hb3 b none);have B3:=zk (below_step HB.out hb3:Below w0.heap.size w0 w3);have X3:=zk hbox;have G3:=zk (show W.heap.size≤gx by omega);have N3:=zk (show b < W.heap.size from blk_lt HM.out.hb);have e0':=pw_cell_below (below_then HB.out HB.out.size hb3) e0;have e1':=pw_cell_below (below_then HB.out HB.out.size hb3) e1;have e2':=pw_cell_below (below_then HB.out HB.out.size hb3) e2;clear hb3 hbox hgx;obtain ⟨y0,y1,y2,g0,g1,g2⟩:=blk3 X3.out;obtain ⟨z0,z1,z2,f0,f1,f2⟩:=blk3 M3.out.hm)
  clear y0 y1 y2 g0 g1 g2 z0 z1 z2 f0 f1 f2 hd2 hd3
  go_loopg [11] (j - i) (fun kq v11 w'=>∃ (kk:Nat) (mm:List Int),v11 = .int .i64 (kk:Int)∧Aside0 (kk+kq=j+1)∧Aside0 (i+1≤kk)∧Aside0 (∀ k',i+1≤k'→k' < kk→(mt s u i k' && mt s (.star u) k' j)=false)∧Aside0 (mm.length=m.length)∧Aside0 (MSt g b s n mm w')∧Aside0 (Gd n T mm (RgF id (1+u.size) (j - i)))∧Aside0 (Sm3 n m mm (RgF id (1+u.size) (j - i)))∧Aside0 (KeepBut W w' b none)∧Aside0 (Below w0.heap.size w0 w')∧Aside0 (w'.heap[gx]? = some (.cells #[.int .i64 8,.string bs,.slice (some ad) 1 c] 54 (0,0))))
  case atStart=>exact ⟨i+1,m,za93,⟨by omega⟩,⟨Nat.le_refl _⟩,⟨fun k' h1 h2=>by omega⟩,⟨rfl⟩,M3,HG,⟨Sm3.refl _ _ _⟩,K3,B3,X3⟩
  case round =>
   clear HM HG HB M3 K3 B3 X3
   obtain ⟨kk,mm,rfl,HQ,HK1,HN,HL,HM,HD,HS,HK,HB,XG⟩:=hrel
   obtain ⟨y0,y1,y2,g0,g1,g2⟩:=blk3 XG.out
   have e0':=(HB.out.cell (World.block_lt_of_cell? w0 _ e0)).trans e0;have e1':=(HB.out.cell (World.block_lt_of_cell? w0 _ e1)).trans e1;have e2':=(HB.out.cell (World.block_lt_of_cell? w0 _ e2)).trans e2
   by_cases hle:kk≤j
   ·have HK2:=zk hle
    have hd:decide (kk≤j)=true:=decide_eq_true hle
    clear hle
    have hk9:kk≤401:=by have:=HK2.out;omega
    cases gk with
    | zero=>exact absurd HQ.out za91
    | succ k1 =>
     cases hv:mt s u i kk
     ·go_wp2_with (go_at_call 85;(with_reducible refine (HX.out kk mm _ HK1.out HK2.out HL.out HM.out HD.out HB.out).mono ?_);rintro e w7 ⟨he,m7,hl7,M7,G7,S7,K7,B7⟩;rw [hv] at he;subst he;have L7:=zk (hl7.trans HL.out);have D7:=zk (HD.out.next G7 S7);have S7':=zk (Sm3.next HS.out S7 (HS1.out _));have Q7:=zk (HK.out.trans K7 (.inl rfl));have XG7:=zk (K7.blk XG.out za92 (by simp));have B7':=zk B7;have M7':=zk M7;clear hl7 M7 G7 S7 K7 B7 y0 y1 y2 g0 g1 g2 e0' e1' e2';obtain ⟨y0,y1,y2,g0,g1,g2⟩:=blk3 XG7.out)
      go_roundg k1
      case measure=>omega
      case rel=>exact ⟨kk+1,m7,za93,⟨za88⟩,⟨za43⟩,⟨fun k' h1 h2=>by
        by_cases e:k'=kk
        ·subst e;rw [hv];rfl
        ·exact HN.out k' h1 (by omega)⟩,L7,M7',D7,S7',Q7,B7',XG7⟩
     ·cases hv2:mt s (.star u) kk j
      ·go_wp2_with (first|(go_at_call 85;(with_reducible refine (HX.out kk mm _ HK1.out HK2.out HL.out HM.out HD.out HB.out).mono ?_);rintro e w7 ⟨he,m7,hl7,M7,G7,S7,K7,B7⟩;rw [hv] at he;subst he;have L7:=zk (hl7.trans HL.out);have D7:=zk (HD.out.next G7 S7);have S7':=zk (Sm3.next HS.out S7 (HS1.out _));have Q7:=zk (HK.out.trans K7 (.inl rfl));have XG7:=zk (K7.blk XG.out za92 (by simp));have B7':=zk B7;have M7':=zk M7;clear hl7 M7 G7 S7 K7 B7 y0 y1 y2 g0 g1 g2 e0' e1' e2';obtain ⟨y0,y1,y2,g0,g1,g2⟩:=blk3 XG7.out)|(go_at_call 85;(with_reducible refine (HY.out kk m7 _ HK1.out HK2.out L7.out M7'.out D7.out B7'.out).mono ?_);rintro e w8 ⟨he,m8,hl8,M8,G8,S8,K8,B8⟩;rw [hv2] at he;subst he;have L8:=zk (hl8.trans L7.out);have D8:=zk (D7.out.next G8 S8);have S8':=zk (Sm3.next S7'.out S8 (HS2.out kk HK1.out HK2.out));have Q8:=zk (Q7.out.trans K8 (.inl rfl));have XG8:=zk (K8.blk XG7.out za92 (by simp));have B8':=zk B8;have M8':=zk M8;clear hl8 M8 G8 S8 K8 B8))
       go_roundg k1
       case measure=>omega
       case rel=>exact ⟨kk+1,m8,za93,⟨za88⟩,⟨za43⟩,⟨fun k' h1 h2=>by
         by_cases e:k'=kk
         ·subst e;rw [hv,hv2];rfl
         ·exact HN.out k' h1 (by omega)⟩,L8,M8',D8,S8',Q8,B8',XG8⟩
      ·go_wp2_with (first|(go_at_call 85;(with_reducible refine (HX.out kk mm _ HK1.out HK2.out HL.out HM.out HD.out HB.out).mono ?_);rintro e w7 ⟨he,m7,hl7,M7,G7,S7,K7,B7⟩;rw [hv] at he;subst he;have L7:=zk (hl7.trans HL.out);have D7:=zk (HD.out.next G7 S7);have S7':=zk (Sm3.next HS.out S7 (HS1.out _));have Q7:=zk (HK.out.trans K7 (.inl rfl));have XG7:=zk (K7.blk XG.out za92 (by simp));have B7':=zk B7;have M7':=zk M7;clear hl7 M7 G7 S7 K7 B7 y0 y1 y2 g0 g1 g2 e0' e1' e2';obtain ⟨y0,y1,y2,g0,g1,g2⟩:=blk3 XG7.out)|(go_at_call 85;(with_reducible refine (HY.out kk m7 _ HK1.out HK2.out L7.out M7'.out D7.out B7'.out).mono ?_);rintro e w8 ⟨he,m8,hl8,M8,G8,S8,K8,B8⟩;rw [hv2] at he;subst he;have L8:=zk (hl8.trans L7.out);have D8:=zk (D7.out.next G8 S8);have S8':=zk (Sm3.next S7'.out S8 (HS2.out kk HK1.out HK2.out));have Q8:=zk (Q7.out.trans K8 (.inl rfl));have XG8:=zk (K8.blk XG7.out za92 (by simp));have B8':=zk B8;have M8':=zk M8;clear hl8 M8 G8 S8 K8 B8))
       go_ret
       exact ⟨by rw [HR.out,(exIn_iff _ _ _).2 ⟨kk,HK1.out,HK2.out,by rw [hv,hv2];rfl⟩];rfl,m8,L8.out,M8'.out,D8.out,S8'.out,Q8.out,B8'.out⟩
   ·have hd:decide (kk≤j)=false:=decide_eq_false hle
    have HE:exIn (fun k=>mt s u i k && mt s (.star u) k j) (i+1) j=false:=by
     rw [Bool.eq_false_iff]
     intro h
     obtain ⟨k',h1,h2,h3⟩:=(exIn_iff _ _ _).1 h
     rw [HN.out k' h1 (by omega)] at h3
     exact absurd h3 (by simp)
    have HE2:=zk HE
    clear hle HE
    go_wp2
    go_ret
    exact ⟨by rw [HR.out,HE2.out];rfl,mm,HL.out,HM.out,HD.out,HS.out,HK.out,HB.out⟩
end
end Go.Proofs.YtcbjhfoeecfcoaaGreat.Ext
namespace Go.Proofs.YtcbjhfoeecfcoaaGreat.A
open Go.RowKit YtcbjhfoeecfcoaaGreat.Ext YtcbjhfoeecfcoaaGreatW.PrintWords YtcbjhfoeecfcoaaGreatW.PrintLast YtcbjhfoeecfcoaaGreatW.PrintMore
attribute [local go_sem] max2_int min2_int max_two min_two max_three min_three max_four min_four
mutual
def impl_size.l0:Nat→Int→List (S54)→Int→Int→Option (Int)
 | 0,_,_,_,_=>none
 | k+1,x3,x7,x8,x9=>if x9 < x8 then (if 0≤x9 then (if x9 < (x7.length:Int) then ((impl_size.f k ((rd_T54 x7 x9).f0) ((rd_T54 x7 x9).f1) ((rd_T54 x7 x9).f2)).bind fun t84004=>(impl_size.l0 k (wrap64 (x3+t84004)) x7 x8 (wrap64 (x9+1)))) else (none)) else (none)) else (some x3)
def impl_size.f:Nat→Int→ByteArray→List (S54)→Option (Int)
 | 0,_,_,_=>none
 | k+1,a0_0,a0_1,l0_2=>impl_size.l0 k 1 l0_2 (l0_2.length:Int) 0
end
theorem impl_size.mono_l:∀ k,(∀ y0 y1 y2,LeO (impl_size.f k y0 y1 y2) (impl_size.f (k+1) y0 y1 y2))∧(∀ y0 y1 y2 y3,LeO (impl_size.l0 k y0 y1 y2 y3) (impl_size.l0 (k+1) y0 y1 y2 y3))
 | 0=>⟨fun _ _ _ r h=>by simp [impl_size.f] at h,fun _ _ _ _ r h=>by simp [impl_size.l0] at h⟩
 | k+1=>by
  obtain ⟨ih0,ih1⟩:=impl_size.mono_l k
  refine ⟨?_,?_⟩
  ·intro y0 y1 y2
   unfold impl_size.f
   repeat' first
   | with_reducible first|exact ih0 _ _ _|exact ih1 _ _ _ _|exact LeO.refl _|exact LeO.none _|refine LeO.ite ?_ ?_|refine LeO.bind ?_ (fun _=>?_)
  ·intro y0 y1 y2 y3
   unfold impl_size.l0
   repeat' first
   | with_reducible first|exact ih0 _ _ _|exact ih1 _ _ _ _|exact LeO.refl _|exact LeO.none _|refine LeO.ite ?_ ?_|refine LeO.bind ?_ (fun _=>?_)
theorem impl_size.mono:∀ a0 a1 a2 k,LeO (impl_size.f k a0 a1 a2) (impl_size.f (k+1) a0 a1 a2):=by
 intro a0 a1 a2 k
 obtain ⟨ih0,ih1⟩:=impl_size.mono_l k
 exact ih0 a0 a1 a2
theorem impl_size.calls (k:Nat):∀ (a0_0:Int) (a0_1:ByteArray) (A0_2:Option Addr) (c0_2:Nat) (l0_2:List (S54)) (r:Int) (w:World) (hr0_2:Kd.C k54 w A0_2 l0_2.length l0_2) (hc0_2:l0_2.length≤c0_2) (h:impl_size.f k a0_0 a0_1 l0_2=some r),
   Calls Tryz.prog 84 #[.agg #[.int .i64 a0_0,.string a0_1,.slice A0_2 l0_2.length c0_2]] w fun e w'=>e = .returned (.int .i64 r)∧Below w.heap.size w w':=by
 induction k using Nat.strongRecOn with
 | _ k ih =>
 intro a0_0 a0_1 A0_2 c0_2 l0_2 r w hr0_2 hc0_2 h
 cases k with
 | zero=>exact absurd h (by simp [impl_size.f])
 | succ k =>
 simp only [impl_size.f] at h
 have hu54:=Tryz.underlying54
 have HR0_2:=zk hr0_2
 have HC0_2:=zk hc0_2
 clear hr0_2 hc0_2
 have HB:=zk (Below.refl w.heap.size w)
 have H:=h
 clear h
 have H':=zk H
 clear H
 go_enter Tryz.func84,Tryz.ntmps84
 go_wp2_with (first|((with_reducible refine gate_dst (N:=1) rfl ?_);refine zE (cs:=#[.int .i64 a0_0,.string a0_1,.slice A0_2 l0_2.length c0_2]) (t:=54) ?_;intro gb1 hg w2 hbox hb;have BK1:=zk hbox;have GW1:=zk (zs (w:=w) hg za9);have GE1:=GW1;replace HB:=yB HB hb;clear hb hbox hg;obtain ⟨hcz3_0,hcz3_1,hcz3_2,hfz3_0,hfz3_1,hfz3_2⟩:=blk3 BK1.out))
 try simp only [Act.put,zt,zv,zu]
 go_loopg [3,9] k (fun kq v3 v9 w'=>∃ (x3_1:Int) (x9_1:Int),v3 = .int .i64 x3_1∧v9 = .int .i64 x9_1∧Aside0 (impl_size.l0 kq x3_1 l0_2 (l0_2.length:Int) x9_1=some r)∧Aside0 (kq≤k)∧Aside0 (w'.heap[gb1]? = some (.cells #[.int .i64 a0_0,.string a0_1,(.slice A0_2 l0_2.length c0_2)] 54 (0,0)))∧Aside0 (Below w.heap.size w w'))
 case atStart=>exact ⟨(1),(0),za23,za23,H',⟨Nat.le_refl _⟩,⟨za0 BK1.out⟩,⟨za9⟩⟩
 case round =>
  clear H'
  try clear hcz3_0
  try clear hcz3_1
  try clear hcz3_2
  try clear hfz3_0
  try clear hfz3_1
  try clear hfz3_2
  obtain ⟨x3_1,x9_1,rfl,rfl,HA,HK1,BK1,HB⟩:=hrel
  cases gk with
  | zero=>exact absurd HA.out (by simp [impl_size.l0])
  | succ k1 =>
   have H:=HA.out
   clear HA
   simp only [impl_size.l0] at H
   by_cases c4:x9_1 < (l0_2.length:Int)
   rw [if_pos c4] at H
   have c4b0:=zdl c4
   clear c4
   by_cases c5:0≤x9_1
   rw [if_pos c5] at H
   have c5b0:=zdle c5
   clear c5
   by_cases c6:x9_1 < (l0_2.length:Int)
   ·rw [if_pos c6] at H
    have c6b0:=zdl c6
    clear c6
    obtain ⟨t4,A7,H⟩:=zO H
    try dsimp only at H
    have H':=zk H
    clear H
    have p84002:0≤(x9_1:Int):=of_decide_eq_true za36
    have q84002:x9_1 < (l0_2.length:Int):=of_decide_eq_true za36
    obtain ⟨ad84002,A84002_2,c84002_2,e84002,hx84002_0,hx84002_1,hx84002_2,hl84002_2,hi84002_2⟩:=at_T54 HR0_2.out x9_1 p84002 q84002
    cases e84002
    replace hx84002_0:=zx HB.out hx84002_0
    replace hx84002_1:=zx HB.out hx84002_1
    replace hx84002_2:=zx HB.out hx84002_2
    have HR84002_2:=zk hi84002_2
    have HC84002_2:=zk hl84002_2
    clear hi84002_2 hl84002_2
    replace p84002:=eq_true p84002
    replace q84002:=eq_true q84002
    go_wp2_with (first|((with_reducible refine gate_dst (N:=5) rfl ?_);refine zE (cs:=#[.int .i64 0,.string ⟨#[]⟩,.slice none 0 0]) (t:=54) ?_;intro gb3 hg w8 hbox hb;have BK3:=zk hbox;have GW3:=zk (zs (w:=w) hg za9);have GE3:=GW3;have NB1_3:=yn hg BK1;have NB3_1:=yp hg BK1;replace BK1:=yb BK1 hb;replace HB:=yB HB hb;clear hb hbox hg;have hnb9:=NB3_1.out;have hnc9:=NB1_3.out;obtain ⟨hcz10_0,hcz10_1,hcz10_2,hfz10_0,hfz10_1,hfz10_2⟩:=blk3 BK3.out)|((with_reducible refine gate_callee (f:=84) rfl ?_);refine zg (some 15) Tryz.func84 #[.agg #[.int .i64 ((rd_T54 l0_2 x9_1).f0),.string ((rd_T54 l0_2 x9_1).f1),.slice A84002_2 ((rd_T54 l0_2 x9_1).f2).length c84002_2]] rfl za14 ?_;(with_reducible refine (ih k1 za43 ((rd_T54 l0_2 x9_1).f0) ((rd_T54 l0_2 x9_1).f1) _ _ ((rd_T54 l0_2 x9_1).f2) t4 _ ?side1 ?side2 A7.out).mono ?_);(case side1=>exact Kd.C_below HR84002_2.out za9);(case side2=>exact HC84002_2.out);rintro e w11 ⟨rfl,hb⟩;refine ⟨_,rfl,?_⟩;replace BK1:=zk (blk_below (g:=gb1) (o:=.cells #[.int .i64 a0_0,.string a0_1,.slice (some ad84002) l0_2.length c0_2] 54 (0,0)) (zpw BK1.out) hb);replace BK3:=zk (blk_below (g:=gb3) (o:=.cells #[.int .i64 ((rd_T54 l0_2 x9_1).f0),.string ((rd_T54 l0_2 x9_1).f1),.slice A84002_2 ((rd_T54 l0_2 x9_1).f2).length c84002_2] 54 (0,0)) (zpu BK3.out) hb);replace HB:=yB HB hb;(try clear hb)))
    go_roundg k1
    case measure=>have:=HK1.out;omega
    case rel=>exact ⟨(wrap64 (x3_1+t4)),(wrap64 (x9_1+1)),za23,za23,H',⟨za43⟩,⟨za0 BK1.out⟩,⟨za9⟩⟩
   ·rw [if_neg c6] at H
    exact absurd H (by simp)
   ·rw [if_neg c5] at H
    exact absurd H (by simp)
   ·rw [if_neg c4] at H
    have c4b0:=zdnl c4
    clear c4
    obtain rfl:=zi H
    go_wp2
    go_ret
    exact ⟨za24,za9⟩
end Go.Proofs.YtcbjhfoeecfcoaaGreat.A
namespace Go.Proofs.YtcbjhfoeecfcoaaGreat.Ext
open Go Go.RowKit YtcbjhfoeecfcoaaGreatW.PrintWords YtcbjhfoeecfcoaaGreatW.PrintLast YtcbjhfoeecfcoaaGreat.A
/-! How many nodes. -/
theorem IsRx.len {x:S54} {t:Rx} (h:IsRx x t):x.f2.length≤2:=by cases h <;> simp
theorem size_of_rx {x:S54} {t:Rx} (h:IsRx x t):t.size≤1000000→∃ k,impl_size.f k x.f0 x.f1 x.f2=some (t.size:Int):=by
 have one:∀ (k:Int) (s:ByteArray),∃ q,impl_size.f q k s []=some 1:=fun k s=>⟨2,by simp [impl_size.f,impl_size.l0]⟩
 have step1:∀ (k:Int) (s:ByteArray) (y:S54) (n:Nat),n≤1000000→(∃ q,impl_size.f q y.f0 y.f1 y.f2=some (n:Int))→∃ q,impl_size.f q k s [y]=some ((1+n:Nat):Int):=by
  intro k s y n hn ⟨q,hq⟩
  refine ⟨q+3,?_⟩
  have h1:impl_size.f (q+1) y.f0 y.f1 y.f2=some (n:Int):=at_rounds (impl_size.mono _ _ _) (Nat.le_succ q) hq
  have e:wrap64 (1+(n:Int))=((1+n:Nat):Int):=by rw [show (1:Int)+(n:Int)=((1+n:Nat):Int) by omega];exact wrap_nat _ (by omega)
  have e0:wrap64 (0+1)=1:=by unfold wrap64;decide
  rw [impl_size.f,impl_size.l0,if_pos (show (0:Int) < (([y]:List S54).length:Int) by simp),if_pos (Int.le_refl 0),if_pos (show (0:Int) < (([y]:List S54).length:Int) by simp),show rd_T54 [y] 0=y from rfl,h1,Option.bind_some,e0,e,impl_size.l0,if_neg (by simp)]
 have step2:∀ (k:Int) (s:ByteArray) (y v:S54) (n m:Nat),n+m≤1000000→(∃ q,impl_size.f q y.f0 y.f1 y.f2=some (n:Int))→(∃ q,impl_size.f q v.f0 v.f1 v.f2=some (m:Int))→∃ q,impl_size.f q k s [y,v]=some ((1+n+m:Nat):Int):=by
  intro k s y v n m hn ⟨q,hq⟩ ⟨p,hp⟩
  refine ⟨q+p+4,?_⟩
  have h1:impl_size.f (q+p+2) y.f0 y.f1 y.f2=some (n:Int):=at_rounds (impl_size.mono _ _ _) (by omega) hq
  have h2:impl_size.f (q+p+1) v.f0 v.f1 v.f2=some (m:Int):=at_rounds (impl_size.mono _ _ _) (by omega) hp
  have e:wrap64 (1+(n:Int))=((1+n:Nat):Int):=by rw [show (1:Int)+(n:Int)=((1+n:Nat):Int) by omega];exact wrap_nat _ (by omega)
  have e2:wrap64 (((1+n:Nat):Int)+(m:Int))=((1+n+m:Nat):Int):=by rw [← Int.natCast_add];exact wrap_nat _ (by omega)
  have e0:wrap64 (0+1)=1:=by unfold wrap64;decide
  have e1:wrap64 (1+1)=2:=by unfold wrap64;decide
  rw [impl_size.f,impl_size.l0,if_pos (show (0:Int) < (([y,v]:List S54).length:Int) by simp),if_pos (Int.le_refl 0),if_pos (show (0:Int) < (([y,v]:List S54).length:Int) by simp),show rd_T54 [y,v] 0=y from rfl,h1,Option.bind_some,e0,e,impl_size.l0,if_pos (show (1:Int) < (([y,v]:List S54).length:Int) by simp),if_pos (by decide),if_pos (show (1:Int) < (([y,v]:List S54).length:Int) by simp),show rd_T54 [y,v] 1=v from rfl,h2,Option.bind_some,e1,e2,impl_size.l0,if_neg (by simp)]
 induction h with
 | none s=>intro _;exact one _ _
 | empty s=>intro _;exact one _ _
 | letter s=>intro _;exact one _ _
 | any s=>intro _;exact one _ _
 | cat s hx hy ihx ihy=>intro hs;simp only [Rx.size] at hs;exact step2 _ _ _ _ _ _ (by omega) (ihx (by omega)) (ihy (by omega))
 | or s hx hy ihx ihy=>intro hs;simp only [Rx.size] at hs;exact step2 _ _ _ _ _ _ (by omega) (ihx (by omega)) (ihy (by omega))
 | and s hx hy ihx ihy=>intro hs;simp only [Rx.size] at hs;exact step2 _ _ _ _ _ _ (by omega) (ihx (by omega)) (ihy (by omega))
 | star s hx ih=>intro hs;simp only [Rx.size] at hs;exact step1 _ _ _ _ (by omega) (ih (by omega))
 | not s hx ih=>intro hs;simp only [Rx.size] at hs;exact step1 _ _ _ _ (by omega) (ih (by omega))
theorem size_calls {x:S54} {t:Rx} (h:IsRx x t) (ht:t.size≤1000000) (A:Option Addr) (c:Nat) (W:World) (hc:x.f2.length≤c) (hC:Kd.C k54 W A x.f2.length x.f2) :
  Calls Tryz.prog 84 #[.agg #[.int .i64 x.f0,.string x.f1,.slice A x.f2.length c]] W fun e w'=>e = .returned (.int .i64 (t.size:Int))∧Below W.heap.size W w':=by
 obtain ⟨k,hk⟩:=size_of_rx h ht
 exact impl_size.calls k _ _ _ _ _ _ W hC hc hk
/-! The truth at each node. -/
def Fits (s:ByteArray) (T:Nat→Nat→Nat→Bool):Rx→Nat→Prop
 | .cat a b,id=>(∀ i j,T id i j=mt s (.cat a b) i j)∧Fits s T a (id+1)∧Fits s T b (id+1+a.size)
 | .or a b,id=>(∀ i j,T id i j=mt s (.or a b) i j)∧Fits s T a (id+1)∧Fits s T b (id+1+a.size)
 | .and a b,id=>(∀ i j,T id i j=mt s (.and a b) i j)∧Fits s T a (id+1)∧Fits s T b (id+1+a.size)
 | .star a,id=>(∀ i j,T id i j=mt s (.star a) i j)∧Fits s T a (id+1)
 | .not a,id=>(∀ i j,T id i j=mt s (.not a) i j)∧Fits s T a (id+1)
 | .none,id=>∀ i j,T id i j=mt s .none i j
 | .empty,id=>∀ i j,T id i j=mt s .empty i j
 | .any,id=>∀ i j,T id i j=mt s .any i j
 | .letter l,id=>∀ i j,T id i j=mt s (.letter l) i j
theorem Fits.here {s:ByteArray} {T:Nat→Nat→Nat→Bool} {t:Rx} {id:Nat} (h:Fits s T t id):∀ i j,T id i j=mt s t i j:=by
 cases t <;> first|exact h|exact h.1
theorem Fits.congr {s:ByteArray} {T T':Nat→Nat→Nat→Bool} : ∀ {t:Rx} {id:Nat},Fits s T t id→(∀ a,id≤a→a < id+t.size→T' a=T a)→Fits s T' t id:=by
 intro t
 induction t with
 | none=>intro id h e;intro i j;rw [e id (Nat.le_refl _) (by simp [Rx.size])];exact h i j
 | empty=>intro id h e;intro i j;rw [e id (Nat.le_refl _) (by simp [Rx.size])];exact h i j
 | any=>intro id h e;intro i j;rw [e id (Nat.le_refl _) (by simp [Rx.size])];exact h i j
 | letter l=>intro id h e;intro i j;rw [e id (Nat.le_refl _) (by simp [Rx.size])];exact h i j
 | cat a b iha ihb=>intro id h e;simp only [Rx.size] at e;exact ⟨fun i j=>za77,iha h.2.1 (fun q h1 h2=>e q (by omega) (by omega)),ihb h.2.2 (fun q h1 h2=>e q (by omega) (by omega))⟩
 | or a b iha ihb=>intro id h e;simp only [Rx.size] at e;exact ⟨fun i j=>za77,iha h.2.1 (fun q h1 h2=>e q (by omega) (by omega)),ihb h.2.2 (fun q h1 h2=>e q (by omega) (by omega))⟩
 | and a b iha ihb=>intro id h e;simp only [Rx.size] at e;exact ⟨fun i j=>za77,iha h.2.1 (fun q h1 h2=>e q (by omega) (by omega)),ihb h.2.2 (fun q h1 h2=>e q (by omega) (by omega))⟩
 | star a iha=>intro id h e;simp only [Rx.size] at e;exact ⟨fun i j=>za77,iha h.2 (fun q h1 h2=>e q (by omega) (by omega))⟩
 | not a iha=>intro id h e;simp only [Rx.size] at e;exact ⟨fun i j=>za77,iha h.2 (fun q h1 h2=>e q (by omega) (by omega))⟩
theorem Fits.exist (s:ByteArray):∀ (t:Rx) (id:Nat),∃ T,Fits s T t id:=by
 intro t
 induction t with
 | none=>intro id;exact ⟨fun _=>mt s .none,fun _ _=>rfl⟩
 | empty=>intro id;exact ⟨fun _=>mt s .empty,fun _ _=>rfl⟩
 | any=>intro id;exact ⟨fun _=>mt s .any,fun _ _=>rfl⟩
 | letter l=>intro id;exact ⟨fun _=>mt s (.letter l),fun _ _=>rfl⟩
 | cat a b iha ihb =>
  intro id
  obtain ⟨Ta,ha⟩:=iha (id+1)
  obtain ⟨Tb,hb⟩:=ihb (id+1+a.size)
  refine ⟨fun q=>if q=id then mt s (.cat a b) else if q < id+1+a.size then Ta q else Tb q,fun i j=>by simp,ha.congr fun q h1 h2=>?_,hb.congr fun q h1 h2=>?_⟩
  ·simp only [if_neg (show ¬ q=id by omega),if_pos (show q < id+1+a.size by omega)]
  ·simp only [if_neg (show ¬ q=id by omega),if_neg (show ¬ q < id+1+a.size by omega)]
 | or a b iha ihb =>
  intro id
  obtain ⟨Ta,ha⟩:=iha (id+1)
  obtain ⟨Tb,hb⟩:=ihb (id+1+a.size)
  refine ⟨fun q=>if q=id then mt s (.or a b) else if q < id+1+a.size then Ta q else Tb q,fun i j=>by simp,ha.congr fun q h1 h2=>?_,hb.congr fun q h1 h2=>?_⟩
  ·simp only [if_neg (show ¬ q=id by omega),if_pos (show q < id+1+a.size by omega)]
  ·simp only [if_neg (show ¬ q=id by omega),if_neg (show ¬ q < id+1+a.size by omega)]
 | and a b iha ihb =>
  intro id
  obtain ⟨Ta,ha⟩:=iha (id+1)
  obtain ⟨Tb,hb⟩:=ihb (id+1+a.size)
  refine ⟨fun q=>if q=id then mt s (.and a b) else if q < id+1+a.size then Ta q else Tb q,fun i j=>by simp,ha.congr fun q h1 h2=>?_,hb.congr fun q h1 h2=>?_⟩
  ·simp only [if_neg (show ¬ q=id by omega),if_pos (show q < id+1+a.size by omega)]
  ·simp only [if_neg (show ¬ q=id by omega),if_neg (show ¬ q < id+1+a.size by omega)]
 | star a iha =>
  intro id
  obtain ⟨Ta,ha⟩:=iha (id+1)
  exact ⟨fun q=>if q=id then mt s (.star a) else Ta q,fun i j=>by simp,ha.congr fun q h1 h2=>by simp only [if_neg (show ¬ q=id by omega)]⟩
 | not a iha =>
  intro id
  obtain ⟨Ta,ha⟩:=iha (id+1)
  exact ⟨fun q=>if q=id then mt s (.not a) else Ta q,fun i j=>by simp,ha.congr fun q h1 h2=>by simp only [if_neg (show ¬ q=id by omega)]⟩
section
variable (w0 : World) (g b : Nat) (hgb : g ≠ b) (hg : w0.heap.size ≤ g) (hb : w0.heap.size ≤ b) (s : ByteArray) (n : Nat) (hn : n ≤ 401) (hsn : s.size + 1 = n) (z : Nat) (hz : z ≤ 16) (T : Nat → Nat → Nat → Bool)
include hgb hg hb hn hsn hz
theorem mc_of (x:S54) (t:Rx) (A:Option Addr) (c id len:Nat) (hid:id+t.size≤z) (hT:∀ i j,T id i j=mt s t i j)
  (hf:∀ (i j:Nat) (m:List Int) (W:World),i≤j→j < n→j - i < len→m.length=z * n * n→MSt g b s n m W→Gd n T m (RgF id t.size (j - i))→Below w0.heap.size w0 W →
   Calls Tryz.prog 102 #[.pointer (some ⟨g,0,none⟩),.agg #[.int .i64 x.f0,.string x.f1,.slice A x.f2.length c],.int .i64 (id:Int),.int .i64 (i:Int),.int .i64 (j:Int)] W (MPost w0 W g b s n T m (RgF id t.size (j - i)) (mt s t i j))) :
  MC w0 g b s n z T t x.f0 x.f1 A x.f2.length c id len:=by
 intro i j ids iv jv m W e1 e2 e3 hij hj hlen hl hM hG hB
 subst e1 e2 e3
 have:=t.size_pos
 exact match_of_find w0 g b hgb hg hb s n hn z hz T x A c id t.size i j (by omega) t.size_pos hij hj (mt s t i j) (hT i j) (fun m' W' h1 h2 h3 h4=>hf i j m' W' hij hj hlen h1 h2 h3 h4) m W hl hM hG hB
theorem match_all {x:S54} {t:Rx} (h:IsRx x t):∀ (A:Option Addr) (c id:Nat),Kd.C k54 w0 A x.f2.length x.f2→x.f2.length≤c→Fits s T t id→id+t.size≤z→MC w0 g b s n z T t x.f0 x.f1 A x.f2.length c id n:=by
 induction h with
 | none bs =>
  intro A c id hC hc hF hid
  exact mc_of w0 g b hgb hg hb s n hn hsn z hz T ⟨1,bs,[]⟩ .none A c id n hid hF.here fun i j m W hij hj _ hl hM hG hB=>find_leaf w0 g b hgb hg hb s n hn hsn z hz T bs A c id i j hij hj m W hl hM hB 1 _ (.inl ⟨rfl,rfl⟩) _ hG
 | empty bs =>
  intro A c id hC hc hF hid
  exact mc_of w0 g b hgb hg hb s n hn hsn z hz T ⟨2,bs,[]⟩ .empty A c id n hid hF.here fun i j m W hij hj _ hl hM hG hB=>find_leaf w0 g b hgb hg hb s n hn hsn z hz T bs A c id i j hij hj m W hl hM hB 2 _ (.inr (.inl ⟨rfl,rfl⟩)) _ hG
 | letter bs =>
  intro A c id hC hc hF hid
  exact mc_of w0 g b hgb hg hb s n hn hsn z hz T ⟨3,bs,[]⟩ (.letter bs) A c id n hid hF.here fun i j m W hij hj _ hl hM hG hB=>find_leaf w0 g b hgb hg hb s n hn hsn z hz T bs A c id i j hij hj m W hl hM hB 3 _ (.inr (.inr (.inr ⟨rfl,rfl⟩))) _ hG
 | any bs =>
  intro A c id hC hc hF hid
  exact mc_of w0 g b hgb hg hb s n hn hsn z hz T ⟨4,bs,[]⟩ .any A c id n hid hF.here fun i j m W hij hj _ hl hM hG hB=>find_leaf w0 g b hgb hg hb s n hn hsn z hz T bs A c id i j hij hj m W hl hM hB 4 _ (.inr (.inr (.inl ⟨rfl,rfl⟩))) _ hG
 | @cat bs x y t u hx hy ihx ihy =>
  intro A c id hC hc hF hid
  simp only [Rx.size] at hid
  exact mc_of w0 g b hgb hg hb s n hn hsn z hz T ⟨5,bs,[x,y]⟩ (.cat t u) A c id n (by simp only [Rx.size];omega) hF.here fun i j m W hij hj _ hl hM hG hB=>find_cat w0 g b hgb hg hb s n hn hsn z hz T bs A c id i j hij hj m W hl hM hB x y t u hC (by omega)
   (fun A2 c2 h1 h2=>ihx A2 c2 (id+1) h2 h1 hF.2.1 (by omega)) (fun A2 c2 h1 h2=>ihy A2 c2 (id+1+t.size) h2 h1 hF.2.2 (by omega)) (fun A2 c2 W' h1 h2=>size_calls hx (by omega) A2 c2 W' h1 h2) hG
 | @or bs x y t u hx hy ihx ihy =>
  intro A c id hC hc hF hid
  simp only [Rx.size] at hid
  exact mc_of w0 g b hgb hg hb s n hn hsn z hz T ⟨6,bs,[x,y]⟩ (.or t u) A c id n (by simp only [Rx.size];omega) hF.here fun i j m W hij hj _ hl hM hG hB=>find_or w0 g b hgb hg hb s n hn hsn z hz T bs A c id i j hij hj m W hl hM hB x y t u hC (by omega)
   (fun A2 c2 h1 h2=>ihx A2 c2 (id+1) h2 h1 hF.2.1 (by omega)) (fun A2 c2 h1 h2=>ihy A2 c2 (id+1+t.size) h2 h1 hF.2.2 (by omega)) (fun A2 c2 W' h1 h2=>size_calls hx (by omega) A2 c2 W' h1 h2) hG
 | @and bs x y t u hx hy ihx ihy =>
  intro A c id hC hc hF hid
  simp only [Rx.size] at hid
  exact mc_of w0 g b hgb hg hb s n hn hsn z hz T ⟨7,bs,[x,y]⟩ (.and t u) A c id n (by simp only [Rx.size];omega) hF.here fun i j m W hij hj _ hl hM hG hB=>find_and w0 g b hgb hg hb s n hn hsn z hz T bs A c id i j hij hj m W hl hM hB x y t u hC (by omega)
   (fun A2 c2 h1 h2=>ihx A2 c2 (id+1) h2 h1 hF.2.1 (by omega)) (fun A2 c2 h1 h2=>ihy A2 c2 (id+1+t.size) h2 h1 hF.2.2 (by omega)) (fun A2 c2 W' h1 h2=>size_calls hx (by omega) A2 c2 W' h1 h2) hG
 | @not bs x t hx ih =>
  intro A c id hC hc hF hid
  simp only [Rx.size] at hid
  exact mc_of w0 g b hgb hg hb s n hn hsn z hz T ⟨9,bs,[x]⟩ (.not t) A c id n (by simp only [Rx.size];omega) hF.here fun i j m W hij hj _ hl hM hG hB=>find_not w0 g b hgb hg hb s n hn hsn z hz T bs A c id i j hij hj m W hl hM hB x t hC (by omega)
   (fun A2 c2 h1 h2=>ih A2 c2 (id+1) h2 h1 hF.2 (by omega)) hG
 | @star bs x t hx ih =>
  intro A c id hC hc hF hid
  simp only [Rx.size] at hid
  have key:∀ len,MC w0 g b s n z T (.star t) 8 bs A 1 c id len:=by
   intro len
   induction len with
   | zero=>intro i j ids iv jv m W _ _ _ _ _ h;omega
   | succ len ihl =>
    refine mc_of w0 g b hgb hg hb s n hn hsn z hz T ⟨8,bs,[x]⟩ (.star t) A c id (len+1) (by simp only [Rx.size];omega) hF.here fun i j m W hij hj hle hl hM hG hB=>find_star w0 g b hgb hg hb s n hn hsn z hz T bs A c id i j hij hj m W hl hM hB x t hC (by omega) (fun A2 c2 h1 h2=>ih A2 c2 (id+1) h2 h1 hF.2 (by omega)) ?_ hG
    intro i' j' ids iv jv m' W' h1 h2 h3 h4 h5 h6
    exact ihl i' j' ids iv jv m' W' h1 h2 h3 h4 h5 (by omega)
  exact key n
end
def impl_matches.f (a0_0:Int) (a0_1:ByteArray) (l0_2:List S54) (a1:ByteArray):Option Bool:=rxMatch a0_0 a0_1 l0_2 a1
theorem made_cells (m:Nat):madeCells #[Value.int .i8 0] m=(nums .i8 (List.replicate m 0)).toArray:=by
 simp only [madeCells,nums]
 apply Array.ext
 ·simp
 ·intro i h1 h2;simp [Nat.mod_one]
theorem mst_made {W:World} {g:Nat} {s:ByteArray} {N:Nat} (hX:W.heap[g]? = some (.cells #[.string s,.int .i64 ((s.size:Int)+1),.slice none 0 0] 94 (0,0))) :
  MSt g W.heap.size s (s.size+1) (List.replicate N 0) ((W.setCell ⟨g,2,none⟩ (.slice (some ⟨W.heap.size,0,none⟩) N N)).alloc (.cells (madeCells #[.int .i8 0] N) 106)):=by
 refine ⟨?_,?_⟩
 ·rw [List.length_replicate]
  refine blk_alloc (blk_put hX 2 _ ?_) _
  simp
 ·rw [← made_cells]
  have:=blk_new (W.setCell ⟨g,2,none⟩ (.slice (some ⟨W.heap.size,0,none⟩) N N)) (.cells (madeCells #[.int .i8 0] N) 106)
  simpa using this
-- EXT loop.example/g582/impl.matches making
set_option maxHeartbeats 4000000 in
theorem impl_matches.calls (a0_0:Int) (a0_1:ByteArray) (A0_2:Option Addr) (c0_2:Nat) (l0_2:List S54) (a1:ByteArray) (r:Bool) (w:World) (hr0_2:Kd.C k54 w A0_2 l0_2.length l0_2) (hc0_2:l0_2.length≤c0_2) (h:impl_matches.f a0_0 a0_1 l0_2 a1=some r) :
  Calls Tryz.prog 59 #[.agg #[.int .i64 a0_0,.string a0_1,.slice A0_2 l0_2.length c0_2],.string a1] w fun e w'=>e = .returned (.bool r)∧Below w.heap.size w w':=by
 obtain ⟨t,hx,h16,h400,hr⟩:=rxMatch_some h
 subst hr
 have ht0:=t.size_pos
 have hv1:t.size * (a1.size+1)≤16 * 401:=Nat.mul_le_mul h16 (by omega)
 have hv2:t.size * (a1.size+1) * (a1.size+1)≤16 * 401 * 401:=Nat.mul_le_mul hv1 (by omega)
 have HR:=zk hr0_2
 have HC:=zk hc0_2
 have HX:=zk hx
 have HZ:=zk (fun (W':World) (hB':Below w.heap.size w W')=>size_calls hx (by omega) A0_2 c0_2 W' hc0_2 (Kd.C_below hr0_2 hB'))
 have H16:=zk h16
 have H400:=zk h400
 clear hr0_2 hc0_2 h hx
 have HB:=zk (Below.refl w.heap.size w)
 go_enter Tryz.func59,Tryz.ntmps59
 go_upto_region 2 with (first
  | ((with_reducible refine gate_dst (N:=2) rfl ?_);refine zE (cs:=#[.int .i64 a0_0,.string a0_1,.slice A0_2 l0_2.length c0_2]) (t:=54) ?_;intro gr hgr w3 hbox hb3;have X3:=zk hbox;have B3:=zk (below_step HB.out hb3);have G3:=zk (show w.heap.size≤gr by omega);clear hb3 hbox hgr)
  | ((with_reducible refine gate_dst (N:=11) rfl ?_);refine zE (cs:=#[.string a1,.int .i64 ((a1.size:Int)+1),.slice none 0 0]) (t:=94) ?_;intro gm hgm w4 hbox hb4;have X4:=zk hbox;have Y4:=zk (blk_below X3.out hb4);have B4:=zk (below_step B3.out hb4);have G4:=zk (show w.heap.size≤gm by have:=B3.out.size;omega);have N4:=zk (show gr ≠ gm by have:=blk_lt X3.out;omega);clear hb4 hbox hgm))
 have v1:IntKind.i64.wrap (IntKind.i64.wrap ((t.size:Int) * ((a1.size:Int)+1)) * ((a1.size:Int)+1))=((t.size * (a1.size+1) * (a1.size+1):Nat):Int):=by
  rw [show (t.size:Int) * ((a1.size:Int)+1)=((t.size * (a1.size+1):Nat):Int) by simp,iwrap_nat _ (by omega),show ((t.size * (a1.size+1):Nat):Int) * ((a1.size:Int)+1)=((t.size * (a1.size+1) * (a1.size+1):Nat):Int) by simp]
  exact iwrap_nat _ (by omega)
 have hmk:∀ W:World,(Instr.makeSlice 92 (.int .i64 (IntKind.i64.wrap (IntKind.i64.wrap ((t.size:Int) * ((a1.size:Int)+1)) * ((a1.size:Int)+1)))) (.int .i64 (IntKind.i64.wrap (IntKind.i64.wrap ((t.size:Int) * ((a1.size:Int)+1)) * ((a1.size:Int)+1))))).run Tryz.prog W = .ok (.slice (some ⟨W.heap.size,0,none⟩) (t.size * (a1.size+1) * (a1.size+1)) (t.size * (a1.size+1) * (a1.size+1))) (W.alloc (.cells (madeCells #[.int .i8 0] (t.size * (a1.size+1) * (a1.size+1))) 106)):=fun W=>by
  rw [v1]
  have:=print_make_int (P:=Tryz.prog) 92 106 (.int .i8 0) 1 Tryz.underlying92 (by kernel_rfl) rfl (by decide) ((t.size * (a1.size+1) * (a1.size+1):Nat):Int) (by omega) (by simp only [Int.toNat_natCast];omega) W
  simpa only [Int.toNat_natCast] using this
 clear v1
 go_cut [] (fun wc=>∃ b:Nat,Aside0 (MSt gm b a1 (a1.size+1) (List.replicate (t.size * (a1.size+1) * (a1.size+1)) 0) wc)∧Aside0 (w.heap.size≤b∧gm ≠ b)∧Aside0 (wc.heap[gr]? = some (.cells #[.int .i64 a0_0,.string a0_1,.slice A0_2 l0_2.length c0_2] 54 (0,0)))∧Aside0 (Below w.heap.size w wc))
 case first =>
  obtain ⟨y0,y1,y2,g0,g1,g2⟩:=blk3 Y4.out
  obtain ⟨z0,z1,z2,f0,f1,f2⟩:=blk3 X4.out
  clear hv1 hv2
  go_region_with (go_at_call 84;(with_reducible refine (HZ.out _ (by first|exact B4.out|exact pw_below_drewN B4.out _|exact below_drew B4.out)).mono ?_);rintro e w5 ⟨rfl,hb5⟩;have X5:=zk (show w5.heap[gm]? = _ by first|exact blk_below X4.out hb5|exact blk_below (blk_drew X4.out) hb5|exact blk_below (blk_drewN X4.out _) hb5);have Y5:=zk (show w5.heap[gr]? = _ by first|exact blk_below Y4.out hb5|exact blk_below (blk_drew Y4.out) hb5|exact blk_below (blk_drewN Y4.out _) hb5);have B5:=zk (show Below w.heap.size w w5 by first|exact below_step B4.out hb5|exact below_step (below_drew B4.out) hb5|exact below_step (pw_below_drewN B4.out _) hb5);clear hb5;obtain ⟨s0,s1,s2,t0,t1,t2⟩:=blk3 X5.out;have l5:gm < w5.heap.size:=blk_lt X5.out)
  all_goals
   try go_wp2
   go_meet
   case rel=>exact ⟨w5.heap.size,⟨mst_made X5.out⟩,⟨B5.out.size,by have:=blk_lt X5.out;omega⟩,⟨blk_alloc (blk_far Y5.out N4.out _) _⟩,⟨below_alloc (B5.out.setCell G4.out _) _⟩⟩
 case rest =>
  clear X3 B3 G3 X4 Y4 B4 N4 hmk HB hv1 hv2 HZ
  obtain ⟨b,HM,HN,XG,HB⟩:=hcut
  obtain ⟨T,hT⟩:=Fits.exist a1 t 0
  obtain ⟨y0,y1,y2,g0,g1,g2⟩:=blk3 XG.out
  have HC1:=zk (match_all w gm b HN.out.2 G4.out HN.out.1 a1 (a1.size+1) (by have:=H400.out;omega) rfl t.size H16.out T HX.out A0_2 c0_2 0 HR.out HC.out hT (by omega) 0 a1.size 0 0 (a1.size:Int) _ wc rfl rfl rfl (Nat.zero_le _) (by omega) (by omega) (by simp) HM.out (fun a i j _ _ _ => .inl (by
   rw [List.getD_eq_getElem?_getD]
   by_cases h:ix (a1.size+1) a i j < t.size * (a1.size+1) * (a1.size+1)
   ·simp [h]
   ·rw [List.getElem?_eq_none (by simpa using h)];rfl)) HB.out)
  go_wp2_with (go_at_call 85;(with_reducible refine HC1.out.mono ?_);rintro e w9 ⟨rfl,m9,hl9,M9,G9,S9,K9,B9⟩)
  go_ret
  exact ⟨rfl,B9⟩
end Go.Proofs.YtcbjhfoeecfcoaaGreat.Ext
namespace Go.Proofs.YtcbjhfoeecfcoaaGreat.Ext
open Go.RowKit YtcbjhfoeecfcoaaGreatW.PrintWords YtcbjhfoeecfcoaaGreatW.PrintLast YtcbjhfoeecfcoaaGreat.A
def repl (G:Int→ByteArray × Bool):List Int→List Int→List Int
 | [],acc=>acc
 | c :: cs,acc =>
  if (acc ++ (if (G c).2=true then bytesOf (G c).1 else [c])).length > 1048576 then [] else repl G cs (acc ++ (if (G c).2=true then bytesOf (G c).1 else [c]))
def replB (G:Int→ByteArray × Bool) (s:ByteArray):ByteArray:=strOfNums (repl G (bytesOf s) [])
theorem infou8:(Tryz.prog.info? 5).map (fun i=>(i.zero,i.size,i.bytes))=some (some (.int .u8 0),1,1):=by kernel_rfl
theorem repl_at (G:Int→ByteArray × Bool) (s:ByteArray) (x:Int) (acc:List Int) (h0:0≤x) (h1:x < s.size) :
  repl G ((bytesOf s).drop x.toNat) acc=if (acc ++ (if (G (bt s x)).2=true then bytesOf (G (bt s x)).1 else [bt s x])).length > 1048576 then [] else repl G ((bytesOf s).drop (x.toNat+1)) (acc ++ (if (G (bt s x)).2=true then bytesOf (G (bt s x)).1 else [bt s x])):=by
 have hl:x.toNat < (bytesOf s).length:=by rw [bytesOf_length];omega
 have e:(bytesOf s)[x.toNat]=bt s x:=by
  rw [← rd_bytesOf]
  simp [rd,hl]
 rw [List.drop_eq_getElem_cons hl,e]
 rfl
theorem replB_of {G:Int→ByteArray × Bool} {s:ByteArray} {a:List Int} (h:a=repl G (bytesOf s) []) (h':a = []):replB G s=⟨#[]⟩:=by
 unfold replB
 rw [← h,h']
 rfl
set_option maxHeartbeats 4000000 in
theorem replaced_any (G:Int→ByteArray × Bool) (g:Nat) (lb:Array Value) (eg:∀ args w,(callFunc g args).run Tryz.prog w = .ok (.enter g args) w) (s:ByteArray) (w:World)
  (hs:s.size≤9223372036854775807) (hB:∀ c,(G c).1.size≤1048576)
  (hG:∀ (W:World) (c:Int),Below w.heap.size w W→0≤c→c≤255→Calls Tryz.prog g (#[.int .u8 c] ++ lb) W fun e W'=>e = .returned (.tuple #[.string (G c).1,.bool (G c).2])∧Below W.heap.size W W') :
  Calls Tryz.prog 80 #[.string s,.func (.func g) #[] lb] w fun e w'=>e = .returned (.string (replB G s))∧Below w.heap.size w w':=by
 have HS:=zk hs
 have HBd:=zk hB
 have HG:=zk hG
 clear hB hG
 go_enter Tryz.func80,Tryz.ntmps80
 go_wp2
 first
  | go_loopg [5,6] s.size (fun gk v5 v6 wr=>∃ (x:Int) (acc:List Int),v6 = .int .i64 x∧Aside0 (0≤x)∧Aside0 (x≤s.size)∧Aside0 ((s.size:Int) - x≤gk)∧Aside0 (repl G ((bytesOf s).drop x.toNat) acc=repl G (bytesOf s) [])∧Aside0 (acc.length≤1048576)∧Aside0 (wr.ownsRow w.heap.size 5 1 v5 acc.length (nums .u8 acc))∧Aside0 (Below w.heap.size w wr))
 case atStart=>exact ⟨0,[],rfl,⟨by omega⟩,⟨by omega⟩,⟨by omega⟩,⟨rfl⟩,⟨by simp⟩,⟨by simpa [nums] using own_lit w w.heap.size 5 .u8 [] (Nat.le_refl _) (by simp)⟩,⟨below_alloc (Below.refl _ _) _⟩⟩
 case round =>
  obtain ⟨x,acc,rfl,H0,H1,HK,HR,HL,HO,HB⟩:=hrel
  by_cases hlt:x < (s.size:Int)
  ·have hcall:=HG.out wr (bt s x) HB.out (bt_range _ _).1 (bt_range _ _).2
   have hR:=repl_at G s x acc H0.out hlt
   have hsz:=HBd.out (bt s x)
   generalize G (bt s x)=q at hcall hR hsz
   obtain ⟨t,b⟩:=q
   simp only at hcall hR hsz
   have HR2:=zk hR
   have HZ:=zk hsz
   clear hR hsz HG HBd
   have HC:=zk hcall
   clear hcall
   have c2b0:decide (x < (s.size:Int))=true:=decide_eq_true hlt
   have p4:=H0.out
   have q4:=hlt
   have hx4:=bt_at s x
   have P4:=zk p4
   have Q4:=zk q4
   clear hlt
   replace p4:=eq_true p4
   replace q4:=eq_true q4
   cases b with
   | true =>
    have HR3:Aside0 (repl G ((bytesOf s).drop x.toNat) acc=if (acc ++ bytesOf t).length > 1048576 then [] else repl G ((bytesOf s).drop (x.toNat+1)) (acc ++ bytesOf t)):=⟨HR2.out⟩
    clear HR2
    go_wp2_with (first
     | (go_at_fn g;refine HC.out.mono ?_;rintro e w2 ⟨rfl,hb2⟩;have n0_:=zk (pw_own_below HO.out hb2);have n1_:=zk (below_step HB.out hb2);clear HO HB hb2;have HO:=n0_;have HB:=n1_;clear n0_ n1_)
     | (at_builtin;refine print_append_str (w0:=w) w.heap.size rfl (.tmp 25) _ 22 9 5 rfl Tryz.underlying22 Tryz.underlying9 infou8 _ acc t rfl rfl HO.out HB.out HB.out.size (by have:=HL.out;have:=HZ.out;omega) ?_;intro v1 w1 hO1 hB1 hg1;obtain ⟨A1,c1,rfl⟩:=own_slice hO1;generalize hN:(acc ++ bytesOf t).length=N at hO1;have n0_:=zk hO1;have n1_:=zk hB1;have HN:=zk hN;have hN2:N≤2097152:=(by rw [← hN,List.length_append,bytesOf_length];have:=HL.out;have:=HZ.out;omega);clear hN hO1 hB1 hg1 HO HB;have HO:=n0_;have HB:=n1_;clear n0_ n1_))
    ·have hbig:(1048576:Int) < (N:Int):=by assumption
     go_ret
     refine ⟨?_,HB.out⟩
     exact congrArg (fun r=>Ending.returned (Value.string r)) (replB_of HR.out (HR3.out.trans (if_pos (by rw [HN.out];omega)))).symm
    ·have hbig:(N:Int)≤1048576:=by assumption
     go_roundg (gk - 1)
     case measure=>have:=HK.out;have:=Q4.out;omega
     case rel =>
      have hw:wrap64 (x+1)=x+1:=by have:=Q4.out;have:=P4.out;unfold wrap64;omega
      refine ⟨x+1,acc ++ bytesOf t,by rw [hw],⟨by have:=P4.out;omega⟩,⟨by have:=Q4.out;omega⟩,⟨by have:=HK.out;omega⟩,⟨?_⟩,⟨by rw [HN.out];omega⟩,⟨by rw [HN.out];exact HO.out⟩,HB⟩
      rw [show (x+1).toNat=x.toNat+1 by have:=P4.out;omega,← HR.out,HR3.out,if_neg]
      rw [HN.out];omega
   | false =>
    have HR3:Aside0 (repl G ((bytesOf s).drop x.toNat) acc=if (acc ++ [bt s x]).length > 1048576 then [] else repl G ((bytesOf s).drop (x.toNat+1)) (acc ++ [bt s x])):=⟨HR2.out⟩
    clear HR2
    go_wp2_with (first
     | (go_at_fn g;refine HC.out.mono ?_;rintro e w2 ⟨rfl,hb2⟩;have n0_:=zk (pw_own_below HO.out hb2);have n1_:=zk (below_step HB.out hb2);clear HO HB hb2;have HO:=n0_;have HB:=n1_;clear n0_ n1_)
     | (at_builtin;refine print_append_num (w0:=w) w.heap.size rfl (.tmp 28) _ 22 5 .u8 1 rfl Tryz.underlying22 infou8 (by decide) _ acc (bt s x) rfl rfl HO.out HB.out HB.out.size (by have:=HL.out;omega) ?_;intro v1 w1 hO1 hB1 hg1 _;obtain ⟨A1,c1,rfl⟩:=own_slice hO1;generalize hN:(acc ++ [bt s x]).length=N at hO1;have n0_:=zk hO1;have n1_:=zk hB1;have HN:=zk hN;have hN2:N≤2097152:=(by rw [← hN,List.length_append,List.length_singleton];have:=HL.out;omega);clear hN hO1 hB1 hg1 HO HB;have HO:=n0_;have HB:=n1_;clear n0_ n1_))
    ·have hbig:(1048576:Int) < (N:Int):=by assumption
     go_ret
     refine ⟨?_,HB.out⟩
     exact congrArg (fun r=>Ending.returned (Value.string r)) (replB_of HR.out (HR3.out.trans (if_pos (by rw [HN.out];omega)))).symm
    ·have hbig:(N:Int)≤1048576:=by assumption
     go_roundg (gk - 1)
     case measure=>have:=HK.out;have:=Q4.out;omega
     case rel =>
      have hw:wrap64 (x+1)=x+1:=by have:=Q4.out;have:=P4.out;unfold wrap64;omega
      refine ⟨x+1,acc ++ [bt s x],by rw [hw],⟨by have:=P4.out;omega⟩,⟨by have:=Q4.out;omega⟩,⟨by have:=HK.out;omega⟩,⟨?_⟩,⟨by rw [HN.out];omega⟩,⟨by rw [HN.out];exact HO.out⟩,HB⟩
      rw [show (x+1).toNat=x.toNat+1 by have:=P4.out;omega,← HR.out,HR3.out,if_neg]
      rw [HN.out];omega
  ·have c2b0:decide (x < (s.size:Int))=false:=decide_eq_false hlt
   have hx:x=s.size:=by have:=H1.out;omega
   have hr:repl G (bytesOf s) []=acc:=by
    rw [← HR.out,List.drop_of_length_le za79]
    rfl
   have HF:=zk hr
   clear hr hx hlt HG HBd
   have hconv:=own_string (P:=Tryz.prog) Tryz.underlying22 Tryz.underlying5 Tryz.underlying9 HO.out
   go_wp2
   go_ret
   exact ⟨congrArg (fun r=>Ending.returned (Value.string (strOfNums r))) HF.out.symm,HB.out⟩
-- EXT loop.example/g582/impl.ApplyValues making
-- ALSO loop.example/g582/impl.ValueOf
-- ALSO loop.example/g582/impl.isVariable
def wordOf (x y z:ByteArray) (c:Int):ByteArray × Bool:=((impl_ValueOf.f x y z c).getD ⟨#[]⟩,(impl_isVariable.f c).getD false)
def impl_ApplyValues.f (s x y z:ByteArray):Option ByteArray :=
 if s.size≤9223372036854775807∧x.size≤1048576∧y.size≤1048576∧z.size≤1048576 then some (replB (wordOf x y z) s) else none
theorem valueOf_some (x y z:ByteArray) (c:Int):impl_ValueOf.f x y z c=some (wordOf x y z c).1:=by
 unfold wordOf impl_ValueOf.f
 repeat' split
 all_goals rfl
theorem isVariable_some (x y z:ByteArray) (c:Int):impl_isVariable.f c=some (wordOf x y z c).2:=rfl
theorem wordOf_size (x y z:ByteArray) (c:Int) (hx:x.size≤1048576) (hy:y.size≤1048576) (hz:z.size≤1048576):(wordOf x y z c).1.size≤1048576:=by
 unfold wordOf impl_ValueOf.f
 repeat' split
 all_goals first|exact hx|exact hy|exact hz|exact Nat.zero_le _
set_option maxHeartbeats 1000000 in
theorem clo_ApplyValues (c:Int) (x y z:ByteArray) (g:Nat) (W:World) (h0:W.cell? ⟨g,0,none⟩=some (.string x)) (h1:W.cell? ⟨g,1,none⟩=some (.string y)) (h2:W.cell? ⟨g,2,none⟩=some (.string z)) :
  Calls Tryz.prog 81 #[.int .u8 c,.pointer (some ⟨g,0,none⟩)] W fun e W'=>e = .returned (.tuple #[.string (wordOf x y z c).1,.bool (wordOf x y z c).2])∧Below W.heap.size W W':=by
 have hv:=zk (valueOf_some x y z c)
 have hi:=zk (isVariable_some x y z c)
 generalize (wordOf x y z c).1=a at hv ⊢
 generalize (wordOf x y z c).2=b at hi ⊢
 go_enter Tryz.func81,Tryz.ntmps81
 go_wp2_with fail
 refine (impl_ValueOf.calls x y z c a _ hv.out).mono ?_
 rintro e w1 ⟨rfl,hb1⟩
 have HB:=zk hb1
 clear hb1 h0 h1 h2
 go_wp2_with (go_at_call 83;refine (impl_isVariable.calls c b _ hi.out).mono ?_;rintro e w2 ⟨rfl,⟨nd,rfl⟩⟩)
 go_ret2
 exact ⟨rfl,pw_below_drewN HB.out _⟩
set_option maxHeartbeats 1000000 in
theorem impl_ApplyValues.calls (s x y z:ByteArray) (r:ByteArray) (w:World) (h:impl_ApplyValues.f s x y z=some r) :
  Calls Tryz.prog 58 #[.string s,.agg #[.string x,.string y,.string z]] w fun e w'=>e = .returned (.string r)∧Below w.heap.size w w':=by
 unfold impl_ApplyValues.f at h
 split at h
 ·rename_i hc
  obtain ⟨hs,hx,hy,hz⟩:=hc
  obtain rfl:=zi h
  clear h
  have HS:=zk hs
  have HX:=zk (fun c=>wordOf_size x y z c hx hy hz)
  clear hs hx hy hz
  have hmf:∀ (fn:Fn) (first cap:Array Value) (w:World),(Instr.makeFunc fn first cap).run Tryz.prog w = .ok (.func fn first cap) w:=fun _ _ _ _=>rfl
  go_enter Tryz.func58,Tryz.ntmps58
  go_wp2_with fail
  refine (replaced_any (wordOf x y z) 81 _ (enters_of Tryz.func81 (by kernel_rfl) rfl) s _ HS.out HX.out ?_).mono ?_
  ·intro W c hb _ _
   refine clo_ApplyValues c x y z _ W ?_ ?_ ?_
   ·rw [hb.cell (p:=⟨w.heap.size,0,none⟩) (by simp)]
    go_simp
   ·rw [hb.cell (p:=⟨w.heap.size,1,none⟩) (by simp)]
    go_simp
   ·rw [hb.cell (p:=⟨w.heap.size,2,none⟩) (by simp)]
    go_simp
  ·rintro e w' ⟨rfl,hb'⟩
   have hb2:Below w.heap.size w w':=below_then (below_alloc (Below.refl _ _) _) (by simp) hb'
   have HB2:=zk hb2
   clear hb2 hb'
   go_wp2
   go_ret
   exact ⟨rfl,HB2.out⟩
 ·exact absurd h (by simp)
end Go.Proofs.YtcbjhfoeecfcoaaGreat.Ext
namespace Go.Proofs.YtcbjhfoeecfcoaaGreat.A
open Go.RowKit YtcbjhfoeecfcoaaGreat.Ext YtcbjhfoeecfcoaaGreatW.PrintWords YtcbjhfoeecfcoaaGreatW.PrintLast YtcbjhfoeecfcoaaGreatW.PrintMore
attribute [local go_sem] max2_int min2_int max_two min_two max_three min_three max_four min_four
mutual
def impl_IsValidConstraint.j0:Nat→Bool→Int→ByteArray→ByteArray→Int→ByteArray→List (S54)→List Int→Int→Option (Bool)
 | 0,_,_,_,_,_,_,_,_,_=>none
 | k+1,x16,x46002000,x46002001,x46002002,x46002003,x46002004,x46002005,x46002006,x46002007=>if x16=true then (some false) else (if x46002000=1 then (impl_IsValidConstraint.j1 k x46002000 (x46002000 == 1) x46002000 x46002001 x46002002 x46002003 x46002004 x46002005 x46002006 x46002007) else (impl_IsValidConstraint.j1 k x46002000 (x46002000 == 2) x46002000 x46002001 x46002002 x46002003 x46002004 x46002005 x46002006 x46002007))
def impl_IsValidConstraint.j1:Nat→Int→Bool→Int→ByteArray→ByteArray→Int→ByteArray→List (S54)→List Int→Int→Option (Bool)
 | 0,_,_,_,_,_,_,_,_,_,_=>none
 | k+1,x18,x19,x46002000,x46002001,x46002002,x46002003,x46002004,x46002005,x46002006,x46002007=>if x19=true then ((impl_IsTerm.f k x46002001).bind fun t46002=>(if t46002=true then ((impl_IsTerm.f k x46002002).bind fun t46003=>(if t46003=true then ((impl_isZeroRegex.f x46002003 x46002004 x46002005).bind fun t46004=>(some t46004)) else (some false))) else (some false))) else (if x18=3 then (impl_IsValidConstraint.j2 k x18 (x18 == 3) x46002000 x46002001 x46002002 x46002003 x46002004 x46002005 x46002006 x46002007) else (impl_IsValidConstraint.j2 k x18 (x18 == 4) x46002000 x46002001 x46002002 x46002003 x46002004 x46002005 x46002006 x46002007))
def impl_IsValidConstraint.j2:Nat→Int→Bool→Int→ByteArray→ByteArray→Int→ByteArray→List (S54)→List Int→Int→Option (Bool)
 | 0,_,_,_,_,_,_,_,_,_,_=>none
 | k+1,x18,x35,x46002000,x46002001,x46002002,x46002003,x46002004,x46002005,x46002006,x46002007=>if x35=true then ((impl_IsTerm.f k x46002001).bind fun t46005=>(if t46005=true then (if x46002002.toList=([]:List UInt8) then ((impl_IsValidRegex.f k x46002003 x46002004 x46002005).bind fun t46006=>(some t46006)) else (some false)) else (some false))) else (if x18=5 then (if x46002001.toList=([]:List UInt8) then (if x46002002.toList=([]:List UInt8) then ((impl_isZeroRegex.f x46002003 x46002004 x46002005).bind fun t46007=>(if t46007=true then (if (x46002006.length:Int)=3 then ((impl_within.f x46002007 (-99) 99).bind fun t46008=>(if t46008=true then ((slices_ContainsFunc_int_int.f k x46002006).bind fun t46009=>(some (!t46009))) else (some false))) else (some false)) else (some false))) else (some false)) else (some false)) else (some false))
end
def impl_IsValidConstraint.f (k:Nat) (a0_0:Int) (a0_1:ByteArray) (a0_2:ByteArray) (a0_3:Int) (a0_4:ByteArray) (l0_5:List (S54)) (l0_6:List Int) (a0_7:Int):Option (Bool):=if a0_0=5 then (impl_IsValidConstraint.j0 k false a0_0 a0_1 a0_2 a0_3 a0_4 l0_5 l0_6 a0_7) else (if (l0_6.length:Int)=0 then (impl_IsValidConstraint.j0 k (a0_7 != 0) a0_0 a0_1 a0_2 a0_3 a0_4 l0_5 l0_6 a0_7) else (impl_IsValidConstraint.j0 k true a0_0 a0_1 a0_2 a0_3 a0_4 l0_5 l0_6 a0_7))
theorem impl_IsValidConstraint.calls (k:Nat) (a0_0:Int) (a0_1:ByteArray) (a0_2:ByteArray) (a0_3:Int) (a0_4:ByteArray) (A0_5:Option Addr) (c0_5:Nat) (l0_5:List (S54)) (A0_6:Option Addr) (c0_6:Nat) (l0_6:List Int) (a0_7:Int) (r:Bool) (w:World) (hr0_5:Kd.C k54 w A0_5 l0_5.length l0_5) (hc0_5:l0_5.length≤c0_5) (hr0_6:Kd.C (Kd.int .i64) w A0_6 l0_6.length l0_6) (hc0_6:l0_6.length≤c0_6) (h:impl_IsValidConstraint.f k a0_0 a0_1 a0_2 a0_3 a0_4 l0_5 l0_6 a0_7=some r) :
   Calls Tryz.prog 46 #[.agg #[.int .i64 a0_0,.string a0_1,.string a0_2,.int .i64 a0_3,.string a0_4,.slice A0_5 l0_5.length c0_5,.slice A0_6 l0_6.length c0_6,.int .i64 a0_7]] w fun e w'=>e = .returned (.bool r)∧Below w.heap.size w w':=by
 have hu56:=Tryz.underlying56
 have hu54:=Tryz.underlying54
 have HR0_5:=zk hr0_5
 have HC0_5:=zk hc0_5
 clear hr0_5 hc0_5
 have HR0_6:=zk hr0_6
 have HC0_6:=zk hc0_6
 clear hr0_6 hc0_6
 have HB:=zk (Below.refl w.heap.size w)
 have H:=h
 unfold impl_IsValidConstraint.f at H
 clear h
 have HC2:=zk H
 clear H
 go_enter Tryz.func46,Tryz.ntmps46
 go_upto_region 1 with ((((with_reducible refine gate_dst (N:=1) rfl ?_);(try (refine gate_guard (by rfl) ?_;dsimp only));refine zE (cs:=#[.int .i64 a0_0,.string a0_1,.string a0_2,.int .i64 a0_3,.string a0_4,.slice A0_5 l0_5.length c0_5,.slice A0_6 l0_6.length c0_6,.int .i64 a0_7]) (t:=56) ?_;intro gb1 hg w3 hbox hb;have BK1:=zk hbox;have GW1:=zk (zs (w:=w) hg za8);have GE1:=GW1;replace HB:=yB HB hb;clear hb hbox hg)))
 (try simp only [Act.put,zt,zu,zv])
 go_cut [16] (fun v16 wc=>∃ (kq:Nat) (x16_1:Bool),v16 = .bool x16_1∧Aside0 (impl_IsValidConstraint.j0 kq x16_1 a0_0 a0_1 a0_2 a0_3 a0_4 l0_5 l0_6 a0_7=some r)∧Aside0 (kq≤k)∧Aside0 (wc.heap[gb1]? = some (.cells #[.int .i64 a0_0,.string a0_1,.string a0_2,.int .i64 a0_3,.string a0_4,(.slice A0_5 l0_5.length c0_5),(.slice A0_6 l0_6.length c0_6),.int .i64 a0_7] 56 (0,0)))∧Aside0 (Below w.heap.size w wc))
 case first =>
  have H:=HC2.out
  clear HC2
  by_cases c4:a0_0=5
  · rw [if_pos c4] at H
    have c4b0:=zbt c4
    have c4b1:=zqn c4
    clear c4
    ((skip))
    have H':=zk H
    clear H
    obtain ⟨hcz5_0,hcz5_1,hcz5_2,hcz5_3,hcz5_4,hcz5_5,hcz5_6,hcz5_7,hfz5_0,hfz5_1,hfz5_2,hfz5_3,hfz5_4,hfz5_5,hfz5_6,hfz5_7⟩:=blk8 BK1.out
    go_wp2
    go_meet
    case rel=>exact ⟨_,(false),za33,H',⟨by (omega)⟩,⟨za3 BK1.out⟩,⟨za8⟩⟩
  rw [if_neg c4] at H
  have c4b0:=zbn c4
  have c4b1:=zqt c4
  ((skip))
  by_cases c6:(l0_6.length:Int)=0
  · rw [if_pos c6] at H
    have c6b0:=zbt c6
    have c6b1:=zqn c6
    clear c6
    have H':=zk H
    clear H
    obtain ⟨hcz7_0,hcz7_1,hcz7_2,hcz7_3,hcz7_4,hcz7_5,hcz7_6,hcz7_7,hfz7_0,hfz7_1,hfz7_2,hfz7_3,hfz7_4,hfz7_5,hfz7_6,hfz7_7⟩:=blk8 BK1.out
    go_wp2
    go_meet
    case rel=>exact ⟨_,((a0_7 != 0)),za33,H',⟨by (omega)⟩,⟨za3 BK1.out⟩,⟨za8⟩⟩
  · rw [if_neg c6] at H
    have c6b0:=zbn c6
    have c6b1:=zqt c6
    have c6b2:¬ (l0_6 = []):=fun h_=>c6 (by rw [h_];rfl)
    have H':=zk H
    clear H
    obtain ⟨hcz8_0,hcz8_1,hcz8_2,hcz8_3,hcz8_4,hcz8_5,hcz8_6,hcz8_7,hfz8_0,hfz8_1,hfz8_2,hfz8_3,hfz8_4,hfz8_5,hfz8_6,hfz8_7⟩:=blk8 BK1.out
    go_wp2
    go_meet
    case rel=>exact ⟨_,(true),za33,H',⟨by (omega)⟩,⟨za3 BK1.out⟩,⟨za8⟩⟩
 case rest =>
  clear HC2
  obtain ⟨kq,x16_1,rfl,HA,HJ1,BK1,HB⟩:=hcut
  cases kq with
  | zero=>exact absurd HA.out (by simp [impl_IsValidConstraint.j0])
  | succ kj1 =>
   have H:=HA.out
   clear HA
   simp only [impl_IsValidConstraint.j0] at H
   by_cases c9:x16_1=true
   · subst c9
     rw [if_pos rfl] at H
     try dsimp only at H
     obtain rfl:=zi H
     go_wp2
     go_ret
     exact ⟨by (rfl),za8⟩
   · replace c9:=Bool.eq_false_iff.mpr c9
     subst c9
     rw [if_neg zff] at H
     try dsimp only at H
     have HC10:=zk H
     clear H
     obtain ⟨hcz11_0,hcz11_1,hcz11_2,hcz11_3,hcz11_4,hcz11_5,hcz11_6,hcz11_7,hfz11_0,hfz11_1,hfz11_2,hfz11_3,hfz11_4,hfz11_5,hfz11_6,hfz11_7⟩:=blk8 BK1.out
     go_upto_if 19 with (fail)
     go_cut [19] (fun v19 wc=>∃ (kq:Nat) (x19_9:Bool),v19 = .bool x19_9∧Aside0 (impl_IsValidConstraint.j1 kq a0_0 x19_9 a0_0 a0_1 a0_2 a0_3 a0_4 l0_5 l0_6 a0_7=some r)∧Aside0 (kq≤kj1)∧Aside0 (wc.heap[gb1]? = some (.cells #[.int .i64 a0_0,.string a0_1,.string a0_2,.int .i64 a0_3,.string a0_4,(.slice A0_5 l0_5.length c0_5),(.slice A0_6 l0_6.length c0_6),.int .i64 a0_7] 56 (0,0)))∧Aside0 (Below w.heap.size w wc))
     case first =>
      have H:=HC10.out
      clear HC10
      by_cases c12:a0_0=1
      · rw [if_pos c12] at H
        have c12b0:=zbt c12
        have c12b1:=zqn c12
        clear c12
        ((rw [c12b0]))
        have H':=zk H
        clear H
        go_wp2
        go_meet
        case rel=>exact ⟨_,((a0_0 == 1)),za33,H',⟨by have:=HJ1.out;(omega)⟩,⟨za3 BK1.out⟩,⟨za8⟩⟩
      · rw [if_neg c12] at H
        have c12b0:=zbn c12
        have c12b1:=zqt c12
        ((rw [c12b0]))
        have H':=zk H
        clear H
        go_wp2
        go_meet
        case rel=>exact ⟨_,((a0_0 == 2)),za33,H',⟨by have:=HJ1.out;(omega)⟩,⟨za3 BK1.out⟩,⟨za8⟩⟩
     case rest =>
      clear HC10
      try clear c9
      try clear hcz11_0
      try clear hcz11_1
      try clear hcz11_2
      try clear hcz11_3
      try clear hcz11_4
      try clear hcz11_5
      try clear hcz11_6
      try clear hcz11_7
      try clear hfz11_0
      try clear hfz11_1
      try clear hfz11_2
      try clear hfz11_3
      try clear hfz11_4
      try clear hfz11_5
      try clear hfz11_6
      try clear hfz11_7
      obtain ⟨kq,x19_9,rfl,HA,HJ9,BK1,HB⟩:=hcut
      cases kq with
      | zero=>exact absurd HA.out (by simp [impl_IsValidConstraint.j1])
      | succ kj9 =>
       have H:=HA.out
       clear HA
       simp only [impl_IsValidConstraint.j1] at H
       by_cases c13:x19_9=true
       subst c13
       rw [if_pos rfl] at H
       try dsimp only at H
       obtain ⟨t2,A14,H⟩:=zO H
       try dsimp only at H
       by_cases c15:t2=true
       subst c15
       rw [if_pos rfl] at H
       try dsimp only at H
       obtain ⟨t3,A16,H⟩:=zO H
       try dsimp only at H
       by_cases c17:t3=true
       subst c17
       rw [if_pos rfl] at H
       try dsimp only at H
       obtain ⟨t4,A18,H⟩:=zO H
       try dsimp only at H
       rotate_left
       replace c17:=Bool.eq_false_iff.mpr c17
       subst c17
       rw [if_neg zff] at H
       try dsimp only at H
       rotate_left
       replace c15:=Bool.eq_false_iff.mpr c15
       subst c15
       rw [if_neg zff] at H
       try dsimp only at H
       rotate_left
       · replace c13:=Bool.eq_false_iff.mpr c13
         subst c13
         rw [if_neg zff] at H
         try dsimp only at H
         have HC23:=zk H
         clear H
         go_upto_if 35 with (fail)
         go_cut [35] (fun v35 wc=>∃ (kq:Nat) (x35_22:Bool),v35 = .bool x35_22∧Aside0 (impl_IsValidConstraint.j2 kq a0_0 x35_22 a0_0 a0_1 a0_2 a0_3 a0_4 l0_5 l0_6 a0_7=some r)∧Aside0 (kq≤kj9)∧Aside0 (wc.heap[gb1]? = some (.cells #[.int .i64 a0_0,.string a0_1,.string a0_2,.int .i64 a0_3,.string a0_4,(.slice A0_5 l0_5.length c0_5),(.slice A0_6 l0_6.length c0_6),.int .i64 a0_7] 56 (0,0)))∧Aside0 (Below w.heap.size w wc))
         case first =>
          have H:=HC23.out
          clear HC23
          by_cases c24:a0_0=3
          · rw [if_pos c24] at H
            have c24b0:=zbt c24
            have c24b1:=zqn c24
            clear c24
            ((rw [c24b0]))
            have H':=zk H
            clear H
            go_wp2
            go_meet
            case rel=>exact ⟨_,((a0_0 == 3)),za33,H',⟨by have:=HJ1.out;have:=HJ9.out;(omega)⟩,⟨za3 BK1.out⟩,⟨za8⟩⟩
          · rw [if_neg c24] at H
            have c24b0:=zbn c24
            have c24b1:=zqt c24
            ((rw [c24b0]))
            have H':=zk H
            clear H
            go_wp2
            go_meet
            case rel=>exact ⟨_,((a0_0 == 4)),za33,H',⟨by have:=HJ1.out;have:=HJ9.out;(omega)⟩,⟨za3 BK1.out⟩,⟨za8⟩⟩
         case rest =>
          clear HC23
          try clear c9
          try clear c13
          try clear hcz11_0
          try clear hcz11_1
          try clear hcz11_2
          try clear hcz11_3
          try clear hcz11_4
          try clear hcz11_5
          try clear hcz11_6
          try clear hcz11_7
          try clear hfz11_0
          try clear hfz11_1
          try clear hfz11_2
          try clear hfz11_3
          try clear hfz11_4
          try clear hfz11_5
          try clear hfz11_6
          try clear hfz11_7
          obtain ⟨kq,x35_22,rfl,HA,HJ22,BK1,HB⟩:=hcut
          cases kq with
          | zero=>exact absurd HA.out (by simp [impl_IsValidConstraint.j2])
          | succ kj22 =>
           have H:=HA.out
           clear HA
           simp only [impl_IsValidConstraint.j2] at H
           by_cases c25:x35_22=true
           subst c25
           rw [if_pos rfl] at H
           try dsimp only at H
           obtain ⟨t5,A26,H⟩:=zO H
           try dsimp only at H
           by_cases c27:t5=true
           subst c27
           rw [if_pos rfl] at H
           try dsimp only at H
           by_cases c28:a0_2.toList=([]:List UInt8)
           rw [if_pos c28] at H
           have c28b0:=zbt c28
           have c28b1:=zqn c28
           clear c28
           obtain ⟨t6,A29,H⟩:=zO H
           try dsimp only at H
           rotate_left
           rw [if_neg c28] at H
           have c28b0:=zbn c28
           have c28b1:=zqt c28
           rotate_left
           replace c27:=Bool.eq_false_iff.mpr c27
           subst c27
           rw [if_neg zff] at H
           try dsimp only at H
           rotate_left
           replace c25:=Bool.eq_false_iff.mpr c25
           subst c25
           rw [if_neg zff] at H
           try dsimp only at H
           by_cases c34:a0_0=5
           rw [if_pos c34] at H
           have c34b0:=zbt c34
           have c34b1:=zqn c34
           clear c34
           by_cases c35:a0_1.toList=([]:List UInt8)
           rw [if_pos c35] at H
           have c35b0:=zbt c35
           have c35b1:=zqn c35
           clear c35
           by_cases c36:a0_2.toList=([]:List UInt8)
           rw [if_pos c36] at H
           have c36b0:=zbt c36
           have c36b1:=zqn c36
           clear c36
           obtain ⟨t7,A37,H⟩:=zO H
           try dsimp only at H
           by_cases c38:t7=true
           subst c38
           rw [if_pos rfl] at H
           try dsimp only at H
           by_cases c39:(l0_6.length:Int)=3
           rw [if_pos c39] at H
           have c39b0:=zbt c39
           have c39b1:=zqn c39
           clear c39
           obtain ⟨t8,A40,H⟩:=zO H
           try dsimp only at H
           by_cases c41:t8=true
           subst c41
           rw [if_pos rfl] at H
           try dsimp only at H
           obtain ⟨t9,A42,H⟩:=zO H
           try dsimp only at H
           rotate_left
           replace c41:=Bool.eq_false_iff.mpr c41
           subst c41
           rw [if_neg zff] at H
           try dsimp only at H
           rotate_left
           rw [if_neg c39] at H
           have c39b0:=zbn c39
           have c39b1:=zqt c39
           rotate_left
           replace c38:=Bool.eq_false_iff.mpr c38
           subst c38
           rw [if_neg zff] at H
           try dsimp only at H
           rotate_left
           rw [if_neg c36] at H
           have c36b0:=zbn c36
           have c36b1:=zqt c36
           rotate_left
           rw [if_neg c35] at H
           have c35b0:=zbn c35
           have c35b1:=zqt c35
           rotate_left
           · rw [if_neg c34] at H
             have c34b0:=zbn c34
             have c34b1:=zqt c34
             obtain rfl:=zi H
             go_wp2
             go_ret
             exact ⟨by (rfl),za8⟩
           all_goals
            obtain rfl:=zi H
            obtain ⟨hcz43_0,hcz43_1,hcz43_2,hcz43_3,hcz43_4,hcz43_5,hcz43_6,hcz43_7,hfz43_0,hfz43_1,hfz43_2,hfz43_3,hfz43_4,hfz43_5,hfz43_6,hfz43_7⟩:=blk8 BK1.out
            go_wp2_with (first|(go_at_call 68;(with_reducible refine (impl_isZeroRegex.calls a0_3 a0_4 _ _ l0_5 _ _ ?side1 ?side2 A37.out).mono ?_);(case side1=>repeat ((exact (Kd.C_below HR0_5.out HB.out))));(case side2=>exact HC0_5.out);rintro e w44 ⟨rfl,hb⟩;replace BK1:=yb BK1 hb;replace HB:=yB HB hb;(try clear hb);obtain ⟨hcz45_0,hcz45_1,hcz45_2,hcz45_3,hcz45_4,hcz45_5,hcz45_6,hcz45_7,hfz45_0,hfz45_1,hfz45_2,hfz45_3,hfz45_4,hfz45_5,hfz45_6,hfz45_7⟩:=blk8 BK1.out)|(go_at_call 70;(with_reducible refine (impl_within.calls a0_7 (-99) 99 _ _ A40.out).mono ?_);rintro e w' ⟨rfl,⟨nd,rfl⟩⟩)|((with_reducible refine gate_callee (f:=71) rfl ?_);refine zg (some 81) Tryz.func71 #[.slice A0_6 l0_6.length c0_6,.func (.func 72) #[] #[]] rfl za11 ?_;(with_reducible refine (slices_ContainsFunc_int_int.calls kj22 _ _ l0_6 t9 _ ?side1 ?side2 A42.out).mono ?_);(case side1=>repeat ((exact (Kd.C_below HR0_6.out za8))));(case side2=>exact HC0_6.out);rintro e w' ⟨rfl,⟨nd,rfl⟩⟩;refine ⟨_,rfl,?_⟩)|((with_reducible refine gate_callee (f:=67) rfl ?_);refine zg (some 40) Tryz.func67 #[.string a0_1] rfl za11 ?_;(with_reducible refine (impl_IsTerm.calls kj22 a0_1 _ _ A26.out).mono ?_);rintro e w' ⟨rfl,⟨nd,rfl⟩⟩;refine ⟨_,rfl,?_⟩)|(go_at_call 69;(with_reducible refine (impl_IsValidRegex.calls kj22 a0_3 a0_4 _ _ l0_5 t6 _ ?side1 ?side2 A29.out).mono ?_);(case side1=>repeat ((exact (Kd.C_below HR0_5.out za8))));(case side2=>exact HC0_5.out);rintro e w31 ⟨rfl,hb⟩;replace BK1:=yb BK1 hb;replace HB:=yB HB hb;(try clear hb)))
            go_ret
            exact ⟨by (rfl),za8⟩
       all_goals
        obtain rfl:=zi H
        obtain ⟨hcz19_0,hcz19_1,hcz19_2,hcz19_3,hcz19_4,hcz19_5,hcz19_6,hcz19_7,hfz19_0,hfz19_1,hfz19_2,hfz19_3,hfz19_4,hfz19_5,hfz19_6,hfz19_7⟩:=blk8 BK1.out
        go_wp2_with (first|((with_reducible refine gate_callee (f:=67) rfl ?_);refine zg (some 24) Tryz.func67 #[.string a0_1] rfl za11 ?_;(with_reducible refine (impl_IsTerm.calls kj9 a0_1 _ _ A14.out).mono ?_);rintro e w' ⟨rfl,⟨nd,rfl⟩⟩;refine ⟨_,rfl,?_⟩)|(go_at_call 67;(with_reducible refine (impl_IsTerm.calls kj9 a0_2 _ _ A16.out).mono ?_);rintro e w' ⟨rfl,⟨nd,rfl⟩⟩)|(go_at_call 68;(with_reducible refine (impl_isZeroRegex.calls a0_3 a0_4 _ _ l0_5 t4 _ ?side1 ?side2 A18.out).mono ?_);(case side1=>repeat ((exact (Kd.C_below HR0_5.out za8))));(case side2=>exact HC0_5.out);rintro e w20 ⟨rfl,hb⟩;replace BK1:=yb BK1 hb;replace HB:=yB HB hb;(try clear hb)))
        go_ret
        exact ⟨by (rfl),za8⟩
def impl_VarsOfConstraint.l0:Nat→ByteArray→List Int→Int→Int→Option (ByteArray)
 | 0,_,_,_,_=>none
 | k+1,x3,x15,x16,x17=>if x17 < x16 then (if 0≤x17 then (if x17 < (x15.length:Int) then (if (rd x15 x17)=0 then (impl_VarsOfConstraint.l0 k x3 x15 x16 (wrap64 (x17+1))) else (if x17≤(wrap64 (x17+1)) then (if (wrap64 (x17+1))≤3 then (if x3.size+((⟨#[88,89,90]⟩:ByteArray).extract (x17:Int).toNat ((wrap64 (x17+1)):Int).toNat).size≤9223372036854775807 then (impl_VarsOfConstraint.l0 k (x3 ++ ((⟨#[88,89,90]⟩:ByteArray).extract (x17:Int).toNat ((wrap64 (x17+1)):Int).toNat)) x15 x16 (wrap64 (x17+1))) else (none)) else (none)) else (none))) else (none)) else (none)) else ((impl_VarsOf.f k x3).bind fun t47004=>(some t47004))
def impl_VarsOfConstraint.f (k:Nat) (a0_0:Int) (a0_1:ByteArray) (a0_2:ByteArray) (a0_3:Int) (a0_4:ByteArray) (l0_5:List (S54)) (l0_6:List Int) (a0_7:Int):Option (ByteArray):=(impl_IsValidConstraint.f k a0_0 a0_1 a0_2 a0_3 a0_4 l0_5 l0_6 a0_7).bind fun t47002=>(if t47002=true then (if a0_1.size+a0_2.size≤9223372036854775807 then (impl_VarsOfConstraint.l0 k (a0_1 ++ a0_2) l0_6 (l0_6.length:Int) 0) else (none)) else (some (⟨#[]⟩:ByteArray)))
theorem impl_VarsOfConstraint.calls (k:Nat) (a0_0:Int) (a0_1:ByteArray) (a0_2:ByteArray) (a0_3:Int) (a0_4:ByteArray) (A0_5:Option Addr) (c0_5:Nat) (l0_5:List (S54)) (A0_6:Option Addr) (c0_6:Nat) (l0_6:List Int) (a0_7:Int) (r:ByteArray) (w:World) (hr0_5:Kd.C k54 w A0_5 l0_5.length l0_5) (hc0_5:l0_5.length≤c0_5) (hr0_6:Kd.C (Kd.int .i64) w A0_6 l0_6.length l0_6) (hc0_6:l0_6.length≤c0_6) (h:impl_VarsOfConstraint.f k a0_0 a0_1 a0_2 a0_3 a0_4 l0_5 l0_6 a0_7=some r) :
  Calls Tryz.prog 47 #[.agg #[.int .i64 a0_0,.string a0_1,.string a0_2,.int .i64 a0_3,.string a0_4,.slice A0_5 l0_5.length c0_5,.slice A0_6 l0_6.length c0_6,.int .i64 a0_7]] w fun e w'=>e = .returned (.string r)∧Below w.heap.size w w':=by
 have hu56:=Tryz.underlying56
 have HR0_5:=zk hr0_5
 have HC0_5:=zk hc0_5
 clear hr0_5 hc0_5
 have HR0_6:=zk hr0_6
 have HC0_6:=zk hc0_6
 clear hr0_6 hc0_6
 have HB:=zk (Below.refl w.heap.size w)
 have H:=h
 unfold impl_VarsOfConstraint.f at H
 clear h
 go_enter Tryz.func47,Tryz.ntmps47
 go_upto_region 1 with ((((with_reducible refine gate_dst (N:=1) rfl ?_);refine zE (cs:=#[.int .i64 a0_0,.string a0_1,.string a0_2,.int .i64 a0_3,.string a0_4,.slice A0_5 l0_5.length c0_5,.slice A0_6 l0_6.length c0_6,.int .i64 a0_7]) (t:=56) ?_;intro gb1 hg w5 hbox hb;have BK1:=zk hbox;have GW1:=zk (zs (w:=w) hg za8);have GE1:=GW1;replace HB:=yB HB hb;clear hb hbox hg;obtain ⟨hcz6_0,hcz6_1,hcz6_2,hcz6_3,hcz6_4,hcz6_5,hcz6_6,hcz6_7,hfz6_0,hfz6_1,hfz6_2,hfz6_3,hfz6_4,hfz6_5,hfz6_6,hfz6_7⟩:=blk8 BK1.out)))
 obtain ⟨t2,A2,H⟩:=zO H
 try dsimp only at H
 by_cases c3:t2=true
 subst c3
 rw [if_pos rfl] at H
 try dsimp only at H
 by_cases c4:a0_1.size+a0_2.size≤9223372036854775807
 ·rw [if_pos c4] at H
  have c4z:=c4
  try simp at c4z
  try replace c4z:=eq_false (Nat.not_lt.2 c4z)
  have c4b0:=eq_true c4
  have c4b1:=zdle c4
  try have c4b2:(9223372036854775807 < a0_1.size+a0_2.size)=False:=eq_false (Nat.not_lt.2 c4)
  have H':=zk H
  clear H
  go_wp2_with ((((with_reducible refine gate_callee (f:=46) rfl ?_);refine zg (some 7) Tryz.func46 #[.agg #[.int .i64 a0_0,.string a0_1,.string a0_2,.int .i64 a0_3,.string a0_4,.slice A0_5 l0_5.length c0_5,.slice A0_6 l0_6.length c0_6,.int .i64 a0_7]] rfl za11 ?_;(with_reducible refine (impl_IsValidConstraint.calls k a0_0 a0_1 a0_2 a0_3 a0_4 _ _ l0_5 _ _ l0_6 a0_7 _ _ ?side1 ?side2 ?side3 ?side4 A2.out).mono ?_);(case side1=>repeat ((exact (Kd.C_below HR0_5.out HB.out))));(case side2=>exact HC0_5.out);(case side3=>repeat ((exact (Kd.C_below HR0_6.out HB.out))));(case side4=>exact HC0_6.out);rintro e w7 ⟨rfl,hb⟩;refine ⟨_,rfl,?_⟩;replace BK1:=yb BK1 hb;replace HB:=yB HB hb;(try clear hb);obtain ⟨hcz8_0,hcz8_1,hcz8_2,hcz8_3,hcz8_4,hcz8_5,hcz8_6,hcz8_7,hfz8_0,hfz8_1,hfz8_2,hfz8_3,hfz8_4,hfz8_5,hfz8_6,hfz8_7⟩:=blk8 BK1.out)))
  try simp only [Act.put,zt,zv,zu]
  go_loopg [3,17] k (fun kq v3 v17 w'=>∃ (x3_1:ByteArray) (x17_1:Int),v3 = .string x3_1∧v17 = .int .i64 x17_1∧Aside0 (impl_VarsOfConstraint.l0 kq x3_1 l0_6 (l0_6.length:Int) x17_1=some r)∧Aside0 (kq≤k)∧Aside0 (w'.heap[gb1]? = some (.cells #[.int .i64 a0_0,.string a0_1,.string a0_2,.int .i64 a0_3,.string a0_4,(.slice A0_5 l0_5.length c0_5),(.slice A0_6 l0_6.length c0_6),.int .i64 a0_7] 56 (0,0)))∧Aside0 (Below w.heap.size w w'))
  case atStart=>exact ⟨(a0_1 ++ a0_2),(0),za33,za33,H',⟨Nat.le_refl _⟩,⟨za3 BK1.out⟩,⟨za8⟩⟩
  case round =>
   clear H'
   try clear c4
   try clear c4b0
   try clear c4b1
   try clear c4b2
   try clear hcz6_0
   try clear hcz6_1
   try clear hcz6_2
   try clear hcz6_3
   try clear hcz6_4
   try clear hcz6_5
   try clear hcz6_6
   try clear hcz6_7
   try clear hcz8_0
   try clear hcz8_1
   try clear hcz8_2
   try clear hcz8_3
   try clear hcz8_4
   try clear hcz8_5
   try clear hcz8_6
   try clear hcz8_7
   try clear hfz6_0
   try clear hfz6_1
   try clear hfz6_2
   try clear hfz6_3
   try clear hfz6_4
   try clear hfz6_5
   try clear hfz6_6
   try clear hfz6_7
   try clear hfz8_0
   try clear hfz8_1
   try clear hfz8_2
   try clear hfz8_3
   try clear hfz8_4
   try clear hfz8_5
   try clear hfz8_6
   try clear hfz8_7
   obtain ⟨x3_1,x17_1,rfl,rfl,HA,HK1,BK1,HB⟩:=hrel
   cases gk with
   | zero=>exact absurd HA.out (by simp [impl_VarsOfConstraint.l0])
   | succ k1 =>
    have H:=HA.out
    clear HA
    simp only [impl_VarsOfConstraint.l0] at H
    by_cases c9:x17_1 < (l0_6.length:Int)
    rw [if_pos c9] at H
    have c9b0:=zdl c9
    clear c9
    by_cases c10:0≤x17_1
    rw [if_pos c10] at H
    have c10b0:=zdle c10
    clear c10
    by_cases c11:x17_1 < (l0_6.length:Int)
    rw [if_pos c11] at H
    have c11b0:=zdl c11
    clear c11
    by_cases c12:(rd l0_6 x17_1)=0
    rw [if_pos c12] at H
    have c12b0:=zbt c12
    have c12b1:=zqn c12
    clear c12
    have fin0_:=zk trivial
    rotate_left
    rw [if_neg c12] at H
    have c12b0:=zbn c12
    have c12b1:=zqt c12
    have c13b0:=eq_true (of_decide_eq_true za25:0≤x17_1)
    by_cases c14:x17_1≤(wrap64 (x17_1+1))
    rw [if_pos c14] at H
    have c14b0:=eq_true c14
    have c14b1:=zdle c14
    by_cases c15:(wrap64 (x17_1+1))≤3
    rw [if_pos c15] at H
    have c15b0:=eq_true c15
    have c15b1:=zdle c15
    by_cases c16:x3_1.size+((⟨#[88,89,90]⟩:ByteArray).extract (x17_1:Int).toNat ((wrap64 (x17_1+1)):Int).toNat).size≤9223372036854775807
    rw [if_pos c16] at H
    have c16z:=c16
    try simp at c16z
    try replace c16z:=eq_false (Nat.not_lt.2 c16z)
    have c16b0:=eq_true c16
    have c16b1:=zdle c16
    try have c16b2:(9223372036854775807 < x3_1.size+((⟨#[88,89,90]⟩:ByteArray).extract (x17_1:Int).toNat ((wrap64 (x17_1+1)):Int).toNat).size)=False:=eq_false (Nat.not_lt.2 c16)
    have fin1_:=zk trivial
    rotate_left
    · rw [if_neg c16] at H
      exact absurd H (by simp)
    · rw [if_neg c15] at H
      exact absurd H (by simp)
    · rw [if_neg c14] at H
      exact absurd H (by simp)
    · rw [if_neg c11] at H
      exact absurd H (by simp)
    · rw [if_neg c10] at H
      exact absurd H (by simp)
    · rw [if_neg c9] at H
      have c9b0:=zdnl c9
      clear c9
      obtain ⟨t4,A17,H⟩:=zO H
      try dsimp only at H
      obtain rfl:=zi H
      go_wp2_with ((((with_reducible refine gate_callee (f:=48) rfl ?_);refine zg (some 32) Tryz.func48 #[.string x3_1] rfl za11 ?_;(with_reducible refine (impl_VarsOf.calls k1 x3_1 t4 _ A17.out).mono ?_);rintro e w' ⟨rfl,⟨nd,rfl⟩⟩;refine ⟨_,rfl,?_⟩)))
      go_ret
      exact ⟨by (rfl),za8⟩
    all_goals
     have H':=zk H
     clear H
     have p47003:0≤(x17_1:Int):=of_decide_eq_true za25
     have q47003:x17_1 < (l0_6.length:Int):=of_decide_eq_true za25
     obtain ⟨ad47003,e47003,hx47003_0⟩:=Kd.at_int HR0_6.out x17_1 p47003 q47003
     cases e47003
     replace hx47003_0:=zx HB.out hx47003_0
     replace p47003:=eq_true p47003
     replace q47003:=eq_true q47003
     go_wp2
     first
     | (
       clear fin0_
       go_roundg k1
       case measure=>have:=HK1.out;omega
       case rel=>exact ⟨(x3_1),(wrap64 (x17_1+1)),za23,za23,H',⟨za43⟩,⟨za0 BK1.out⟩,⟨za9⟩⟩)
     | (
       clear fin1_
       go_roundg k1
       case measure=>have:=HK1.out;omega
       case rel=>exact ⟨(x3_1 ++ ((⟨#[88,89,90]⟩:ByteArray).extract (x17_1:Int).toNat ((wrap64 (x17_1+1)):Int).toNat)),(wrap64 (x17_1+1)),za33,za33,H',⟨za43⟩,⟨za3 BK1.out⟩,⟨za8⟩⟩)
 ·rw [if_neg c4] at H
  exact absurd H (by simp)
 ·replace c3:=Bool.eq_false_iff.mpr c3
  subst c3
  rw [if_neg zff] at H
  try dsimp only at H
  obtain rfl:=zi H
  go_wp2_with ((((with_reducible refine gate_callee (f:=46) rfl ?_);refine zg (some 7) Tryz.func46 #[.agg #[.int .i64 a0_0,.string a0_1,.string a0_2,.int .i64 a0_3,.string a0_4,.slice A0_5 l0_5.length c0_5,.slice A0_6 l0_6.length c0_6,.int .i64 a0_7]] rfl za11 ?_;(with_reducible refine (impl_IsValidConstraint.calls k a0_0 a0_1 a0_2 a0_3 a0_4 _ _ l0_5 _ _ l0_6 a0_7 _ _ ?side1 ?side2 ?side3 ?side4 A2.out).mono ?_);(case side1=>repeat ((exact (Kd.C_below HR0_5.out HB.out))));(case side2=>exact HC0_5.out);(case side3=>repeat ((exact (Kd.C_below HR0_6.out HB.out))));(case side4=>exact HC0_6.out);rintro e w20 ⟨rfl,hb⟩;refine ⟨_,rfl,?_⟩;replace BK1:=yb BK1 hb;replace HB:=yB HB hb;(try clear hb))))
  go_ret
  exact ⟨by (rfl),za8⟩
def impl_holds.f (a0_0:Int) (a0_1:ByteArray) (a0_2:ByteArray) (a0_3:Int) (a0_4:ByteArray) (l0_5:List (S54)) (l0_6:List Int) (a0_7:Int) (a1_0:ByteArray) (a1_1:ByteArray) (a1_2:ByteArray):Option (Bool):=(impl_ApplyValues.f a0_1 a1_0 a1_1 a1_2).bind fun t31003=>(if a0_0=1 then ((impl_ApplyValues.f a0_2 a1_0 a1_1 a1_2).bind fun t31004=>(some (t31003.toList == t31004.toList))) else (if a0_0=2 then ((impl_ApplyValues.f a0_2 a1_0 a1_1 a1_2).bind fun t31005=>(some (t31003.toList != t31005.toList))) else (if a0_0=3 then ((impl_matches.f a0_3 a0_4 l0_5 t31003).bind fun t31006=>(some t31006)) else (if a0_0=4 then ((impl_matches.f a0_3 a0_4 l0_5 t31003).bind fun t31007=>(some (!t31007))) else (if 0 < (l0_6.length:Int) then (if 1 < (l0_6.length:Int) then (if 2 < (l0_6.length:Int) then (some (decide ((wrap64 ((wrap64 ((wrap64 ((rd l0_6 0) * (a1_0.size:Int)))+(wrap64 ((rd l0_6 1) * (a1_1.size:Int)))))+(wrap64 ((rd l0_6 2) * (a1_2.size:Int)))))≤a0_7))) else (none)) else (none)) else (none))))))
theorem impl_holds.calls (a0_0:Int) (a0_1:ByteArray) (a0_2:ByteArray) (a0_3:Int) (a0_4:ByteArray) (A0_5:Option Addr) (c0_5:Nat) (l0_5:List (S54)) (A0_6:Option Addr) (c0_6:Nat) (l0_6:List Int) (a0_7:Int) (a1_0:ByteArray) (a1_1:ByteArray) (a1_2:ByteArray) (r:Bool) (w:World) (hr0_5:Kd.C k54 w A0_5 l0_5.length l0_5) (hc0_5:l0_5.length≤c0_5) (hr0_6:Kd.C (Kd.int .i64) w A0_6 l0_6.length l0_6) (hc0_6:l0_6.length≤c0_6) (h:impl_holds.f a0_0 a0_1 a0_2 a0_3 a0_4 l0_5 l0_6 a0_7 a1_0 a1_1 a1_2=some r) :
  Calls Tryz.prog 31 #[.agg #[.int .i64 a0_0,.string a0_1,.string a0_2,.int .i64 a0_3,.string a0_4,.slice A0_5 l0_5.length c0_5,.slice A0_6 l0_6.length c0_6,.int .i64 a0_7],.agg #[.string a1_0,.string a1_1,.string a1_2]] w fun e w'=>e = .returned (.bool r)∧Below w.heap.size w w':=by
 have hu56:=Tryz.underlying56
 have hu32:=Tryz.underlying32
 have hu54:=Tryz.underlying54
 have HR0_5:=zk hr0_5
 have HC0_5:=zk hc0_5
 clear hr0_5 hc0_5
 have HR0_6:=zk hr0_6
 have HC0_6:=zk hc0_6
 clear hr0_6 hc0_6
 have HB:=zk (Below.refl w.heap.size w)
 have H:=h
 unfold impl_holds.f at H
 clear h
 go_enter Tryz.func31,Tryz.ntmps31
 go_upto_region 1 with (first|((with_reducible refine gate_dst (N:=2) rfl ?_);refine zE (cs:=#[.int .i64 a0_0,.string a0_1,.string a0_2,.int .i64 a0_3,.string a0_4,.slice A0_5 l0_5.length c0_5,.slice A0_6 l0_6.length c0_6,.int .i64 a0_7]) (t:=56) ?_;intro gb1 hg w6 hbox hb;have BK1:=zk hbox;have GW1:=zk (zs (w:=w) hg za8);have GE1:=GW1;replace HB:=yB HB hb;clear hb hbox hg)|((with_reducible refine gate_dst (N:=3) rfl ?_);refine zE (cs:=#[.string a1_0,.string a1_1,.string a1_2]) (t:=32) ?_;intro gb2 hg w7 hbox hb;have BK2:=zk hbox;have GW2:=zk (zs (w:=w) hg za8);have GE2:=GW2;have NB1_2:=yn hg BK1;have NB2_1:=yp hg BK1;replace BK1:=yb BK1 hb;replace HB:=yB HB hb;clear hb hbox hg;have hnb8:=NB1_2.out;have hnc8:=NB2_1.out;obtain ⟨hcz9_0,hcz9_1,hcz9_2,hcz9_3,hcz9_4,hcz9_5,hcz9_6,hcz9_7,hfz9_0,hfz9_1,hfz9_2,hfz9_3,hfz9_4,hfz9_5,hfz9_6,hfz9_7⟩:=blk8 BK1.out;obtain ⟨hcz10_0,hcz10_1,hcz10_2,hfz10_0,hfz10_1,hfz10_2⟩:=blk3 BK2.out))
 obtain ⟨t3,A3,H⟩:=zO H
 try dsimp only at H
 by_cases c4:a0_0=1
 ·rw [if_pos c4] at H
  have c4b0:=zbt c4
  have c4b1:=zqn c4
  clear c4
  obtain ⟨t4,A5,H⟩:=zO H
  try dsimp only at H
  obtain rfl:=zi H
  go_wp2_with (first|(go_at_call 58;(with_reducible refine (impl_ApplyValues.calls a0_1 a1_0 a1_1 a1_2 t3 _ A3.out).mono ?_);rintro e w11 ⟨rfl,hb⟩;replace BK1:=yb BK1 hb;replace BK2:=yb BK2 hb;replace HB:=yB HB hb;(try clear hb);obtain ⟨hcz12_0,hcz12_1,hcz12_2,hcz12_3,hcz12_4,hcz12_5,hcz12_6,hcz12_7,hfz12_0,hfz12_1,hfz12_2,hfz12_3,hfz12_4,hfz12_5,hfz12_6,hfz12_7⟩:=blk8 BK1.out;obtain ⟨hcz13_0,hcz13_1,hcz13_2,hfz13_0,hfz13_1,hfz13_2⟩:=blk3 BK2.out)|(go_at_call 58;(with_reducible refine (impl_ApplyValues.calls a0_2 a1_0 a1_1 a1_2 t4 _ A5.out).mono ?_);rintro e w14 ⟨rfl,hb⟩;replace BK1:=yb BK1 hb;replace BK2:=yb BK2 hb;replace HB:=yB HB hb;(try clear hb)))
  repeat (go_quiet (first|(go_at_call 58;(with_reducible refine (impl_ApplyValues.calls a0_1 a1_0 a1_1 a1_2 t3 _ A3.out).mono ?_);rintro e w11 ⟨rfl,hb⟩;replace BK1:=yb BK1 hb;replace BK2:=yb BK2 hb;replace HB:=yB HB hb;(try clear hb);obtain ⟨hcz12_0,hcz12_1,hcz12_2,hcz12_3,hcz12_4,hcz12_5,hcz12_6,hcz12_7,hfz12_0,hfz12_1,hfz12_2,hfz12_3,hfz12_4,hfz12_5,hfz12_6,hfz12_7⟩:=blk8 BK1.out;obtain ⟨hcz13_0,hcz13_1,hcz13_2,hfz13_0,hfz13_1,hfz13_2⟩:=blk3 BK2.out)|(go_at_call 58;(with_reducible refine (impl_ApplyValues.calls a0_2 a1_0 a1_1 a1_2 t4 _ A5.out).mono ?_);rintro e w14 ⟨rfl,hb⟩;replace BK1:=yb BK1 hb;replace BK2:=yb BK2 hb;replace HB:=yB HB hb;(try clear hb)));try go_wp2_with ((((with_reducible refine gate_dst (N:=2) rfl ?_);refine zE (cs:=#[.int .i64 a0_0,.string a0_1,.string a0_2,.int .i64 a0_3,.string a0_4,.slice A0_5 l0_5.length c0_5,.slice A0_6 l0_6.length c0_6,.int .i64 a0_7]) (t:=56) ?_;intro gb1 hg w6 hbox hb;have BK1:=zk hbox;have GW1:=zk (zs (w:=w) hg za8);have GE1:=GW1;replace HB:=yB HB hb;clear hb hbox hg))))
  go_ret
  exact ⟨by (rfl),za8⟩
 rw [if_neg c4] at H
 have c4b0:=zbn c4
 have c4b1:=zqt c4
 by_cases c15:a0_0=2
 ·rw [if_pos c15] at H
  have c15b0:=zbt c15
  have c15b1:=zqn c15
  clear c15
  obtain ⟨t5,A16,H⟩:=zO H
  try dsimp only at H
  obtain rfl:=zi H
  go_wp2_with (first|(go_at_call 58;(with_reducible refine (impl_ApplyValues.calls a0_1 a1_0 a1_1 a1_2 t3 _ A3.out).mono ?_);rintro e w22 ⟨rfl,hb⟩;replace BK1:=yb BK1 hb;replace BK2:=yb BK2 hb;replace HB:=yB HB hb;(try clear hb);obtain ⟨hcz23_0,hcz23_1,hcz23_2,hcz23_3,hcz23_4,hcz23_5,hcz23_6,hcz23_7,hfz23_0,hfz23_1,hfz23_2,hfz23_3,hfz23_4,hfz23_5,hfz23_6,hfz23_7⟩:=blk8 BK1.out;obtain ⟨hcz24_0,hcz24_1,hcz24_2,hfz24_0,hfz24_1,hfz24_2⟩:=blk3 BK2.out)|(go_at_call 58;(with_reducible refine (impl_ApplyValues.calls a0_2 a1_0 a1_1 a1_2 t5 _ A16.out).mono ?_);rintro e w25 ⟨rfl,hb⟩;replace BK1:=yb BK1 hb;replace BK2:=yb BK2 hb;replace HB:=yB HB hb;(try clear hb)))
  repeat (go_quiet (first|(go_at_call 58;(with_reducible refine (impl_ApplyValues.calls a0_1 a1_0 a1_1 a1_2 t3 _ A3.out).mono ?_);rintro e w22 ⟨rfl,hb⟩;replace BK1:=yb BK1 hb;replace BK2:=yb BK2 hb;replace HB:=yB HB hb;(try clear hb);obtain ⟨hcz23_0,hcz23_1,hcz23_2,hcz23_3,hcz23_4,hcz23_5,hcz23_6,hcz23_7,hfz23_0,hfz23_1,hfz23_2,hfz23_3,hfz23_4,hfz23_5,hfz23_6,hfz23_7⟩:=blk8 BK1.out;obtain ⟨hcz24_0,hcz24_1,hcz24_2,hfz24_0,hfz24_1,hfz24_2⟩:=blk3 BK2.out)|(go_at_call 58;(with_reducible refine (impl_ApplyValues.calls a0_2 a1_0 a1_1 a1_2 t5 _ A16.out).mono ?_);rintro e w25 ⟨rfl,hb⟩;replace BK1:=yb BK1 hb;replace BK2:=yb BK2 hb;replace HB:=yB HB hb;(try clear hb)));try go_wp2_with ((((with_reducible refine gate_dst (N:=2) rfl ?_);refine zE (cs:=#[.int .i64 a0_0,.string a0_1,.string a0_2,.int .i64 a0_3,.string a0_4,.slice A0_5 l0_5.length c0_5,.slice A0_6 l0_6.length c0_6,.int .i64 a0_7]) (t:=56) ?_;intro gb1 hg w6 hbox hb;have BK1:=zk hbox;have GW1:=zk (zs (w:=w) hg za8);have GE1:=GW1;replace HB:=yB HB hb;clear hb hbox hg))))
  go_ret
  exact ⟨by (rfl),za8⟩
 rw [if_neg c15] at H
 have c15b0:=zbn c15
 have c15b1:=zqt c15
 by_cases c26:a0_0=3
 ·rw [if_pos c26] at H
  have c26b0:=zbt c26
  have c26b1:=zqn c26
  clear c26
  obtain ⟨t6,A27,H⟩:=zO H
  try dsimp only at H
  obtain rfl:=zi H
  go_wp2_with (first|(go_at_call 58;(with_reducible refine (impl_ApplyValues.calls a0_1 a1_0 a1_1 a1_2 t3 _ A3.out).mono ?_);rintro e w33 ⟨rfl,hb⟩;replace BK1:=yb BK1 hb;replace BK2:=yb BK2 hb;replace HB:=yB HB hb;(try clear hb);obtain ⟨hcz34_0,hcz34_1,hcz34_2,hcz34_3,hcz34_4,hcz34_5,hcz34_6,hcz34_7,hfz34_0,hfz34_1,hfz34_2,hfz34_3,hfz34_4,hfz34_5,hfz34_6,hfz34_7⟩:=blk8 BK1.out)|(go_at_call 59;(with_reducible refine (impl_matches.calls a0_3 a0_4 _ _ l0_5 t3 t6 _ ?side1 ?side2 A27.out).mono ?_);(case side1=>repeat ((exact (Kd.C_below HR0_5.out HB.out))));(case side2=>exact HC0_5.out);rintro e w35 ⟨rfl,hb⟩;replace BK1:=yb BK1 hb;replace BK2:=yb BK2 hb;replace HB:=yB HB hb;(try clear hb)))
  repeat (go_quiet (first|(go_at_call 58;(with_reducible refine (impl_ApplyValues.calls a0_1 a1_0 a1_1 a1_2 t3 _ A3.out).mono ?_);rintro e w33 ⟨rfl,hb⟩;replace BK1:=yb BK1 hb;replace BK2:=yb BK2 hb;replace HB:=yB HB hb;(try clear hb);obtain ⟨hcz34_0,hcz34_1,hcz34_2,hcz34_3,hcz34_4,hcz34_5,hcz34_6,hcz34_7,hfz34_0,hfz34_1,hfz34_2,hfz34_3,hfz34_4,hfz34_5,hfz34_6,hfz34_7⟩:=blk8 BK1.out)|(go_at_call 59;(with_reducible refine (impl_matches.calls a0_3 a0_4 _ _ l0_5 t3 t6 _ ?side1 ?side2 A27.out).mono ?_);(case side1=>repeat ((exact (Kd.C_below HR0_5.out HB.out))));(case side2=>exact HC0_5.out);rintro e w35 ⟨rfl,hb⟩;replace BK1:=yb BK1 hb;replace BK2:=yb BK2 hb;replace HB:=yB HB hb;(try clear hb)));try go_wp2_with ((((with_reducible refine gate_dst (N:=2) rfl ?_);refine zE (cs:=#[.int .i64 a0_0,.string a0_1,.string a0_2,.int .i64 a0_3,.string a0_4,.slice A0_5 l0_5.length c0_5,.slice A0_6 l0_6.length c0_6,.int .i64 a0_7]) (t:=56) ?_;intro gb1 hg w6 hbox hb;have BK1:=zk hbox;have GW1:=zk (zs (w:=w) hg za8);have GE1:=GW1;replace HB:=yB HB hb;clear hb hbox hg))))
  go_ret
  exact ⟨by (rfl),za8⟩
 rw [if_neg c26] at H
 have c26b0:=zbn c26
 have c26b1:=zqt c26
 by_cases c36:a0_0=4
 ·rw [if_pos c36] at H
  have c36b0:=zbt c36
  have c36b1:=zqn c36
  clear c36
  obtain ⟨t7,A37,H⟩:=zO H
  try dsimp only at H
  obtain rfl:=zi H
  go_wp2_with (first|(go_at_call 58;(with_reducible refine (impl_ApplyValues.calls a0_1 a1_0 a1_1 a1_2 t3 _ A3.out).mono ?_);rintro e w43 ⟨rfl,hb⟩;replace BK1:=yb BK1 hb;replace BK2:=yb BK2 hb;replace HB:=yB HB hb;(try clear hb);obtain ⟨hcz44_0,hcz44_1,hcz44_2,hcz44_3,hcz44_4,hcz44_5,hcz44_6,hcz44_7,hfz44_0,hfz44_1,hfz44_2,hfz44_3,hfz44_4,hfz44_5,hfz44_6,hfz44_7⟩:=blk8 BK1.out)|(go_at_call 59;(with_reducible refine (impl_matches.calls a0_3 a0_4 _ _ l0_5 t3 t7 _ ?side1 ?side2 A37.out).mono ?_);(case side1=>repeat ((exact (Kd.C_below HR0_5.out HB.out))));(case side2=>exact HC0_5.out);rintro e w45 ⟨rfl,hb⟩;replace BK1:=yb BK1 hb;replace BK2:=yb BK2 hb;replace HB:=yB HB hb;(try clear hb)))
  repeat (go_quiet (first|(go_at_call 58;(with_reducible refine (impl_ApplyValues.calls a0_1 a1_0 a1_1 a1_2 t3 _ A3.out).mono ?_);rintro e w43 ⟨rfl,hb⟩;replace BK1:=yb BK1 hb;replace BK2:=yb BK2 hb;replace HB:=yB HB hb;(try clear hb);obtain ⟨hcz44_0,hcz44_1,hcz44_2,hcz44_3,hcz44_4,hcz44_5,hcz44_6,hcz44_7,hfz44_0,hfz44_1,hfz44_2,hfz44_3,hfz44_4,hfz44_5,hfz44_6,hfz44_7⟩:=blk8 BK1.out)|(go_at_call 59;(with_reducible refine (impl_matches.calls a0_3 a0_4 _ _ l0_5 t3 t7 _ ?side1 ?side2 A37.out).mono ?_);(case side1=>repeat ((exact (Kd.C_below HR0_5.out HB.out))));(case side2=>exact HC0_5.out);rintro e w45 ⟨rfl,hb⟩;replace BK1:=yb BK1 hb;replace BK2:=yb BK2 hb;replace HB:=yB HB hb;(try clear hb)));try go_wp2_with ((((with_reducible refine gate_dst (N:=2) rfl ?_);refine zE (cs:=#[.int .i64 a0_0,.string a0_1,.string a0_2,.int .i64 a0_3,.string a0_4,.slice A0_5 l0_5.length c0_5,.slice A0_6 l0_6.length c0_6,.int .i64 a0_7]) (t:=56) ?_;intro gb1 hg w6 hbox hb;have BK1:=zk hbox;have GW1:=zk (zs (w:=w) hg za8);have GE1:=GW1;replace HB:=yB HB hb;clear hb hbox hg))))
  go_ret
  exact ⟨by (rfl),za8⟩
 rw [if_neg c36] at H
 have c36b0:=zbn c36
 have c36b1:=zqt c36
 by_cases c46:0 < (l0_6.length:Int)
 rw [if_pos c46] at H
 have c46b0:=zdl c46
 have c46b1:decide (0 < l0_6.length)=true:=decide_eq_true (by omega)
 clear c46
 by_cases c47:1 < (l0_6.length:Int)
 rw [if_pos c47] at H
 have c47b0:=zdl c47
 have c47b1:decide (1 < l0_6.length)=true:=decide_eq_true (by omega)
 clear c47
 by_cases c48:2 < (l0_6.length:Int)
 ·rw [if_pos c48] at H
  have c48b0:=zdl c48
  have c48b1:decide (2 < l0_6.length)=true:=decide_eq_true (by omega)
  clear c48
  obtain rfl:=zi H
  go_wp2_with (((go_at_call 58;(with_reducible refine (impl_ApplyValues.calls a0_1 a1_0 a1_1 a1_2 t3 _ A3.out).mono ?_);rintro e w54 ⟨rfl,hb⟩;replace BK1:=yb BK1 hb;replace BK2:=yb BK2 hb;replace HB:=yB HB hb;(try clear hb);obtain ⟨hcz55_0,hcz55_1,hcz55_2,hcz55_3,hcz55_4,hcz55_5,hcz55_6,hcz55_7,hfz55_0,hfz55_1,hfz55_2,hfz55_3,hfz55_4,hfz55_5,hfz55_6,hfz55_7⟩:=blk8 BK1.out;have p31008:0≤(0:Int):=(by omega);have q31008:0 < (l0_6.length:Int):=of_decide_eq_true za25;obtain ⟨ad31008,e31008,hx31008_0⟩:=Kd.at_int HR0_6.out 0 p31008 q31008;cases e31008;have qi31008:(0 < l0_6.length)=True:=eq_true (by omega);(try rw [show ((0:Int)).toNat=0 from rfl] at hx31008_0);(try rw [Addr.add_zero'] at hx31008_0);replace hx31008_0:=zx HB.out hx31008_0;replace p31008:=eq_true p31008;replace q31008:=eq_true q31008;obtain ⟨hcz56_0,hcz56_1,hcz56_2,hfz56_0,hfz56_1,hfz56_2⟩:=blk3 BK2.out;have p31009:0≤(1:Int):=(by omega);have q31009:1 < (l0_6.length:Int):=of_decide_eq_true za25;obtain ⟨ad31009,e31009,hx31009_0⟩:=Kd.at_int HR0_6.out 1 p31009 q31009;obtain rfl:ad31008=ad31009:=(by injection e31009);(try simp only [show (1:Int).toNat=1 from rfl,Nat.reduceMul,Nat.reduceEqDiff,Go.Addr.add,↓reduceIte] at hx31009_0);have qi31009:(1 < l0_6.length)=True:=eq_true (by omega);(try rw [show ((1:Int)).toNat=1 from rfl] at hx31009_0);replace hx31009_0:=zx HB.out hx31009_0;replace p31009:=eq_true p31009;replace q31009:=eq_true q31009;have p31010:0≤(2:Int):=(by omega);have q31010:2 < (l0_6.length:Int):=of_decide_eq_true za25;obtain ⟨ad31010,e31010,hx31010_0⟩:=Kd.at_int HR0_6.out 2 p31010 q31010;obtain rfl:ad31008=ad31010:=(by injection e31010);(try simp only [show (2:Int).toNat=2 from rfl,Nat.reduceMul,Nat.reduceEqDiff,Go.Addr.add,↓reduceIte] at hx31010_0);have qi31010:(2 < l0_6.length)=True:=eq_true (by omega);(try rw [show ((2:Int)).toNat=2 from rfl] at hx31010_0);replace hx31010_0:=zx HB.out hx31010_0;replace p31010:=eq_true p31010;replace q31010:=eq_true q31010)))
  repeat (go_quiet (((go_at_call 58;(with_reducible refine (impl_ApplyValues.calls a0_1 a1_0 a1_1 a1_2 t3 _ A3.out).mono ?_);rintro e w54 ⟨rfl,hb⟩;replace BK1:=yb BK1 hb;replace BK2:=yb BK2 hb;replace HB:=yB HB hb;(try clear hb);obtain ⟨hcz55_0,hcz55_1,hcz55_2,hcz55_3,hcz55_4,hcz55_5,hcz55_6,hcz55_7,hfz55_0,hfz55_1,hfz55_2,hfz55_3,hfz55_4,hfz55_5,hfz55_6,hfz55_7⟩:=blk8 BK1.out;have p31008:0≤(0:Int):=(by omega);have q31008:0 < (l0_6.length:Int):=of_decide_eq_true za25;obtain ⟨ad31008,e31008,hx31008_0⟩:=Kd.at_int HR0_6.out 0 p31008 q31008;cases e31008;have qi31008:(0 < l0_6.length)=True:=eq_true (by omega);(try rw [show ((0:Int)).toNat=0 from rfl] at hx31008_0);(try rw [Addr.add_zero'] at hx31008_0);replace hx31008_0:=zx HB.out hx31008_0;replace p31008:=eq_true p31008;replace q31008:=eq_true q31008;obtain ⟨hcz56_0,hcz56_1,hcz56_2,hfz56_0,hfz56_1,hfz56_2⟩:=blk3 BK2.out;have p31009:0≤(1:Int):=(by omega);have q31009:1 < (l0_6.length:Int):=of_decide_eq_true za25;obtain ⟨ad31009,e31009,hx31009_0⟩:=Kd.at_int HR0_6.out 1 p31009 q31009;obtain rfl:ad31008=ad31009:=(by injection e31009);(try simp only [show (1:Int).toNat=1 from rfl,Nat.reduceMul,Nat.reduceEqDiff,Go.Addr.add,↓reduceIte] at hx31009_0);have qi31009:(1 < l0_6.length)=True:=eq_true (by omega);(try rw [show ((1:Int)).toNat=1 from rfl] at hx31009_0);replace hx31009_0:=zx HB.out hx31009_0;replace p31009:=eq_true p31009;replace q31009:=eq_true q31009;have p31010:0≤(2:Int):=(by omega);have q31010:2 < (l0_6.length:Int):=of_decide_eq_true za25;obtain ⟨ad31010,e31010,hx31010_0⟩:=Kd.at_int HR0_6.out 2 p31010 q31010;obtain rfl:ad31008=ad31010:=(by injection e31010);(try simp only [show (2:Int).toNat=2 from rfl,Nat.reduceMul,Nat.reduceEqDiff,Go.Addr.add,↓reduceIte] at hx31010_0);have qi31010:(2 < l0_6.length)=True:=eq_true (by omega);(try rw [show ((2:Int)).toNat=2 from rfl] at hx31010_0);replace hx31010_0:=zx HB.out hx31010_0;replace p31010:=eq_true p31010;replace q31010:=eq_true q31010)));try go_wp2_with ((((with_reducible refine gate_dst (N:=2) rfl ?_);refine zE (cs:=#[.int .i64 a0_0,.string a0_1,.string a0_2,.int .i64 a0_3,.string a0_4,.slice A0_5 l0_5.length c0_5,.slice A0_6 l0_6.length c0_6,.int .i64 a0_7]) (t:=56) ?_;intro gb1 hg w6 hbox hb;have BK1:=zk hbox;have GW1:=zk (zs (w:=w) hg za8);have GE1:=GW1;replace HB:=yB HB hb;clear hb hbox hg))))
  go_ret
  exact ⟨by (rfl),za8⟩
 ·rw [if_neg c48] at H
  exact absurd H (by simp)
 ·rw [if_neg c47] at H
  exact absurd H (by simp)
 ·rw [if_neg c46] at H
  exact absurd H (by simp)
end Go.Proofs.YtcbjhfoeecfcoaaGreat.A
-- ALSO loop.example/g00582/impl.IsValidConstraint
namespace Go.Proofs.YtcbjhfoeecfcoaaGreat.Ext
open Go.RowKit YtcbjhfoeecfcoaaGreatW.PrintWords YtcbjhfoeecfcoaaGreatW.PrintLast YtcbjhfoeecfcoaaGreat.A
def ClC (w:World) (l:List S56) (p:Nat→Bool) (g:Nat) (lb:Array Value):Prop :=
 ∀ (i:Nat) (h:i < l.length) (A5:Option Addr) (c5:Nat) (A6:Option Addr) (c6:Nat) (W:World),Below w.heap.size w W→l[i].f3.f2.length≤c5→Kd.C k54 w A5 l[i].f3.f2.length l[i].f3.f2→l[i].f4.length≤c6→(Kd.int .i64).C w A6 l[i].f4.length l[i].f4 →
  Calls Tryz.prog g (#[.agg #[.int .i64 l[i].f0,.string l[i].f1,.string l[i].f2,.int .i64 l[i].f3.f0,.string l[i].f3.f1,.slice A5 l[i].f3.f2.length c5,.slice A6 l[i].f4.length c6,.int .i64 l[i].f5]] ++ lb) W fun e W'=>e = .returned (.bool (p i))∧Below W.heap.size W W'
theorem cs_at {w0 W:World} {A:Option Addr} {l:List S56} (hC:Kd.C k56 w0 A l.length l) (hB:Below w0.heap.size w0 W) (i:Nat) (hi:i < l.length) :
  ∃ ad A5 c5 A6 c6,A=some ad∧W.cell? (ad.add (i * 8))=some (.int .i64 l[i].f0)∧W.cell? ⟨(ad.add (i * 8)).block,(ad.add (i * 8)).off+1,none⟩=some (.string l[i].f1)∧W.cell? ⟨(ad.add (i * 8)).block,(ad.add (i * 8)).off+2,none⟩=some (.string l[i].f2)∧W.cell? ⟨(ad.add (i * 8)).block,(ad.add (i * 8)).off+3,none⟩=some (.int .i64 l[i].f3.f0)∧W.cell? ⟨(ad.add (i * 8)).block,(ad.add (i * 8)).off+4,none⟩=some (.string l[i].f3.f1)∧W.cell? ⟨(ad.add (i * 8)).block,(ad.add (i * 8)).off+5,none⟩=some (.slice A5 l[i].f3.f2.length c5)∧W.cell? ⟨(ad.add (i * 8)).block,(ad.add (i * 8)).off+6,none⟩=some (.slice A6 l[i].f4.length c6)∧W.cell? ⟨(ad.add (i * 8)).block,(ad.add (i * 8)).off+7,none⟩=some (.int .i64 l[i].f5)∧l[i].f3.f2.length≤c5∧Kd.C k54 w0 A5 l[i].f3.f2.length l[i].f3.f2∧l[i].f4.length≤c6∧(Kd.int .i64).C w0 A6 l[i].f4.length l[i].f4:=by
 obtain ⟨ad,A5,c5,A6,c6,e,h0,h1,h2,h3,h4,h5,h6,h7,g1,g2,g3,g4⟩:=at_T56 hC (i:Int) (by omega) (by omega)
 have he:rd_T56 l (i:Int)=l[i]:=by simp [rd_T56,hi]
 rw [he] at h0 h1 h2 h3 h4 h5 h6 h7 g1 g2 g3 g4
 rw [Int.toNat_natCast] at h0 h1 h2 h3 h4 h5 h6 h7
 have up:∀ {a:Addr} {v:Value},w0.cell? a=some v→W.cell? a=some v:=fun h=>(hB.cell (World.block_lt_of_cell? w0 _ h)).trans h
 exact ⟨ad,A5,c5,A6,c6,e,up h0,up h1,up h2,up h3,up h4,up h5,up h6,up h7,g1,g2,g3,g4⟩
set_option maxHeartbeats 2000000 in
theorem idx_cs (p:Nat→Bool) (g:Nat) (lb:Array Value) (eg:∀ args w,(callFunc g args).run Tryz.prog w = .ok (.enter g args) w) (A:Option Addr) (l:List S56) (c:Nat) (w:World) (hn:l.length≤9223372036854775806) (hC:Kd.C k56 w A l.length l) (hcl:ClC w l p g lb) :
  Calls Tryz.prog 57 #[.slice A l.length c,.func (.func g) #[] lb] w fun e w'=>e = .returned (.int .i64 (idxN p l.length))∧Below w.heap.size w w':=by
 have HC:=zk hC
 have HCL:=zk hcl
 have HB0:=zk (Below.refl w.heap.size w)
 clear hC hcl
 go_enter Tryz.func57,Tryz.ntmps57
 go_wp2
 go_loopg [8] l.length (fun gk v wr=>∃ (x:Nat),v = .int .i64 (x:Int)∧Aside0 (x+gk=l.length)∧Aside0 (∀ j:Nat,j < x→p j=false)∧Aside0 (Below w.heap.size w wr))
 case atStart=>exact ⟨0,rfl,⟨by omega⟩,⟨fun j hj=>by omega⟩,⟨by first|exact HB0.out|exact below_drew HB0.out|exact pw_below_drewN HB0.out _⟩⟩
 case round =>
  obtain ⟨x,rfl,HK,HT,HB⟩:=hrel
  by_cases hlt:x < l.length
  ·obtain ⟨ad,A5,c5,A6,c6,hA,e0,e1,e2,e3,e4,e5,e6,e7,g1,g2,g3,g4⟩:=cs_at HC.out HB.out x hlt
   have HCA:=zk (HCL.out x hlt A5 c5 A6 c6 wr HB.out g1 g2 g3 g4)
   have c4b0:decide (x < l.length)=true:=decide_eq_true hlt
   have HLT:=zk hlt
   have q4:=eq_true hlt
   generalize l[x]=lx at *
   subst hA
   clear hlt g1 g2 g3 g4
   cases hp:p x with
   | true =>
    have HP:=zk hp
    rw [hp] at HCA
    clear hp
    go_wp2_with (go_at_fn g;refine HCA.out.mono ?_;rintro e w2 ⟨rfl,hb2⟩;have B2:=zk (below_step HB.out hb2);clear hb2)
    go_ret
    exact ⟨congrArg (fun i=>Ending.returned (Value.int .i64 i)) (idxN_hit p l.length x HLT.out HT.out HP.out).symm,B2.out⟩
   | false =>
    have HP:=zk hp
    rw [hp] at HCA
    clear hp
    cases gk with
    | zero=>exact absurd HK.out (by have:=HLT.out;omega)
    | succ k1 =>
     go_wp2_with (go_at_fn g;refine HCA.out.mono ?_;rintro e w2 ⟨rfl,hb2⟩;have B2:=zk (below_step HB.out hb2);clear hb2)
     have hw:wrap64 ((x:Int)+1)=((x+1:Nat):Int):=by have:=HLT.out;unfold wrap64;omega
     go_roundg k1
     case measure=>omega
     case rel =>
      refine ⟨x+1,by first|rfl|exact congrArg (Value.int IntKind.i64) hw|(simp [*];done),⟨by have:=HK.out;omega⟩,⟨fun j hj=>?_⟩,B2⟩
      by_cases e:j < x
      ·exact HT.out j e
      ·obtain rfl:j=x:=by omega
       exact HP.out
  ·have c4b0:decide (x < l.length)=false:=decide_eq_false hlt
   have hx:x=l.length:=by have:=HK.out;omega
   have HE:=zk (idxN_miss p l.length (fun j hj=>HT.out j (by omega)))
   clear hlt hx
   go_wp2
   go_ret
   exact ⟨congrArg (fun i=>Ending.returned (Value.int .i64 i)) HE.out.symm,HB.out⟩
set_option maxHeartbeats 1000000 in
theorem any_cs (p:Nat→Bool) (g:Nat) (lb:Array Value) (eg:∀ args w,(callFunc g args).run Tryz.prog w = .ok (.enter g args) w) (A:Option Addr) (l:List S56) (c:Nat) (w:World) (hn:l.length≤9223372036854775806) (hC:Kd.C k56 w A l.length l) (hcl:ClC w l p g lb) :
  Calls Tryz.prog 29 #[.slice A l.length c,.func (.func g) #[] lb] w fun e w'=>e = .returned (.bool (anyN p l.length))∧Below w.heap.size w w':=by
 have HI:=zk (idx_cs p g lb eg A l c w hn hC hcl)
 have HR:=zk (anyN_idx p l.length)
 clear hC hcl
 go_enter Tryz.func29,Tryz.ntmps29
 go_wp2_with (go_at_call 57;refine HI.out.mono ?_;generalize idxN p l.length=m at HR;rintro e w' ⟨rfl,hb⟩)
 go_ret
 exact ⟨congrArg (fun b=>Ending.returned (Value.bool b)) HR.out,hb⟩
def anyO (f:S56→Option Bool) (l:List S56):Option Bool:=if (l.all fun c=>(f c).isSome)=true then some (l.any fun c=>f c == some true) else none
theorem anyO_at {f:S56→Option Bool} {l:List S56} {r:Bool} (h:anyO f l=some r):anyN (fun i=>(l[i]?.map fun c=>f c == some true).getD false) l.length=r∧∀ (i:Nat) (hi:i < l.length),f l[i]=some ((l[i]?.map fun c=>f c == some true).getD false):=by
 unfold anyO at h
 split at h
 ·next ha =>
  rw [List.all_eq_true] at ha
  refine ⟨?_,fun i hi=>?_⟩
  ·rw [← zi h]
   unfold anyN
   rw [Bool.eq_iff_iff,List.any_eq_true,List.any_eq_true]
   constructor
   ·rintro ⟨i,hi,e⟩
    rw [List.mem_range] at hi
    rw [List.getElem?_eq_getElem hi] at e
    exact ⟨l[i],List.getElem_mem hi,e⟩
   ·rintro ⟨x,hx,e⟩
    obtain ⟨i,hi,rfl⟩:=List.getElem_of_mem hx
    exact ⟨i,List.mem_range.2 hi,by rw [List.getElem?_eq_getElem hi];exact e⟩
  ·have:=ha l[i] (List.getElem_mem hi)
   rw [List.getElem?_eq_getElem hi]
   cases hf:f l[i] with
   | none=>rw [hf] at this;cases this
   | some b=>simp only [Option.map_some,Option.getD_some,hf];cases b <;> rfl
 ·cases h
def notValid (k:Nat) (c:S56):Option Bool:=(impl_IsValidConstraint.f k c.f0 c.f1 c.f2 c.f3.f0 c.f3.f1 c.f3.f2 c.f4 c.f5).bind fun t=>some (!t)
set_option maxHeartbeats 1000000 in
theorem clo_valid (k:Nat) (x:S56) (r:Bool) (h:notValid k x=some r) (A5:Option Addr) (c5:Nat) (A6:Option Addr) (c6:Nat) (W:World) (g1:x.f3.f2.length≤c5) (g2:Kd.C k54 W A5 x.f3.f2.length x.f3.f2) (g3:x.f4.length≤c6) (g4:(Kd.int .i64).C W A6 x.f4.length x.f4) :
  Calls Tryz.prog 45 #[.agg #[.int .i64 x.f0,.string x.f1,.string x.f2,.int .i64 x.f3.f0,.string x.f3.f1,.slice A5 x.f3.f2.length c5,.slice A6 x.f4.length c6,.int .i64 x.f5]] W fun e W'=>e = .returned (.bool r)∧Below W.heap.size W W':=by
 obtain ⟨t,ht,hr⟩:=zo h
 obtain rfl:=zi hr
 have HV:=zk (fun (W':World) (hB:Below W.heap.size W W')=>impl_IsValidConstraint.calls k x.f0 x.f1 x.f2 x.f3.f0 x.f3.f1 A5 c5 x.f3.f2 A6 c6 x.f4 x.f5 t W' (Kd.C_below g2 hB) g1 (Kd.C_below g4 hB) g3 ht)
 have HB:=zk (Below.refl W.heap.size W)
 obtain ⟨f0,f1,f2,⟨d,e,l⟩,f4,f5⟩:=x
 simp only at HV ⊢
 clear g1 g2 g3 g4 h ht hr
 go_enter Tryz.func45,Tryz.ntmps45
 go_wp2_with (first
  | ((with_reducible refine gate_dst (N:=1) rfl ?_);refine zE (cs:=#[.int .i64 f0,.string f1,.string f2,.int .i64 d,.string e,.slice A5 l.length c5,.slice A6 f4.length c6,.int .i64 f5]) (t:=56) ?_;intro gr hgr w3 hbox hb3;have X3:=zk hbox;have B3:=zk (below_step HB.out hb3);obtain ⟨y0,y1,y2,y3,y4,y5,y6,y7,q0,q1,q2,q3,q4,q5,q6,q7⟩:=blk8 hbox;clear hb3 hbox hgr)
  | (go_at_call 46;(with_reducible refine (HV.out _ (by first|exact B3.out|exact pw_below_drewN B3.out _|exact below_drew B3.out|exact HB.out)).mono ?_);rintro e w2 ⟨rfl,hb2⟩;have B2:=zk (show Below W.heap.size W w2 by first|exact below_step B3.out hb2|exact below_step HB.out hb2);clear hb2))
 go_ret
 exact ⟨za93,by first|exact B2.out|exact B3.out⟩
-- EXT loop.example/g582/impl.IsValidProblem rounds making
def impl_IsValidProblem.f (k:Nat) (l0_0:List S56):Option Bool:=if l0_0.length≤6 then (anyO (notValid k) l0_0).bind fun t=>some (!t) else some false
set_option maxHeartbeats 1000000 in
theorem impl_IsValidProblem.calls (k:Nat) (A0_0:Option Addr) (c0_0:Nat) (l0_0:List S56) (r:Bool) (w:World) (hr0_0:Kd.C k56 w A0_0 l0_0.length l0_0) (hc0_0:l0_0.length≤c0_0) (h:impl_IsValidProblem.f k l0_0=some r) :
  Calls Tryz.prog 17 #[.agg #[.slice A0_0 l0_0.length c0_0]] w fun e w'=>e = .returned (.bool r)∧Below w.heap.size w w':=by
 have HB:=zk (Below.refl w.heap.size w)
 have HR:=zk hr0_0
 have HH:=zk h
 generalize hn:l0_0.length=n at *
 have HN:=zk hn
 clear hr0_0 hc0_0 h hn
 go_enter Tryz.func17,Tryz.ntmps17
 go_upto_region 1 with (first
  | ((with_reducible refine gate_dst (N:=1) rfl ?_);refine zE (cs:=#[.slice A0_0 n c0_0]) (t:=26) ?_;intro gr hgr w3 hbox hb3;have X3:=zk hbox;have B3:=zk (below_step HB.out hb3);clear hb3 hbox hgr))
 obtain ⟨y0,g0⟩:=blk1 X3.out
 by_cases h6:n≤6
 ·have hd6:decide (n≤6)=true:=decide_eq_true h6
  have hd7:decide ((n:Int)≤6)=true:=decide_eq_true (by omega)
  have hf:=HH.out
  unfold impl_IsValidProblem.f at hf
  rw [HN.out,if_pos h6] at hf
  obtain ⟨t,ht,hr⟩:=zo hf
  obtain rfl:=zi hr
  obtain ⟨a1,a2⟩:=anyO_at ht
  rw [HN.out] at a1
  have CC:=any_cs _ 45 #[] (enters_of Tryz.func45 (by kernel_rfl) rfl) A0_0 l0_0 c0_0 w3 (by rw [HN.out];omega) (Kd.C_below (by rw [HN.out];exact HR.out) B3.out) (fun i hi A5 c5 A6 c6 W hB g1 g2 g3 g4=>clo_valid k l0_0[i] _ (a2 i hi) A5 c5 A6 c6 W g1 (Kd.C_below g2 hB) g3 (Kd.C_below g4 hB))
  rw [HN.out,a1] at CC
  have HCC:=zk CC
  clear CC a1 a2 ht hr hf h6
  go_wp2_with (go_at_call 29;(with_reducible refine HCC.out.mono ?_);rintro e w2 ⟨rfl,hb2⟩;have B2:=zk (below_step B3.out hb2);clear hb2)
  go_ret
  exact ⟨za93,B2.out⟩
 ·have hd6:decide (n≤6)=false:=decide_eq_false h6
  have hd7:decide ((n:Int)≤6)=false:=decide_eq_false (by omega)
  have hf:=HH.out
  unfold impl_IsValidProblem.f at hf
  rw [HN.out,if_neg h6] at hf
  obtain rfl:=zi hf
  clear h6 hf
  go_wp2
  go_ret
  exact ⟨za93,B3.out⟩
end Go.Proofs.YtcbjhfoeecfcoaaGreat.Ext
namespace Go.Proofs.YtcbjhfoeecfcoaaGreat.A
open Go.RowKit YtcbjhfoeecfcoaaGreat.Ext YtcbjhfoeecfcoaaGreatW.PrintWords YtcbjhfoeecfcoaaGreatW.PrintLast YtcbjhfoeecfcoaaGreatW.PrintMore
attribute [local go_sem] max2_int min2_int max_two min_two max_three min_three max_four min_four
def impl_VarsOfProblem.l0:Nat→ByteArray→List (S56)→Int→Int→Option (ByteArray)
 | 0,_,_,_,_=>none
 | k+1,x3,x10,x11,x12=>if x12 < x11 then (if 0≤x12 then (if x12 < (x10.length:Int) then ((impl_VarsOfConstraint.f k ((rd_T56 x10 x12).f0) ((rd_T56 x10 x12).f1) ((rd_T56 x10 x12).f2) ((rd_T56 x10 x12).f3.f0) ((rd_T56 x10 x12).f3.f1) ((rd_T56 x10 x12).f3.f2) ((rd_T56 x10 x12).f4) ((rd_T56 x10 x12).f5)).bind fun t18005=>(if x3.size+t18005.size≤9223372036854775807 then (impl_VarsOfProblem.l0 k (x3 ++ t18005) x10 x11 (wrap64 (x12+1))) else (none))) else (none)) else (none)) else ((impl_VarsOf.f k x3).bind fun t18006=>(some t18006))
def impl_VarsOfProblem.f (k:Nat) (l0_0:List (S56)):Option (ByteArray):=(impl_IsValidProblem.f k l0_0).bind fun t18002=>(if t18002=true then (impl_VarsOfProblem.l0 k (⟨#[]⟩:ByteArray) l0_0 (l0_0.length:Int) 0) else (some (⟨#[]⟩:ByteArray)))
theorem impl_VarsOfProblem.calls (k:Nat) (A0_0:Option Addr) (c0_0:Nat) (l0_0:List (S56)) (r:ByteArray) (w:World) (hr0_0:Kd.C k56 w A0_0 l0_0.length l0_0) (hc0_0:l0_0.length≤c0_0) (h:impl_VarsOfProblem.f k l0_0=some r) :
  Calls Tryz.prog 18 #[.agg #[.slice A0_0 l0_0.length c0_0]] w fun e w'=>e = .returned (.string r)∧Below w.heap.size w w':=by
 have hu26:=Tryz.underlying26
 have hu56:=Tryz.underlying56
 have HR0_0:=zk hr0_0
 have HC0_0:=zk hc0_0
 clear hr0_0 hc0_0
 have HB:=zk (Below.refl w.heap.size w)
 have H:=h
 unfold impl_VarsOfProblem.f at H
 clear h
 go_enter Tryz.func18,Tryz.ntmps18
 go_upto_region 1 with ((((with_reducible refine gate_dst (N:=1) rfl ?_);refine zE (cs:=#[.slice A0_0 l0_0.length c0_0]) (t:=26) ?_;intro gb1 hg w4 hbox hb;have BK1:=zk hbox;have GW1:=zk (zs (w:=w) hg za10);have GE1:=GW1;replace HB:=yB HB hb;clear hb hbox hg;obtain ⟨hcz5_0,hfz5_0⟩:=blk1 BK1.out)))
 obtain ⟨t2,A2,H⟩:=zO H
 try dsimp only at H
 by_cases c3:t2=true
 ·subst c3
  rw [if_pos rfl] at H
  try dsimp only at H
  have H':=zk H
  clear H
  go_wp2_with ((((with_reducible refine gate_callee (f:=17) rfl ?_);refine zg (some 7) Tryz.func17 #[.agg #[.slice A0_0 l0_0.length c0_0]] rfl za11 ?_;(with_reducible refine (impl_IsValidProblem.calls k _ _ l0_0 _ _ ?side1 ?side2 A2.out).mono ?_);(case side1=>repeat ((exact (Kd.C_below HR0_0.out HB.out))));(case side2=>exact HC0_0.out);rintro e w6 ⟨rfl,hb⟩;refine ⟨_,rfl,?_⟩;replace BK1:=yb BK1 hb;replace HB:=yB HB hb;(try clear hb);obtain ⟨hcz7_0,hfz7_0⟩:=blk1 BK1.out)))
  try simp only [Act.put,zt,zv,zu]
  go_loopg [3,12] k (fun kq v3 v12 w'=>∃ (x3_1:ByteArray) (x12_1:Int),v3 = .string x3_1∧v12 = .int .i64 x12_1∧Aside0 (impl_VarsOfProblem.l0 kq x3_1 l0_0 (l0_0.length:Int) x12_1=some r)∧Aside0 (kq≤k)∧Aside0 (w'.heap[gb1]? = some (.cells #[(.slice A0_0 l0_0.length c0_0)] 26 (0,0)))∧Aside0 (Below w.heap.size w w'))
  case atStart=>exact ⟨((⟨#[]⟩:ByteArray)),(0),(by (rfl)),(by (rfl)),H',⟨Nat.le_refl _⟩,⟨za3 BK1.out⟩,⟨za10⟩⟩
  case round =>
   clear H'
   try clear c3
   try clear hcz5_0
   try clear hcz7_0
   try clear hfz5_0
   try clear hfz7_0
   obtain ⟨x3_1,x12_1,rfl,rfl,HA,HK1,BK1,HB⟩:=hrel
   cases gk with
   | zero=>exact absurd HA.out (by simp [impl_VarsOfProblem.l0])
   | succ k1 =>
    have H:=HA.out
    clear HA
    simp only [impl_VarsOfProblem.l0] at H
    by_cases c8:x12_1 < (l0_0.length:Int)
    rw [if_pos c8] at H
    have c8b0:=zdl c8
    clear c8
    by_cases c9:0≤x12_1
    rw [if_pos c9] at H
    have c9b0:=zdle c9
    clear c9
    by_cases c10:x12_1 < (l0_0.length:Int)
    rw [if_pos c10] at H
    have c10b0:=zdl c10
    clear c10
    obtain ⟨t5,A11,H⟩:=zO H
    try dsimp only at H
    by_cases c12:x3_1.size+t5.size≤9223372036854775807
    rw [if_pos c12] at H
    have c12z:=c12
    try simp at c12z
    try replace c12z:=eq_false (Nat.not_lt.2 c12z)
    have c12b0:=eq_true c12
    have c12b1:=zdle c12
    try have c12b2:(9223372036854775807 < x3_1.size+t5.size)=False:=eq_false (Nat.not_lt.2 c12)
    have H':=zk H
    clear H
    have p18003:0≤(x12_1:Int):=of_decide_eq_true za25
    have q18003:x12_1 < (l0_0.length:Int):=of_decide_eq_true za25
    obtain ⟨ad18003,A18003_5,c18003_5,A18003_6,c18003_6,e18003,hx18003_0,hx18003_1,hx18003_2,hx18003_3,hx18003_4,hx18003_5,hx18003_6,hx18003_7,hl18003_5,hi18003_5,hl18003_6,hi18003_6⟩:=at_T56 HR0_0.out x12_1 p18003 q18003
    cases e18003
    replace hx18003_0:=zx HB.out hx18003_0
    replace hx18003_1:=zx HB.out hx18003_1
    replace hx18003_2:=zx HB.out hx18003_2
    replace hx18003_3:=zx HB.out hx18003_3
    replace hx18003_4:=zx HB.out hx18003_4
    replace hx18003_5:=zx HB.out hx18003_5
    replace hx18003_6:=zx HB.out hx18003_6
    replace hx18003_7:=zx HB.out hx18003_7
    have HR18003_5:=zk hi18003_5
    have HC18003_5:=zk hl18003_5
    clear hi18003_5 hl18003_5
    have HR18003_6:=zk hi18003_6
    have HC18003_6:=zk hl18003_6
    clear hi18003_6 hl18003_6
    replace p18003:=eq_true p18003
    replace q18003:=eq_true q18003
    have fin0_:=zk trivial
    rotate_left
    · rw [if_neg c12] at H
      exact absurd H (by simp)
    · rw [if_neg c10] at H
      exact absurd H (by simp)
    · rw [if_neg c9] at H
      exact absurd H (by simp)
    rw [if_neg c8] at H
    have c8b0:=zdnl c8
    clear c8
    obtain ⟨t6,A17,H⟩:=zO H
    try dsimp only at H
    obtain rfl:=zi H
    have fin1_:=zk trivial
    rotate_left
    all_goals
     go_wp2_with (first|((with_reducible refine gate_dst (N:=5) rfl ?_);refine zE (cs:=#[.int .i64 0,.string ⟨#[]⟩,.string ⟨#[]⟩,.int .i64 0,.string ⟨#[]⟩,.slice none 0 0,.slice none 0 0,.int .i64 0]) (t:=56) ?_;intro gb4 hg w13 hbox hb;have BK4:=zk hbox;have GW4:=zk (zs (w:=w) hg za10);have GE4:=GW4;have NB1_4:=yn hg BK1;have NB4_1:=yp hg BK1;replace BK1:=yb BK1 hb;replace HB:=yB HB hb;clear hb hbox hg;have hnb14:=NB4_1.out;have hnc14:=NB1_4.out;obtain ⟨hcz15_0,hcz15_1,hcz15_2,hcz15_3,hcz15_4,hcz15_5,hcz15_6,hcz15_7,hfz15_0,hfz15_1,hfz15_2,hfz15_3,hfz15_4,hfz15_5,hfz15_6,hfz15_7⟩:=blk8 BK4.out)|((with_reducible refine gate_callee (f:=47) rfl ?_);refine zg (some 18) Tryz.func47 #[.agg #[.int .i64 ((rd_T56 l0_0 x12_1).f0),.string ((rd_T56 l0_0 x12_1).f1),.string ((rd_T56 l0_0 x12_1).f2),.int .i64 ((rd_T56 l0_0 x12_1).f3.f0),.string ((rd_T56 l0_0 x12_1).f3.f1),.slice A18003_5 ((rd_T56 l0_0 x12_1).f3.f2).length c18003_5,.slice A18003_6 ((rd_T56 l0_0 x12_1).f4).length c18003_6,.int .i64 ((rd_T56 l0_0 x12_1).f5)]] rfl za11 ?_;(with_reducible refine (impl_VarsOfConstraint.calls k1 ((rd_T56 l0_0 x12_1).f0) ((rd_T56 l0_0 x12_1).f1) ((rd_T56 l0_0 x12_1).f2) ((rd_T56 l0_0 x12_1).f3.f0) ((rd_T56 l0_0 x12_1).f3.f1) _ _ ((rd_T56 l0_0 x12_1).f3.f2) _ _ ((rd_T56 l0_0 x12_1).f4) ((rd_T56 l0_0 x12_1).f5) t5 _ ?side1 ?side2 ?side3 ?side4 A11.out).mono ?_);(case side1=>exact Kd.C_below HR18003_5.out za10);(case side2=>exact HC18003_5.out);(case side3=>exact Kd.C_below HR18003_6.out za10);(case side4=>exact HC18003_6.out);rintro e w16 ⟨rfl,hb⟩;refine ⟨_,rfl,?_⟩;replace BK1:=zk (blk_below (g:=gb1) (o:=.cells #[.slice (some ad18003) l0_0.length c0_0] 26 (0,0)) (zpw BK1.out) hb);replace BK4:=zk (blk_below (g:=gb4) (o:=.cells #[.int .i64 ((rd_T56 l0_0 x12_1).f0),.string ((rd_T56 l0_0 x12_1).f1),.string ((rd_T56 l0_0 x12_1).f2),.int .i64 ((rd_T56 l0_0 x12_1).f3.f0),.string ((rd_T56 l0_0 x12_1).f3.f1),.slice A18003_5 ((rd_T56 l0_0 x12_1).f3.f2).length c18003_5,.slice A18003_6 ((rd_T56 l0_0 x12_1).f4).length c18003_6,.int .i64 ((rd_T56 l0_0 x12_1).f5)] 56 (0,0)) (zpu BK4.out) hb);replace HB:=yB HB hb;(try clear hb))|((with_reducible refine gate_callee (f:=48) rfl ?_);refine zg (some 22) Tryz.func48 #[.string x3_1] rfl za11 ?_;(with_reducible refine (impl_VarsOf.calls k1 x3_1 t6 _ A17.out).mono ?_);rintro e w' ⟨rfl,⟨nd,rfl⟩⟩;refine ⟨_,rfl,?_⟩))
     first
     | (
       clear fin0_
       go_roundg k1
       case measure=>have:=HK1.out;omega
       case rel=>exact ⟨(x3_1 ++ t5),(wrap64 (x12_1+1)),za23,za23,H',⟨za43⟩,⟨za0 BK1.out⟩,⟨za9⟩⟩)
     | (
       clear fin1_
       go_ret
       exact ⟨by (rfl),za10⟩)
 ·replace c3:=Bool.eq_false_iff.mpr c3
  subst c3
  rw [if_neg zff] at H
  try dsimp only at H
  obtain rfl:=zi H
  go_wp2_with ((((with_reducible refine gate_callee (f:=17) rfl ?_);refine zg (some 7) Tryz.func17 #[.agg #[.slice A0_0 l0_0.length c0_0]] rfl za11 ?_;(with_reducible refine (impl_IsValidProblem.calls k _ _ l0_0 _ _ ?side1 ?side2 A2.out).mono ?_);(case side1=>repeat ((exact (Kd.C_below HR0_0.out HB.out))));(case side2=>exact HC0_0.out);rintro e w20 ⟨rfl,hb⟩;refine ⟨_,rfl,?_⟩;replace BK1:=yb BK1 hb;replace HB:=yB HB hb;(try clear hb))))
  go_ret
  exact ⟨by (rfl),za10⟩
def impl_cleared.l0:Nat→ByteArray→Int→ByteArray→ByteArray→ByteArray→Option (ByteArray × ByteArray × ByteArray)
 | 0,_,_,_,_,_=>none
 | k+1,x1,x6,x28002000,x28002001,x28002002=>if x6 < 3 then (if 0≤x6 then ((strings_IndexByte.f x1 (bt (⟨#[88,89,90]⟩:ByteArray) x6)).bind fun t28003=>(if t28003 < 0 then ((impl_WithValue.f x28002000 x28002001 x28002002 (bt (⟨#[88,89,90]⟩:ByteArray) x6) (⟨#[]⟩:ByteArray)).bind fun bt28004=>(impl_cleared.l0 k x1 (wrap64 (x6+1)) bt28004.1 bt28004.2.1 bt28004.2.2)) else (impl_cleared.l0 k x1 (wrap64 (x6+1)) x28002000 x28002001 x28002002))) else (none)) else (some (x28002000,x28002001,x28002002))
def impl_cleared.f (k:Nat) (a0_0:ByteArray) (a0_1:ByteArray) (a0_2:ByteArray) (a1:ByteArray):Option (ByteArray × ByteArray × ByteArray):=impl_cleared.l0 k a1 0 a0_0 a0_1 a0_2
theorem impl_cleared.calls (k:Nat) (a0_0:ByteArray) (a0_1:ByteArray) (a0_2:ByteArray) (a1:ByteArray) (r1:ByteArray) (r2:ByteArray) (r3:ByteArray) (w:World) (h:impl_cleared.f k a0_0 a0_1 a0_2 a1=some (r1,r2,r3)) :
   Calls Tryz.prog 28 #[.agg #[.string a0_0,.string a0_1,.string a0_2],.string a1] w fun e w'=>e = .returned (.agg #[.string r1,.string r2,.string r3])∧Below w.heap.size w w':=by
 have hu32:=Tryz.underlying32
 have HB:=zk (Below.refl w.heap.size w)
 have H:=h
 unfold impl_cleared.f at H
 clear h
 have H':=zk H
 clear H
 go_enter Tryz.func28,Tryz.ntmps28
 go_wp2_with (first|((with_reducible refine gate_dst (N:=2) rfl ?_);refine zE (cs:=#[.string a0_0,.string a0_1,.string a0_2]) (t:=32) ?_;intro gb1 hg w3 hbox hb;have BK1:=zk hbox;have GW1:=zk (zs (w:=w) hg za10);have GE1:=GW1;replace HB:=yB HB hb;clear hb hbox hg)|((with_reducible refine gate_dst (N:=4) rfl ?_);refine zE (cs:=#[.string ⟨#[]⟩,.string ⟨#[]⟩,.string ⟨#[]⟩]) (t:=32) ?_;intro gb2 hg w4 hbox hb;have BK2:=zk hbox;have GW2:=zk (zs (w:=w) hg za10);have GE2:=GW2;have NB1_2:=yn hg BK1;have NB2_1:=yp hg BK1;replace BK1:=yb BK1 hb;replace HB:=yB HB hb;clear hb hbox hg))
 try simp only [Act.put,zt,zv,zu]
 go_loopg [6] k (fun kq v6 w'=>∃ (x6_1:Int) (x28002000_1:ByteArray) (x28002001_1:ByteArray) (x28002002_1:ByteArray),v6 = .int .i64 x6_1∧Aside0 (impl_cleared.l0 kq a1 x6_1 x28002000_1 x28002001_1 x28002002_1=some (r1,r2,r3))∧Aside0 (kq≤k)∧Aside0 (w'.heap[gb1]? = some (.cells #[.string x28002000_1,.string x28002001_1,.string x28002002_1] 32 (0,0)))∧Aside0 (w'.heap[gb2]? = some (.cells #[.string ⟨#[]⟩,.string ⟨#[]⟩,.string ⟨#[]⟩] 32 (0,0)))∧Aside0 (Below w.heap.size w w'))
 case atStart=>exact ⟨(0),(a0_0),(a0_1),(a0_2),(by (rfl)),H',⟨Nat.le_refl _⟩,⟨za3 BK1.out⟩,⟨za3 BK2.out⟩,⟨za10⟩⟩
 case round =>
  clear H'
  obtain ⟨x6_1,x28002000_1,x28002001_1,x28002002_1,rfl,HA,HK1,BK1,BK2,HB⟩:=hrel
  cases gk with
  | zero=>exact absurd HA.out (by simp [impl_cleared.l0])
  | succ k1 =>
   have H:=HA.out
   clear HA
   simp only [impl_cleared.l0] at H
   by_cases c5:x6_1 < 3
   rw [if_pos c5] at H
   have c5b0:=zdl c5
   clear c5
   by_cases c6:0≤x6_1
   rw [if_pos c6] at H
   have c6b0:=zdle c6
   clear c6
   obtain ⟨t3,A8,H⟩:=zO H
   try dsimp only at H
   by_cases c9:t3 < 0
   ·rw [if_pos c9] at H
    have c9b0:=zdl c9
    clear c9
    obtain ⟨⟨t4,t5,t6⟩,A11,H⟩:=zO H
    try dsimp only at H
    have H':=zk H
    clear H
    have p7:0≤(x6_1:Int):=of_decide_eq_true za25
    have q7:x6_1 < (3:Int):=of_decide_eq_true za25
    have hx7:=bt_at (⟨#[88,89,90]⟩:ByteArray) x6_1
    replace p7:=eq_true p7
    replace q7:=eq_true q7
    try go_wp2_with ((((with_reducible refine gate_callee (f:=56) rfl ?_);refine zg (some 12) Tryz.func56 #[.string a1,.int .u8 (bt (⟨#[88,89,90]⟩:ByteArray) x6_1)] rfl za11 ?_;(with_reducible refine (strings_IndexByte.calls a1 (bt (⟨#[88,89,90]⟩:ByteArray) x6_1) t3 _ A8.out).mono ?_);rintro e w' ⟨rfl,⟨nd,rfl⟩⟩;refine ⟨_,rfl,?_⟩;(try (rw [drewN_self wr];generalize hq_:World.drewN wr _=wr;have n0_:Aside0 (wr.heap[gb1]? = some (.cells #[.string x28002000_1,.string x28002001_1,.string x28002002_1] 32 (0,0))):=⟨by rw [← hq_];exact (za3 BK1.out)⟩;have n1_:Aside0 (wr.heap[gb2]? = some (.cells #[.string ⟨#[]⟩,.string ⟨#[]⟩,.string ⟨#[]⟩] 32 (0,0))):=⟨by rw [← hq_];exact (za3 BK2.out)⟩;have n2_:Aside0 (Below w.heap.size w wr):=⟨by rw [← hq_];exact za10⟩;clear BK1 BK2 HB hq_;have BK1:=n0_;have BK2:=n1_;have HB:=n2_;clear n0_ n1_ n2_)))))
    replace BK1:=zk (blk_drew BK1.out)
    replace BK2:=zk (blk_drew BK2.out)
    replace HB:=zk (below_drew1 HB.out)
    have p10:0≤(x6_1:Int):=of_decide_eq_true za25
    have q10:x6_1 < (3:Int):=of_decide_eq_true za25
    have hx10:=bt_at (⟨#[88,89,90]⟩:ByteArray) x6_1
    replace p10:=eq_true p10
    replace q10:=eq_true q10
    refine start_ (n:=5) (S:=fun w'=>w'.cell? ⟨gb1,0,none⟩=some (.string x28002000_1)∧w'.cell? ⟨gb1,1,none⟩=some (.string x28002001_1)∧w'.cell? ⟨gb1,2,none⟩=some (.string x28002002_1)) (ds:=[4]) #[false,false,false,false,false] (by kernel_rfl) rfl rfl ⟨(blk_cell BK1.out 0).trans rfl,(blk_cell BK1.out 1).trans rfl,(blk_cell BK1.out 2).trans rfl⟩ (fun hHeld=>?_)
    generalize wr.drew=w12 at BK1 BK2 HB hHeld ⊢
    refine zyk 1 (some 15) ?_
    refine ztkk 0 (some 14) hHeld ?_
    refine ztkk 2 (some 16) hHeld ?_
    refine one_ (i:=3) (N:=some 17) #[true,true,true,true,false] rfl rfl (by kernel_rfl) (by decide) (fun K hK=>?_)
    refine goes_ Tryz.func21 (by kernel_rfl) rfl #[.agg #[.string x28002000_1,.string x28002001_1,.string x28002002_1],.int .u8 (bt (⟨#[88,89,90]⟩:ByteArray) x6_1),.string ⟨#[]⟩] (by rfl) rfl rfl za11 ?_
    with_reducible refine (impl_WithValue.calls x28002000_1 x28002001_1 x28002002_1 (bt (⟨#[88,89,90]⟩:ByteArray) x6_1) (⟨#[]⟩:ByteArray) t4 t5 t6 _ A11.out).mono ?_
    rintro e w13 ⟨rfl,hb⟩
    refine ⟨_,rfl,?_⟩
    replace BK1:=yb BK1 hb
    replace BK2:=yb BK2 hb
    replace HB:=yB HB hb
    (try clear hb)
    (try clear hb2)
    (try clear hk)
    (try clear hi)
    refine hK.out _ _ ⟨(blk_cell BK1.out 0).trans rfl,(blk_cell BK1.out 1).trans rfl,(blk_cell BK1.out 2).trans rfl⟩ (fun hHeld=>?_)
    clear hK K
    refine zno (some 17) ?_
    refine last_ (i:=4) (N:=none) #[true,true,true,true,true] rfl rfl (by kernel_rfl) (by decide) (fun K hK=>?_)
    have hs14:w13.cell? ⟨gb1,0,none⟩=some (.string x28002000_1):=(blk_cell BK1.out 0).trans rfl
    have hfs14:=blk_frozen BK1.out 0
    have hns14_1:=NB2_1.out
    have hms14_1:=NB1_2.out
    have hs15:w13.cell? ⟨gb1,1,none⟩=some (.string x28002001_1):=(blk_cell BK1.out 1).trans rfl
    have hfs15:=blk_frozen BK1.out 1
    have hns15_1:=NB2_1.out
    have hms15_1:=NB1_2.out
    have hs16:w13.cell? ⟨gb1,2,none⟩=some (.string x28002002_1):=(blk_cell BK1.out 2).trans rfl
    have hfs16:=blk_frozen BK1.out 2
    have hns16_1:=NB2_1.out
    have hms16_1:=NB1_2.out
    refine skip_ (w1:=?_) (by rfl) rfl ?_ ?_
    rotate_left
    ·go_simp
     rfl
    refine hK.out _ _ ?_
    clear hK K
    refine done_ (by kernel_rfl) ?_
    try go_wp2
    go_roundg k1
    case measure=>have:=HK1.out;omega
    case rel=>exact ⟨(wrap64 (x6_1+1)),(t4),(t5),(t6),(by (rfl)),H',⟨za43⟩,⟨zpu BK1.out⟩,⟨zpw BK2.out⟩,⟨za10⟩⟩
   ·rw [if_neg c9] at H
    have c9b0:=zdnl c9
    clear c9
    have H':=zk H
    clear H
    have p7:0≤(x6_1:Int):=of_decide_eq_true za25
    have q7:x6_1 < (3:Int):=of_decide_eq_true za25
    have hx7:=bt_at (⟨#[88,89,90]⟩:ByteArray) x6_1
    replace p7:=eq_true p7
    replace q7:=eq_true q7
    go_wp2_with ((((with_reducible refine gate_callee (f:=56) rfl ?_);refine zg (some 12) Tryz.func56 #[.string a1,.int .u8 (bt (⟨#[88,89,90]⟩:ByteArray) x6_1)] rfl za11 ?_;(with_reducible refine (strings_IndexByte.calls a1 (bt (⟨#[88,89,90]⟩:ByteArray) x6_1) t3 _ A8.out).mono ?_);rintro e w' ⟨rfl,⟨nd,rfl⟩⟩;refine ⟨_,rfl,?_⟩)))
    go_roundg k1
    case measure=>have:=HK1.out;omega
    case rel=>exact ⟨(wrap64 (x6_1+1)),(x28002000_1),(x28002001_1),(x28002002_1),(by (rfl)),H',⟨za43⟩,⟨za3 BK1.out⟩,⟨za3 BK2.out⟩,⟨za10⟩⟩
   ·rw [if_neg c6] at H
    exact absurd H (by simp)
   ·rw [if_neg c5] at H
    have c5b0:=zdnl c5
    clear c5
    simp only [Option.some.injEq,Prod.mk.injEq] at H
    obtain ⟨rfl,rfl,rfl⟩:=H
    have hnb17:=NB1_2.out
    have hnc17:=NB2_1.out
    obtain ⟨hcz18_0,hcz18_1,hcz18_2,hfz18_0,hfz18_1,hfz18_2⟩:=blk3 BK1.out
    obtain ⟨hcz19_0,hcz19_1,hcz19_2,hfz19_0,hfz19_1,hfz19_2⟩:=blk3 BK2.out
    go_wp2
    refine bodyPost_ret (results_cell_row rfl _ _ gb2 32 #[.string x28002000_1,.string x28002001_1,.string x28002002_1] (0,0) _ rfl (zpu BK2.out) Tryz.underlying32 rfl (by kernel_rfl)) rfl ?_
    exact ⟨by (rfl),za10⟩
end Go.Proofs.YtcbjhfoeecfcoaaGreat.A
