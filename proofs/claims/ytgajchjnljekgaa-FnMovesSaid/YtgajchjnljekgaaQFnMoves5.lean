/- FnMoves: what its proof needs, put together by this session's program wip/merge.py out of the texts that wip/xp.py printed and of this session's own. -/
import Derived.Test.YtgajchjnljekgaaQFnMoves4
import Derived.Shelf.Strings.OnBuilder
import Derived.Test.YtgajchjnljekgaaProg
import Derived.Lib.Join
set_option linter.unusedVariables false
set_option linter.unusedSimpArgs false
set_option linter.unusedSectionVars false
set_option maxHeartbeats 8000000
set_option maxRecDepth 100000
namespace Go.Proofs.Ytgajchjnljekgaa.A
open Go.RowKit Ytgajchjnljekgaa.Ext YtgajchjnljekgaaW.PrintWords YtgajchjnljekgaaW.PrintLast YtgajchjnljekgaaW.PrintMore
attribute [local go_sem] max2_int min2_int max_two min_two max_three min_three max_four min_four
mutual
def spec_l12Draw.l0:Nat→ByteArray→ByteArray→Int→List Int→Int→Int→Option (ByteArray × ByteArray × Int × Int)
 | 0,_,_,_,_,_,_=>none
 | k+1,x3,x4,x5,x1000,x1001,x1002=>if x5 < 3 then (if 0≤x5 then ((spec_CountByte.f k x3 (bt (⟨#[88,89,90]⟩:ByteArray) x5)).bind fun t44005=>(if t44005 < 2 then (if x5≤(wrap64 (x5+1)) then (if (wrap64 (x5+1))≤3 then (if x4.size+((⟨#[88,89,90]⟩:ByteArray).extract (x5:Int).toNat ((wrap64 (x5+1)):Int).toNat).size≤9223372036854775807 then (spec_l12Draw.l0 k x3 (x4 ++ ((⟨#[88,89,90]⟩:ByteArray).extract (x5:Int).toNat ((wrap64 (x5+1)):Int).toNat)) (wrap64 (x5+1)) x1000 x1001 x1002) else (none)) else (none)) else (none)) else (spec_l12Draw.l0 k x3 x4 (wrap64 (x5+1)) x1000 x1001 x1002))) else (none)) else ((spec_l8Draw.f k x1000 x1001 x1002 5 x4).bind fun bt44006=>(spec_l12Draw.l1 k x3 bt44006.1 0 x1000 bt44006.2.1 bt44006.2.2))
def spec_l12Draw.l1:Nat→ByteArray→ByteArray→Int→List Int→Int→Int→Option (ByteArray × ByteArray × Int × Int)
 | 0,_,_,_,_,_,_=>none
 | k+1,x3,x6,x7,x1000,x1001,x1002=>if x7 < 3 then (if x3.size+x6.size≤9223372036854775807 then (if 0≤x7 then ((spec_CountByte.f k (x3 ++ x6) (bt (⟨#[88,89,90]⟩:ByteArray) x7)).bind fun t44009=>(if t44009 > 2 then ((spec_ReplaceVar.f k x6 (bt (⟨#[88,89,90]⟩:ByteArray) x7) (⟨#[97]⟩:ByteArray)).bind fun t44010=>(spec_l12Draw.l1 k x3 t44010 (wrap64 (x7+1)) x1000 x1001 x1002)) else (spec_l12Draw.l1 k x3 x6 (wrap64 (x7+1)) x1000 x1001 x1002))) else (none)) else (none)) else (some (x3,x6,x1001,x1002))
end
def spec_l12Draw.f (k:Nat) (s0_0:List Int) (s0_1:Int) (s0_2:Int):Option (ByteArray × ByteArray × Int × Int):=(spec_l8Draw.f k s0_0 s0_1 s0_2 5 (⟨#[88,89,90]⟩:ByteArray)).bind fun bt44002=>(spec_l12Draw.l0 k bt44002.1 (⟨#[]⟩:ByteArray) 0 s0_0 bt44002.2.1 bt44002.2.2)
theorem spec_l12Draw.calls (k:Nat) (g:Nat) (s0_0:List Int) (s0_1:Int) (s0_2:Int) (r1:ByteArray) (r2:ByteArray) (r3:Int) (r4:Int) (w0 w:World) (hI:IsS69 w0 w g s0_0 s0_1 s0_2) (hB:Below w0.heap.size w0 w) (h:spec_l12Draw.f k s0_0 s0_1 s0_2=some (r1,r2,r3,r4)) :
   Calls Try.prog 44 #[.pointer (some ⟨g,0,none⟩)] w fun e w'=>e = .returned (.agg #[.string r1,.string r2])∧IsS69 w0 w' g s0_0 r3 r4∧Below w0.heap.size w0 w'∧KeepBut w w' g none:=by
 have hu25:=Try.underlying25
 have HI0:=zk hI
 have HK:=zk (KeepBut.refl w g none)
 have HL:=zk hB.size
 clear hI
 have HW0:=zk hB.size
 have HB:=zk hB
 clear hB
 have H:=h
 unfold spec_l12Draw.f at H
 clear h
 replace H:=zo H
 obtain ⟨⟨t44002,t44003,t44004⟩,A20,H⟩:=H
 try dsimp only at H
 have A2:=zk A20
 clear A20
 have H':=zk H
 clear H
 go_enter Try.func44,Try.ntmps44
 go_wp2_with (first|((with_reducible refine gate_dst (N:=2) rfl ?_);refine zE (N:=2) (cs:=#[.string (⟨#[]⟩:ByteArray),.string (⟨#[]⟩:ByteArray)]) (t:=25) ?_;intro gb44001 hg w3 hbox hb;replace HB:=zk (below_step za12 hb);have BK44001:=zk (hbox);have GW44001:=zk ((by rw [hg];exact (keep_size (w:=w) (g:=g) (row:=none) za6):w.heap.size≤gb44001));have GE44001:=zk ((Nat.le_trans HW0.out (by rw [hg];exact (keep_size (w:=w) (g:=g) (row:=none) za6):w.heap.size≤gb44001):w0.heap.size≤gb44001));have NB0_44001:=zk ((by rw [hg];exact Nat.ne_of_lt (IsS69.lt (show IsS69 w0 _ g s0_0 s0_1 s0_2 from za5)):g ≠ gb44001));have NB44001_0:=zk ((by rw [hg];exact Nat.ne_of_gt (IsS69.lt (show IsS69 w0 _ g s0_0 s0_1 s0_2 from za5)):gb44001 ≠ g));replace HI0:=zk (IsS69.below za5 hb);replace HK:=zk (KeepBut.trans za6 (KeepBut.of_below hb g none) (.inl rfl));clear hb hbox hg)|((with_reducible refine gate_callee (f:=45) rfl ?_);refine goesL_ (some 9) rfl rfl Try.func45 (by kernel_rfl) rfl #[.pointer (some ⟨g,0,none⟩),.int .i64 5,.string (⟨#[88,89,90]⟩:ByteArray)] rfl za4 ?_;(with_reducible refine (spec_l8Draw.calls k g s0_0 s0_1 s0_2 5 (⟨#[88,89,90]⟩:ByteArray) t44002 t44003 t44004 w0 _ za45 za46 A2.out).mono ?_);rintro e w4 ⟨rfl,hi,hb,hk⟩;refine ⟨_,rfl,?_⟩;replace BK44001:=zk (KeepBut.blk hk (g':=gb44001) (o:=.cells #[.string (⟨#[]⟩:ByteArray),.string (⟨#[]⟩:ByteArray)] 25 (0,0)) (za1 BK44001.out) NB44001_0.out (by simp));replace HK:=zk (KeepBut.trans za53 hk (.inl rfl));replace HB:=zk (hb);replace HI0:=zk (hi);(try clear hb);(try clear hb2);(try clear hk);(try clear hi)))
 try simp only [Act.put,zt,zv,zu]
 go_loopg [4,5] k (fun kq v4 v5 w'=>∃ (x4_1:ByteArray) (x5_1:Int),v4 = .string x4_1∧v5 = .int .i64 x5_1∧Aside0 (spec_l12Draw.l0 kq t44002 x4_1 x5_1 s0_0 t44003 t44004=some (r1,r2,r3,r4))∧Aside0 (kq≤k)∧Aside0 (w'.heap[gb44001]? = some (.cells #[.string (⟨#[]⟩:ByteArray),.string (⟨#[]⟩:ByteArray)] 25 (0,0)))∧Aside0 (IsS69 w0 w' g s0_0 t44003 t44004)∧Aside0 (KeepBut w w' g none)∧Aside0 (Below w0.heap.size w0 w'))
 case atStart=>exact ⟨((⟨#[]⟩:ByteArray)),(0),za8,za8,H',⟨Nat.le_refl _⟩,⟨za1 BK44001.out⟩,⟨za45⟩,⟨za53⟩,⟨za46⟩⟩
 case round =>
  clear H'
  obtain ⟨x4_1,x5_1,rfl,rfl,HA,HK1,BK44001,HI0,HK,HB⟩:=hrel
  cases gk with
  | zero=>exact absurd HA.out (by simp [spec_l12Draw.l0])
  | succ k1 =>
   have H:=HA.out
   clear HA
   simp only [spec_l12Draw.l0] at H
   by_cases c5:x5_1 < 3
   rw [if_pos c5] at H
   have c5b0:=zdl c5
   clear c5
   by_cases c6:0≤x5_1
   rw [if_pos c6] at H
   have c6b0:=zdle c6
   clear c6
   replace H:=zo H
   obtain ⟨t44005,A80,H⟩:=H
   try dsimp only at H
   have A8:=zk A80
   clear A80
   by_cases c9:t44005 < 2
   rw [if_pos c9] at H
   have c9b0:=zdl c9
   clear c9
   have c10b0:=eq_true (of_decide_eq_true za7:0≤x5_1)
   by_cases c11:x5_1≤(wrap64 (x5_1+1))
   rw [if_pos c11] at H
   have c11b0:=eq_true c11
   have c11b1:=zdle c11
   by_cases c12:(wrap64 (x5_1+1))≤3
   rw [if_pos c12] at H
   have c12b0:=eq_true c12
   have c12b1:=zdle c12
   by_cases c13:x4_1.size+((⟨#[88,89,90]⟩:ByteArray).extract (x5_1:Int).toNat ((wrap64 (x5_1+1)):Int).toNat).size≤9223372036854775807
   rw [if_pos c13] at H
   have c13z:=c13
   try simp at c13z
   try replace c13z:=eq_false (Nat.not_lt.2 c13z)
   have c13b0:=eq_true c13
   have c13b1:=zdle c13
   try have c13b2:(9223372036854775807 < x4_1.size+((⟨#[88,89,90]⟩:ByteArray).extract (x5_1:Int).toNat ((wrap64 (x5_1+1)):Int).toNat).size)=False:=eq_false (Nat.not_lt.2 c13)
   have fin0_:=zk trivial
   rotate_left
   · rw [if_neg c13] at H
     exact absurd H (by simp)
   · rw [if_neg c12] at H
     exact absurd H (by simp)
   · rw [if_neg c11] at H
     exact absurd H (by simp)
   rw [if_neg c9] at H
   have c9b0:=zdnl c9
   clear c9
   have fin1_:=zk trivial
   rotate_left
   · rw [if_neg c6] at H
     exact absurd H (by simp)
   · rw [if_neg c5] at H
     have c5b0:=zdnl c5
     clear c5
     replace H:=zo H
     obtain ⟨⟨t44006,t44007,t44008⟩,A140,H⟩:=H
     try dsimp only at H
     have A14:=zk A140
     clear A140
     have H':=zk H
     clear H
     go_wp2_with (first|((with_reducible refine gate_callee (f:=45) rfl ?_);refine goesL_ (some 27) rfl rfl Try.func45 (by kernel_rfl) rfl #[.pointer (some ⟨g,0,none⟩),.int .i64 5,.string x4_1] rfl za4 ?_;(with_reducible refine (spec_l8Draw.calls k1 g s0_0 t44003 t44004 5 x4_1 t44006 t44007 t44008 w0 _ za45 za46 A14.out).mono ?_);rintro e w15 ⟨rfl,hi,hb,hk⟩;refine ⟨_,rfl,?_⟩;replace BK44001:=zk (KeepBut.blk hk (g':=gb44001) (o:=.cells #[.string (⟨#[]⟩:ByteArray),.string (⟨#[]⟩:ByteArray)] 25 (0,0)) (za1 BK44001.out) NB44001_0.out (by simp));replace HK:=zk (KeepBut.trans za53 hk (.inl rfl));replace HB:=zk (hb);replace HI0:=zk (hi);(try clear hb);(try clear hb2);(try clear hk);(try clear hi)))
     try simp only [Act.put,zt,zv,zu]
     go_loopg [6,7] k1 (fun kq v6 v7 w'=>∃ (x6_2:ByteArray) (x7_2:Int),v6 = .string x6_2∧v7 = .int .i64 x7_2∧Aside0 (spec_l12Draw.l1 kq t44002 x6_2 x7_2 s0_0 t44007 t44008=some (r1,r2,r3,r4))∧Aside0 (kq≤k1)∧Aside0 (w'.heap[gb44001]? = some (.cells #[.string (⟨#[]⟩:ByteArray),.string (⟨#[]⟩:ByteArray)] 25 (0,0)))∧Aside0 (IsS69 w0 w' g s0_0 t44007 t44008)∧Aside0 (KeepBut w w' g none)∧Aside0 (Below w0.heap.size w0 w'))
     case atStart=>exact ⟨(t44006),(0),za8,za8,H',⟨Nat.le_refl _⟩,⟨za1 BK44001.out⟩,⟨za45⟩,⟨za53⟩,⟨za46⟩⟩
     case round =>
      clear H'
      try clear c5
      try clear c5b0
      obtain ⟨x6_2,x7_2,rfl,rfl,HA,HK2,BK44001,HI0,HK,HB⟩:=hrel
      cases gk with
      | zero=>exact absurd HA.out (by simp [spec_l12Draw.l1])
      | succ k2 =>
       have H:=HA.out
       clear HA
       simp only [spec_l12Draw.l1] at H
       by_cases c16:x7_2 < 3
       rw [if_pos c16] at H
       have c16b0:=zdl c16
       clear c16
       by_cases c17:t44002.size+x6_2.size≤9223372036854775807
       rw [if_pos c17] at H
       have c17z:=c17
       try simp at c17z
       try replace c17z:=eq_false (Nat.not_lt.2 c17z)
       have c17b0:=eq_true c17
       have c17b1:=zdle c17
       try have c17b2:(9223372036854775807 < t44002.size+x6_2.size)=False:=eq_false (Nat.not_lt.2 c17)
       by_cases c18:0≤x7_2
       rw [if_pos c18] at H
       have c18b0:=zdle c18
       clear c18
       replace H:=zo H
       obtain ⟨t44009,A200,H⟩:=H
       try dsimp only at H
       have A20:=zk A200
       clear A200
       by_cases c21:t44009 > 2
       ·rw [if_pos c21] at H
        have c21b0:=zdl c21
        clear c21
        replace H:=zo H
        obtain ⟨t44010,A230,H⟩:=H
        try dsimp only at H
        have A23:=zk A230
        clear A230
        have H':=zk H
        clear H
        have p19:0≤(x7_2:Int):=of_decide_eq_true za7
        have q19:x7_2 < (3:Int):=of_decide_eq_true za7
        have hx19:=bt_at (⟨#[88,89,90]⟩:ByteArray) x7_2
        replace p19:=eq_true p19
        replace q19:=eq_true q19
        go_wp2_with (first|((with_reducible refine gate_callee (f:=18) rfl ?_);refine goesL_ (some 37) rfl rfl Try.func18 (by kernel_rfl) rfl #[.string (t44002 ++ x6_2),.int .u8 (bt (⟨#[88,89,90]⟩:ByteArray) x7_2)] rfl za4 ?_;(with_reducible refine (spec_CountByte.calls k2 (t44002 ++ x6_2) (bt (⟨#[88,89,90]⟩:ByteArray) x7_2) t44009 _ A20.out).mono ?_);rintro e w' ⟨rfl,⟨nd,rfl⟩⟩;refine ⟨_,rfl,?_⟩;have p22:0≤(x7_2:Int):=of_decide_eq_true za7;have q22:x7_2 < (3:Int):=of_decide_eq_true za7;have hx22:=bt_at (⟨#[88,89,90]⟩:ByteArray) x7_2;replace p22:=eq_true p22;replace q22:=eq_true q22)|((with_reducible refine gate_callee (f:=35) rfl ?_);refine goesL_ (some 42) rfl rfl Try.func35 (by kernel_rfl) rfl #[.string x6_2,.int .u8 (bt (⟨#[88,89,90]⟩:ByteArray) x7_2),.string (⟨#[97]⟩:ByteArray)] rfl za4 ?_;(with_reducible refine (spec_ReplaceVar.calls k2 x6_2 (bt (⟨#[88,89,90]⟩:ByteArray) x7_2) (⟨#[97]⟩:ByteArray) t44010 _ A23.out).mono ?_);rintro e w' ⟨rfl,⟨nd,rfl⟩⟩;refine ⟨_,rfl,?_⟩))
        go_roundg k2
        case measure=>have:=HK1.out;have:=HK2.out;omega
        case rel=>exact ⟨(t44010),(wrap64 (x7_2+1)),za8,za8,H',⟨by have:=HK1.out;have:=HK2.out;omega⟩,⟨za1 BK44001.out⟩,⟨za45⟩,⟨za53⟩,⟨za46⟩⟩
       ·rw [if_neg c21] at H
        have c21b0:=zdnl c21
        clear c21
        have H':=zk H
        clear H
        have p19:0≤(x7_2:Int):=of_decide_eq_true za7
        have q19:x7_2 < (3:Int):=of_decide_eq_true za7
        have hx19:=bt_at (⟨#[88,89,90]⟩:ByteArray) x7_2
        replace p19:=eq_true p19
        replace q19:=eq_true q19
        go_wp2_with (first|((with_reducible refine gate_callee (f:=18) rfl ?_);refine goesL_ (some 37) rfl rfl Try.func18 (by kernel_rfl) rfl #[.string (t44002 ++ x6_2),.int .u8 (bt (⟨#[88,89,90]⟩:ByteArray) x7_2)] rfl za4 ?_;(with_reducible refine (spec_CountByte.calls k2 (t44002 ++ x6_2) (bt (⟨#[88,89,90]⟩:ByteArray) x7_2) t44009 _ A20.out).mono ?_);rintro e w' ⟨rfl,⟨nd,rfl⟩⟩;refine ⟨_,rfl,?_⟩))
        go_roundg k2
        case measure=>have:=HK1.out;have:=HK2.out;omega
        case rel=>exact ⟨(x6_2),(wrap64 (x7_2+1)),za8,za8,H',⟨by have:=HK1.out;have:=HK2.out;omega⟩,⟨za1 BK44001.out⟩,⟨za45⟩,⟨za53⟩,⟨za46⟩⟩
       ·rw [if_neg c18] at H
        exact absurd H (by simp)
       ·rw [if_neg c17] at H
        exact absurd H (by simp)
       ·rw [if_neg c16] at H
        have c16b0:=zdnl c16
        clear c16
        simp only [Option.some.injEq,Prod.mk.injEq] at H
        obtain ⟨rfl,rfl,rfl,rfl⟩:=H
        have hnb24:=NB44001_0.out
        have hnc24:=NB0_44001.out
        obtain ⟨hcz25_0,hcz25_1,hfz25_0,hfz25_1⟩:=blk2 BK44001.out
        go_wp2
        refine bodyPost_ret (results_cell_row rfl _ _ gb44001 25 #[.string t44002,.string x6_2] (0,0) _ rfl (zpu BK44001.out) Try.underlying25 rfl (by kernel_rfl)) rfl ?_
        exact ⟨za9,za45,za46,za53⟩
   all_goals
    have H':=zk H
    clear H
    have p7:0≤(x5_1:Int):=of_decide_eq_true za7
    have q7:x5_1 < (3:Int):=of_decide_eq_true za7
    have hx7:=bt_at (⟨#[88,89,90]⟩:ByteArray) x5_1
    replace p7:=eq_true p7
    replace q7:=eq_true q7
    go_wp2_with (((with_reducible refine gate_callee (f:=18) rfl ?_);refine goesL_ (some 17) rfl rfl Try.func18 (by kernel_rfl) rfl #[.string t44002,.int .u8 (bt (⟨#[88,89,90]⟩:ByteArray) x5_1)] rfl za4 ?_;(with_reducible refine (spec_CountByte.calls k1 t44002 (bt (⟨#[88,89,90]⟩:ByteArray) x5_1) t44005 _ A8.out).mono ?_);rintro e w' ⟨rfl,⟨nd,rfl⟩⟩;refine ⟨_,rfl,?_⟩))
    first
    | (
       clear fin0_
       go_roundg k1
       case measure=>have:=HK1.out;omega
       case rel=>exact ⟨(x4_1 ++ ((⟨#[88,89,90]⟩:ByteArray).extract (x5_1:Int).toNat ((wrap64 (x5_1+1)):Int).toNat)),(wrap64 (x5_1+1)),za8,za8,H',⟨za60⟩,⟨za1 BK44001.out⟩,⟨za45⟩,⟨za53⟩,⟨za46⟩⟩)
    | (
       clear fin1_
       go_roundg k1
       case measure=>have:=HK1.out;omega
       case rel=>exact ⟨(x4_1),(wrap64 (x5_1+1)),za8,za8,H',⟨za60⟩,⟨za1 BK44001.out⟩,⟨za45⟩,⟨za53⟩,⟨za46⟩⟩)
def spec_l12Bent.f (k:Nat) (s0_0:List Int) (s0_1:Int) (s0_2:Int):Option (ByteArray × ByteArray × Int × Int):=(spec_l12Draw.f k s0_0 s0_1 s0_2).bind fun bt23002=>((spec_l1Below.f s0_0 bt23002.2.2.1 bt23002.2.2.2 10).bind fun bt23007=>(if bt23007.1=0 then (if bt23002.1.size+1≤9223372036854775807 then ((spec_l8Draw.f k s0_0 bt23007.2.1 bt23007.2.2 3 (⟨#[88,89,90]⟩:ByteArray)).bind fun bt23010=>(if (bt23002.1 ++ (⟨#[35]⟩:ByteArray)).size+bt23010.1.size≤9223372036854775807 then (some ((bt23002.1 ++ (⟨#[35]⟩:ByteArray)) ++ bt23010.1,bt23002.2.1,bt23010.2.1,bt23010.2.2)) else (none))) else (none)) else (if bt23007.1=1 then ((spec_l8Any.f k s0_0 bt23007.2.1 bt23007.2.2).bind fun bt23013=>(some (bt23002.1,bt23013.1,bt23013.2.1,bt23013.2.2))) else (if bt23007.1=2 then (if 24+bt23002.1.size≤9223372036854775807 then (some ((⟨#[97,97,97,97,97,97,97,97,97,97,97,97,97,97,97,97,97,97,97,97,97,97,97,97]⟩:ByteArray) ++ bt23002.1,bt23002.2.1,bt23007.2.1,bt23007.2.2)) else (none)) else (if bt23007.1=3 then (if 1+bt23002.1.size≤9223372036854775807 then (if 2+bt23002.2.1.size≤9223372036854775807 then (some ((⟨#[35]⟩:ByteArray) ++ bt23002.1,(⟨#[35,97]⟩:ByteArray) ++ bt23002.2.1,bt23007.2.1,bt23007.2.2)) else (none)) else (none)) else (some (bt23002.1,bt23002.2.1,bt23007.2.1,bt23007.2.2)))))))
def spec_l12Bent.T4:Bool × List (List Nat × List Nat):=(true,[([],[]),([0],[0]),([1],[1]),([],[]),([3],[3]),([2,4],[2,4]),([0,1,2,3,4,5],[]),([6,5,4,0,1,2,3,4,5],[5,6])])
def spec_l12Bent.B4:List Nat:=[0,1,3,0,8,31,63,127]
theorem spec_l12Bent.tab4:rtab .any (opsOf Try.f23 4)=spec_l12Bent.T4:=by kernel_rfl
theorem spec_l12Bent.bits4:waitsOk spec_l12Bent.T4.2 spec_l12Bent.B4=true:=by kernel_rfl
theorem spec_l12Bent.calls (k:Nat) (g:Nat) (s0_0:List Int) (s0_1:Int) (s0_2:Int) (r1:ByteArray) (r2:ByteArray) (r3:Int) (r4:Int) (w0 w:World) (hI:IsS69 w0 w g s0_0 s0_1 s0_2) (hB:Below w0.heap.size w0 w) (h:spec_l12Bent.f k s0_0 s0_1 s0_2=some (r1,r2,r3,r4)) :
   Calls Try.prog 23 #[.pointer (some ⟨g,0,none⟩)] w fun e w'=>e = .returned (.agg #[.string r1,.string r2])∧IsS69 w0 w' g s0_0 r3 r4∧Below w0.heap.size w0 w'∧KeepBut w w' g none:=by
 have hu25:=Try.underlying25
 have HI0:=zk hI
 have HK:=zk (KeepBut.refl w g none)
 have HL:=zk hB.size
 clear hI
 have HW0:=zk hB.size
 have HB:=zk hB
 clear hB
 have H:=h
 unfold spec_l12Bent.f at H
 clear h
 replace H:=zo H
 obtain ⟨⟨t23002,t23003,t23004,t23005⟩,A20,H⟩:=H
 try dsimp only at H
 have A2:=zk A20
 clear A20
 replace H:=zo H
 obtain ⟨⟨t23007,t23008,t23009⟩,A30,H⟩:=H
 try dsimp only at H
 have A3:=zk A30
 clear A30
 by_cases c4:t23007=0
 rw [if_pos c4] at H
 have c4b0:=zbt c4
 have c4b1:=zqn c4
 clear c4
 by_cases c5:t23002.size+1≤9223372036854775807
 rw [if_pos c5] at H
 have c5z:=c5
 try simp at c5z
 try replace c5z:=eq_false (Nat.not_lt.2 c5z)
 have c5b0:=eq_true c5
 have c5b1:=zdle c5
 try have c5b2:(9223372036854775807 < t23002.size+1)=False:=eq_false (Nat.not_lt.2 c5)
 replace H:=zo H
 obtain ⟨⟨t23010,t23011,t23012⟩,A60,H⟩:=H
 try dsimp only at H
 have A6:=zk A60
 clear A60
 by_cases c7:(t23002 ++ (⟨#[35]⟩:ByteArray)).size+t23010.size≤9223372036854775807
 · rw [if_pos c7] at H
   have c7z:=c7
   try simp at c7z
   try replace c7z:=eq_false (Nat.not_lt.2 c7z)
   have c7b0:=eq_true c7
   have c7b1:=zdle c7
   try have c7y:(9223372036854775807 < t23002.size+1+t23010.size)=False:=eq_false (by have q_:=c7;simp only [ByteArray.size_append,show (⟨#[35]⟩:ByteArray).size=1 from rfl] at q_;omega)
   try have c7b2:(9223372036854775807 < (t23002 ++ (⟨#[35]⟩:ByteArray)).size+t23010.size)=False:=eq_false (Nat.not_lt.2 c7)
   simp only [Option.some.injEq,Prod.mk.injEq] at H
   obtain ⟨rfl,rfl,rfl,rfl⟩:=H
   go_enter Try.func23,Try.ntmps23
   try go_wp2_with (first|((with_reducible refine gate_dst (N:=2) rfl ?_);refine zE (N:=2) (cs:=#[.string (⟨#[]⟩:ByteArray),.string (⟨#[]⟩:ByteArray)]) (t:=25) ?_;intro gb23001 hg w8 hbox hb;replace HB:=zk (below_step za12 hb);have BK23001:=zk (hbox);have GW23001:=zk ((by rw [hg];exact (keep_size (w:=w) (g:=g) (row:=none) za6):w.heap.size≤gb23001));have GE23001:=zk ((Nat.le_trans HW0.out (by rw [hg];exact (keep_size (w:=w) (g:=g) (row:=none) za6):w.heap.size≤gb23001):w0.heap.size≤gb23001));have NB0_23001:=zk ((by rw [hg];exact Nat.ne_of_lt (IsS69.lt (show IsS69 w0 _ g s0_0 s0_1 s0_2 from za5)):g ≠ gb23001));have NB23001_0:=zk ((by rw [hg];exact Nat.ne_of_gt (IsS69.lt (show IsS69 w0 _ g s0_0 s0_1 s0_2 from za5)):gb23001 ≠ g));replace HI0:=zk (IsS69.below za5 hb);replace HK:=zk (KeepBut.trans za6 (KeepBut.of_below hb g none) (.inl rfl));clear hb hbox hg)|((with_reducible refine gate_callee (f:=44) rfl ?_);refine goesL_ (some 5) rfl rfl Try.func44 (by kernel_rfl) rfl #[.pointer (some ⟨g,0,none⟩)] rfl za4 ?_;(with_reducible refine (spec_l12Draw.calls k g s0_0 s0_1 s0_2 t23002 t23003 t23004 t23005 w0 _ za51 za80 A2.out).mono ?_);rintro e w9 ⟨rfl,hi,hb,hk⟩;refine ⟨_,rfl,?_⟩;replace BK23001:=zk (KeepBut.blk hk (g':=gb23001) (o:=.cells #[.string (⟨#[]⟩:ByteArray),.string (⟨#[]⟩:ByteArray)] 25 (0,0)) (za1 BK23001.out) NB23001_0.out (by simp));replace HK:=zk (KeepBut.trans za54 hk (.inl rfl));replace HB:=zk (hb);replace HI0:=zk (hi);(try clear hb);(try clear hb2);(try clear hk);(try clear hi))|((with_reducible refine gate_dst (N:=3) rfl ?_);refine zE (N:=3) (cs:=#[.string (⟨#[]⟩:ByteArray),.string (⟨#[]⟩:ByteArray)]) (t:=25) ?_;intro gb23006 hg w10 hbox hb;replace HB:=zk (below_step za80 hb);have BK23006:=zk (hbox);have GW23006:=zk ((by rw [hg];exact (keep_size (w:=w) (g:=g) (row:=none) za54):w.heap.size≤gb23006));have GE23006:=zk ((Nat.le_trans HW0.out (by rw [hg];exact (keep_size (w:=w) (g:=g) (row:=none) za54):w.heap.size≤gb23006):w0.heap.size≤gb23006));have NB23001_23006:=zk ((by rw [hg];exact Nat.ne_of_lt (zl BK23001.out):gb23001 ≠ gb23006));have NB23006_23001:=zk ((by rw [hg];exact Nat.ne_of_gt (zl BK23001.out):gb23006 ≠ gb23001));have NB0_23006:=zk ((by rw [hg];exact Nat.ne_of_lt (IsS69.lt (show IsS69 w0 _ g s0_0 t23004 t23005 from za51)):g ≠ gb23006));have NB23006_0:=zk ((by rw [hg];exact Nat.ne_of_gt (IsS69.lt (show IsS69 w0 _ g s0_0 t23004 t23005 from za51)):gb23006 ≠ g));replace HI0:=zk (IsS69.below za51 hb);replace BK23001:=zk (zb BK23001.out hb);replace HK:=zk (KeepBut.trans za54 (KeepBut.of_below hb g none) (.inl rfl));clear hb hbox hg;have hnb11:=NB23006_23001.out;have hnc11:=NB23001_23006.out;have hnb12:=NB23006_0.out;have hnc12:=NB0_23006.out;obtain ⟨hcz13_0,hcz13_1,hfz13_0,hfz13_1⟩:=blk2 BK23006.out)|((with_reducible refine gate_callee (f:=42) rfl ?_);refine goesL_ (some 7) rfl rfl Try.func42 (by kernel_rfl) rfl #[.pointer (some ⟨g,0,none⟩),.int .i64 10] rfl za4 ?_;(with_reducible refine (spec_l1Below.calls g s0_0 t23004 t23005 10 t23007 t23008 t23009 w0 _ za38 za39 A3.out).mono ?_);rintro e w14 ⟨rfl,hi,hb,hk⟩;refine ⟨_,rfl,?_⟩;replace BK23001:=zk (KeepBut.blk hk (g':=gb23001) (o:=.cells #[.string (⟨#[]⟩:ByteArray),.string (⟨#[]⟩:ByteArray)] 25 (0,0)) za84 NB23001_0.out (by simp));replace BK23006:=zk (KeepBut.blk hk (g':=gb23006) (o:=.cells #[.string t23002,.string t23003] 25 (0,0)) (zpu BK23006.out) NB23006_0.out (by simp));replace HK:=zk (KeepBut.trans za42 hk (.inl rfl));replace HB:=zk (hb);replace HI0:=zk (hi);(try clear hb);(try clear hb2);(try clear hk);(try clear hi)))
   replace BK23001:=zk (blk_drew BK23001.out)
   replace BK23006:=zk (blk_drew BK23006.out)
   replace HI0:=zk (IsS69.drew HI0.out)
   replace HK:=zk (keep_drew HK.out)
   replace HB:=zk (below_drew1 HB.out)
   refine start_ (n:=8) (S:=fun w'=>w'.cell? ⟨gb23006,0,none⟩=some (.string t23002)∧w'.cell? ⟨gb23006,1,none⟩=some (.string t23003)) (ds:=[7]) #[false,false,false,false,false,false,false,false] (by kernel_rfl) rfl rfl ⟨(blk_cell BK23006.out 0).trans rfl,(blk_cell BK23006.out 1).trans rfl⟩ (fun hHeld=>?_);refine with_tabW spec_l12Bent.tab4 spec_l12Bent.bits4 (fun HT_ HW_=>?_)
   generalize w14.drew=w15 at BK23001 BK23006 HI0 HK HB hHeld ⊢
   refine zy 0 (some 10) HT_.out ?_
   refine zy 3 (some 13) HT_.out ?_
   refine ztk 1 (some 11) HT_.out HW_.out hHeld ?_
   refine zy 2 (some 12) HT_.out ?_
   refine zon 4 (some 14) HT_.out (fun K hK=>?_)
   refine goes_ Try.func45 (by kernel_rfl) rfl #[.pointer (some ⟨g,0,none⟩),.int .i64 3,.string (⟨#[88,89,90]⟩:ByteArray)] (by rfl) rfl rfl za4 ?_
   with_reducible refine (spec_l8Draw.calls k g s0_0 t23008 t23009 3 (⟨#[88,89,90]⟩:ByteArray) t23010 t23011 t23012 w0 _ za38 za39 A6.out).mono ?_
   rintro e w16 ⟨rfl,hi,hb,hk⟩
   refine ⟨_,rfl,?_⟩
   replace BK23001:=zk (KeepBut.blk hk (g':=gb23001) (o:=.cells #[.string (⟨#[]⟩:ByteArray),.string (⟨#[]⟩:ByteArray)] 25 (0,0)) (za1 BK23001.out) NB23001_0.out (by simp))
   replace BK23006:=zk (KeepBut.blk hk (g':=gb23006) (o:=.cells #[.string t23002,.string t23003] 25 (0,0)) (za1 BK23006.out) NB23006_0.out (by simp))
   replace HK:=zk (KeepBut.trans za42 hk (.inl rfl))
   replace HB:=zk (hb)
   replace HI0:=zk (hi)
   (try clear hb)
   (try clear hb2)
   (try clear hk)
   (try clear hi)
   refine hK.out _ _ ⟨(blk_cell BK23006.out 0).trans rfl,(blk_cell BK23006.out 1).trans rfl⟩ (fun hHeld=>?_)
   clear hK K
   refine zno (some 14) ?_
   refine zy 5 (some 15) HT_.out ?_
   refine zy 6 (some 16) HT_.out ?_
   refine last_ (i:=7) (N:=none) #[true,true,true,true,true,true,true,true] rfl rfl (one_of HT_.out (by kernel_rfl)) (by decide) (fun K hK=>?_)
   have hs17:w16.cell? ⟨gb23006,0,none⟩=some (.string t23002):=(blk_cell BK23006.out 0).trans rfl
   have hfs17:=blk_frozen BK23006.out 0
   have hns17_0:=NB23001_23006.out
   have hms17_0:=NB23006_23001.out
   refine skip_ (w1:=?_) (by rfl) rfl ?_ ?_
   rotate_left
   ·go_simp
    rfl
   refine hK.out _ _ ?_
   clear hK K
   refine done_ (done_of HT_.out (by kernel_rfl)) ?_
   obtain ⟨hcz18_0,hcz18_1,hfz18_0,hfz18_1⟩:=blk2 BK23006.out
   have hnb19:=NB23001_0.out
   have hnc19:=NB0_23001.out
   obtain ⟨hcz20_0,hcz20_1,hfz20_0,hfz20_1⟩:=blk2 BK23001.out
   try go_wp2
   refine bodyPost_ret (results_cell_row rfl _ _ gb23001 25 #[.string ((t23002 ++ (⟨#[35]⟩:ByteArray)) ++ t23010),.string t23003] (0,0) _ rfl (by (with_reducible repeat (first|refine blk_drewN ?_ _|refine blk_drew ?_|refine blk_alloc ?_ _));refine blk_put (cs:=#[.string ((t23002 ++ (⟨#[35]⟩:ByteArray)) ++ t23010),.string (⟨#[]⟩:ByteArray)]) ?_ 1 _ rfl;(with_reducible repeat (first|refine blk_drewN ?_ _|refine blk_drew ?_|refine blk_alloc ?_ _));refine blk_put (cs:=#[.string (⟨#[]⟩:ByteArray),.string (⟨#[]⟩:ByteArray)]) ?_ 0 _ rfl;(with_reducible repeat (first|refine blk_drewN ?_ _|refine blk_drew ?_|refine blk_alloc ?_ _));refine blk_far ?_ NB23001_23006.out _;(with_reducible repeat (first|refine blk_drewN ?_ _|refine blk_drew ?_|refine blk_alloc ?_ _));exact BK23001.out) Try.underlying25 rfl (by kernel_rfl)) rfl ?_
   exact ⟨za9,za38,za39,za42⟩
 · rw [if_neg c7] at H
   exact absurd H (by simp)
 · rw [if_neg c5] at H
   exact absurd H (by simp)
 rw [if_neg c4] at H
 have c4b0:=zbn c4
 have c4b1:=zqt c4
 by_cases c21:t23007=1
 rw [if_pos c21] at H
 have c21b0:=zbt c21
 have c21b1:=zqn c21
 clear c21
 replace H:=zo H
 obtain ⟨⟨t23013,t23014,t23015⟩,A220,H⟩:=H
 try dsimp only at H
 have A22:=zk A220
 clear A220
 have fin0_:=zk trivial
 rotate_left
 rw [if_neg c21] at H
 have c21b0:=zbn c21
 have c21b1:=zqt c21
 by_cases c34:t23007=2
 rw [if_pos c34] at H
 have c34b0:=zbt c34
 have c34b1:=zqn c34
 clear c34
 by_cases c35:24+t23002.size≤9223372036854775807
 rw [if_pos c35] at H
 have c35z:=c35
 try simp at c35z
 try replace c35z:=eq_false (Nat.not_lt.2 c35z)
 have c35b0:=eq_true c35
 have c35b1:=zdle c35
 try have c35b2:(9223372036854775807 < 24+t23002.size)=False:=eq_false (Nat.not_lt.2 c35)
 have fin1_:=zk trivial
 rotate_left
 · rw [if_neg c35] at H
   exact absurd H (by simp)
 rw [if_neg c34] at H
 have c34b0:=zbn c34
 have c34b1:=zqt c34
 by_cases c46:t23007=3
 rw [if_pos c46] at H
 have c46b0:=zbt c46
 have c46b1:=zqn c46
 clear c46
 by_cases c47:1+t23002.size≤9223372036854775807
 rw [if_pos c47] at H
 have c47z:=c47
 try simp at c47z
 try replace c47z:=eq_false (Nat.not_lt.2 c47z)
 have c47b0:=eq_true c47
 have c47b1:=zdle c47
 try have c47b2:(9223372036854775807 < 1+t23002.size)=False:=eq_false (Nat.not_lt.2 c47)
 by_cases c48:2+t23003.size≤9223372036854775807
 rw [if_pos c48] at H
 have c48z:=c48
 try simp at c48z
 try replace c48z:=eq_false (Nat.not_lt.2 c48z)
 have c48b0:=eq_true c48
 have c48b1:=zdle c48
 try have c48b2:(9223372036854775807 < 2+t23003.size)=False:=eq_false (Nat.not_lt.2 c48)
 have fin2_:=zk trivial
 rotate_left
 · rw [if_neg c48] at H
   exact absurd H (by simp)
 · rw [if_neg c47] at H
   exact absurd H (by simp)
 rw [if_neg c46] at H
 have c46b0:=zbn c46
 have c46b1:=zqt c46
 have fin3_:=zk trivial
 rotate_left
 all_goals
  simp only [Option.some.injEq,Prod.mk.injEq] at H
  obtain ⟨rfl,rfl,rfl,rfl⟩:=H
  go_enter Try.func23,Try.ntmps23
  go_wp2_with (first|((with_reducible refine gate_dst (N:=2) rfl ?_);refine zE (N:=2) (cs:=#[.string (⟨#[]⟩:ByteArray),.string (⟨#[]⟩:ByteArray)]) (t:=25) ?_;intro gb23001 hg w23 hbox hb;replace HB:=zk (below_step za12 hb);have BK23001:=zk (hbox);have GW23001:=zk ((by rw [hg];exact (keep_size (w:=w) (g:=g) (row:=none) za6):w.heap.size≤gb23001));have GE23001:=zk ((Nat.le_trans HW0.out (by rw [hg];exact (keep_size (w:=w) (g:=g) (row:=none) za6):w.heap.size≤gb23001):w0.heap.size≤gb23001));have NB0_23001:=zk ((by rw [hg];exact Nat.ne_of_lt (IsS69.lt (show IsS69 w0 _ g s0_0 s0_1 s0_2 from za5)):g ≠ gb23001));have NB23001_0:=zk ((by rw [hg];exact Nat.ne_of_gt (IsS69.lt (show IsS69 w0 _ g s0_0 s0_1 s0_2 from za5)):gb23001 ≠ g));replace HI0:=zk (IsS69.below za5 hb);replace HK:=zk (KeepBut.trans za6 (KeepBut.of_below hb g none) (.inl rfl));clear hb hbox hg)|((with_reducible refine gate_callee (f:=44) rfl ?_);refine goesL_ (some 5) rfl rfl Try.func44 (by kernel_rfl) rfl #[.pointer (some ⟨g,0,none⟩)] rfl za4 ?_;(with_reducible refine (spec_l12Draw.calls k g s0_0 s0_1 s0_2 t23002 t23003 t23004 t23005 w0 _ za51 za80 A2.out).mono ?_);rintro e w24 ⟨rfl,hi,hb,hk⟩;refine ⟨_,rfl,?_⟩;replace BK23001:=zk (KeepBut.blk hk (g':=gb23001) (o:=.cells #[.string (⟨#[]⟩:ByteArray),.string (⟨#[]⟩:ByteArray)] 25 (0,0)) (za1 BK23001.out) NB23001_0.out (by simp));replace HK:=zk (KeepBut.trans za54 hk (.inl rfl));replace HB:=zk (hb);replace HI0:=zk (hi);(try clear hb);(try clear hb2);(try clear hk);(try clear hi))|((with_reducible refine gate_dst (N:=3) rfl ?_);refine zE (N:=3) (cs:=#[.string (⟨#[]⟩:ByteArray),.string (⟨#[]⟩:ByteArray)]) (t:=25) ?_;intro gb23006 hg w25 hbox hb;replace HB:=zk (below_step za80 hb);have BK23006:=zk (hbox);have GW23006:=zk ((by rw [hg];exact (keep_size (w:=w) (g:=g) (row:=none) za54):w.heap.size≤gb23006));have GE23006:=zk ((Nat.le_trans HW0.out (by rw [hg];exact (keep_size (w:=w) (g:=g) (row:=none) za54):w.heap.size≤gb23006):w0.heap.size≤gb23006));have NB23001_23006:=zk ((by rw [hg];exact Nat.ne_of_lt (zl BK23001.out):gb23001 ≠ gb23006));have NB23006_23001:=zk ((by rw [hg];exact Nat.ne_of_gt (zl BK23001.out):gb23006 ≠ gb23001));have NB0_23006:=zk ((by rw [hg];exact Nat.ne_of_lt (IsS69.lt (show IsS69 w0 _ g s0_0 t23004 t23005 from za51)):g ≠ gb23006));have NB23006_0:=zk ((by rw [hg];exact Nat.ne_of_gt (IsS69.lt (show IsS69 w0 _ g s0_0 t23004 t23005 from za51)):gb23006 ≠ g));replace HI0:=zk (IsS69.below za51 hb);replace BK23001:=zk (zb BK23001.out hb);replace HK:=zk (KeepBut.trans za54 (KeepBut.of_below hb g none) (.inl rfl));clear hb hbox hg;have hnb26:=NB23006_23001.out;have hnc26:=NB23001_23006.out;have hnb27:=NB23006_0.out;have hnc27:=NB0_23006.out;obtain ⟨hcz28_0,hcz28_1,hfz28_0,hfz28_1⟩:=blk2 BK23006.out)|((with_reducible refine gate_callee (f:=42) rfl ?_);refine goesL_ (some 7) rfl rfl Try.func42 (by kernel_rfl) rfl #[.pointer (some ⟨g,0,none⟩),.int .i64 10] rfl za4 ?_;(with_reducible refine (spec_l1Below.calls g s0_0 t23004 t23005 10 t23007 t23008 t23009 w0 _ za38 za39 A3.out).mono ?_);rintro e w42 ⟨rfl,hi,hb,hk⟩;refine ⟨_,rfl,?_⟩;replace BK23001:=zk (KeepBut.blk hk (g':=gb23001) (o:=.cells #[.string (⟨#[]⟩:ByteArray),.string (⟨#[]⟩:ByteArray)] 25 (0,0)) za84 NB23001_0.out (by simp));replace BK23006:=zk (KeepBut.blk hk (g':=gb23006) (o:=.cells #[.string t23002,.string t23003] 25 (0,0)) (zpu BK23006.out) NB23006_0.out (by simp));replace HK:=zk (KeepBut.trans za42 hk (.inl rfl));replace HB:=zk (hb);replace HI0:=zk (hi);(try clear hb);(try clear hb2);(try clear hk);(try clear hi);obtain ⟨hcz43_0,hcz43_1,hfz43_0,hfz43_1⟩:=blk2 BK23006.out;have hnb44:=NB23001_0.out;have hnc44:=NB0_23001.out;obtain ⟨hcz45_0,hcz45_1,hfz45_0,hfz45_1⟩:=blk2 BK23001.out)|((with_reducible refine gate_callee (f:=46) rfl ?_);refine goesL_ (some 20) rfl rfl Try.func46 (by kernel_rfl) rfl #[.pointer (some ⟨g,0,none⟩)] rfl za4 ?_;(with_reducible refine (spec_l8Any.calls k g s0_0 t23008 t23009 t23013 t23014 t23015 w0 _ za38 za39 A22.out).mono ?_);rintro e w30 ⟨rfl,hi,hb,hk⟩;refine ⟨_,rfl,?_⟩;replace BK23001:=zk (KeepBut.blk hk (g':=gb23001) (o:=.cells #[.string (⟨#[]⟩:ByteArray),.string (⟨#[]⟩:ByteArray)] 25 (0,0)) (za1 BK23001.out) NB23001_0.out (by simp));replace BK23006:=zk (KeepBut.blk hk (g':=gb23006) (o:=.cells #[.string t23002,.string t23003] 25 (0,0)) (za1 BK23006.out) NB23006_0.out (by simp));replace HK:=zk (KeepBut.trans za42 hk (.inl rfl));replace HB:=zk (hb);replace HI0:=zk (hi);(try clear hb);(try clear hb2);(try clear hk);(try clear hi);obtain ⟨hcz31_0,hcz31_1,hfz31_0,hfz31_1⟩:=blk2 BK23006.out;have hnb32:=NB23001_0.out;have hnc32:=NB0_23001.out;obtain ⟨hcz33_0,hcz33_1,hfz33_0,hfz33_1⟩:=blk2 BK23001.out))
  first
  | (
    clear fin0_
    refine bodyPost_ret (results_cell_row rfl _ _ gb23001 25 #[.string t23002,.string t23013] (0,0) _ rfl (by (with_reducible repeat (first|refine blk_drewN ?_ _|refine blk_drew ?_|refine blk_alloc ?_ _));refine blk_put (cs:=#[.string t23002,.string (⟨#[]⟩:ByteArray)]) ?_ 1 _ rfl;(with_reducible repeat (first|refine blk_drewN ?_ _|refine blk_drew ?_|refine blk_alloc ?_ _));refine blk_put (cs:=#[.string (⟨#[]⟩:ByteArray),.string (⟨#[]⟩:ByteArray)]) ?_ 0 _ rfl;(with_reducible repeat (first|refine blk_drewN ?_ _|refine blk_drew ?_|refine blk_alloc ?_ _));refine blk_far ?_ NB23001_23006.out _;(with_reducible repeat (first|refine blk_drewN ?_ _|refine blk_drew ?_|refine blk_alloc ?_ _));exact BK23001.out) Try.underlying25 rfl (by kernel_rfl)) rfl ?_
    exact ⟨za9,za38,za39,za42⟩)
  | (
    clear fin1_
    refine bodyPost_ret (results_cell_row rfl _ _ gb23001 25 #[.string ((⟨#[97,97,97,97,97,97,97,97,97,97,97,97,97,97,97,97,97,97,97,97,97,97,97,97]⟩:ByteArray) ++ t23002),.string t23003] (0,0) _ rfl (by (with_reducible repeat (first|refine blk_drewN ?_ _|refine blk_drew ?_|refine blk_alloc ?_ _));refine blk_put (cs:=#[.string ((⟨#[97,97,97,97,97,97,97,97,97,97,97,97,97,97,97,97,97,97,97,97,97,97,97,97]⟩:ByteArray) ++ t23002),.string (⟨#[]⟩:ByteArray)]) ?_ 1 _ rfl;(with_reducible repeat (first|refine blk_drewN ?_ _|refine blk_drew ?_|refine blk_alloc ?_ _));refine blk_put (cs:=#[.string (⟨#[]⟩:ByteArray),.string (⟨#[]⟩:ByteArray)]) ?_ 0 _ rfl;(with_reducible repeat (first|refine blk_drewN ?_ _|refine blk_drew ?_|refine blk_alloc ?_ _));refine blk_far ?_ NB23001_23006.out _;(with_reducible repeat (first|refine blk_drewN ?_ _|refine blk_drew ?_|refine blk_alloc ?_ _));exact BK23001.out) Try.underlying25 rfl (by kernel_rfl)) rfl ?_
    exact ⟨za9,za38,za39,za42⟩)
  | (
    clear fin2_
    refine bodyPost_ret (results_cell_row rfl _ _ gb23001 25 #[.string ((⟨#[35]⟩:ByteArray) ++ t23002),.string ((⟨#[35,97]⟩:ByteArray) ++ t23003)] (0,0) _ rfl (by (with_reducible repeat (first|refine blk_drewN ?_ _|refine blk_drew ?_|refine blk_alloc ?_ _));refine blk_put (cs:=#[.string ((⟨#[35]⟩:ByteArray) ++ t23002),.string (⟨#[]⟩:ByteArray)]) ?_ 1 _ rfl;(with_reducible repeat (first|refine blk_drewN ?_ _|refine blk_drew ?_|refine blk_alloc ?_ _));refine blk_put (cs:=#[.string (⟨#[]⟩:ByteArray),.string (⟨#[]⟩:ByteArray)]) ?_ 0 _ rfl;(with_reducible repeat (first|refine blk_drewN ?_ _|refine blk_drew ?_|refine blk_alloc ?_ _));refine blk_far ?_ NB23001_23006.out _;(with_reducible repeat (first|refine blk_drewN ?_ _|refine blk_drew ?_|refine blk_alloc ?_ _));refine blk_far ?_ NB23001_23006.out _;(with_reducible repeat (first|refine blk_drewN ?_ _|refine blk_drew ?_|refine blk_alloc ?_ _));exact BK23001.out) Try.underlying25 rfl (by kernel_rfl)) rfl ?_
    exact ⟨za9,za38,za39,za42⟩)
  | (
    clear fin3_
    refine bodyPost_ret (results_cell_row rfl _ _ gb23001 25 #[.string t23002,.string t23003] (0,0) _ rfl (zpu BK23001.out) Try.underlying25 rfl (by kernel_rfl)) rfl ?_
    exact ⟨za9,za38,za39,za42⟩)
def spec_DrawMovesOf.f (k:Nat) (l0:List Int):Option (ByteArray × ByteArray):=(spec_l1New.f k l0).bind fun bt5002=>((spec_l12Bent.f k bt5002.1 bt5002.2.1 bt5002.2.2).bind fun bt5006=>(some (bt5006.1,bt5006.2.1)))
theorem spec_DrawMovesOf.calls (k:Nat) (A0:Option Addr) (c0:Nat) (l0:List Int) (r1:ByteArray) (r2:ByteArray) (w:World) (hr0:Kd.C (Kd.int .u8) w A0 l0.length l0) (hc0:l0.length≤c0) (h:spec_DrawMovesOf.f k l0=some (r1,r2)) :
  Calls Try.prog 5 #[.slice A0 l0.length c0] w fun e w'=>e = .returned (.agg #[.string r1,.string r2])∧Below w.heap.size w w':=by
 have hu25:=Try.underlying25
 have HR0:=zk hr0
 have HC0:=zk hc0
 clear hr0 hc0
 have HB:=zk (Below.refl w.heap.size w)
 have H:=h
 unfold spec_DrawMovesOf.f at H
 clear h
 replace H:=zo H
 obtain ⟨⟨t5002,t5003,t5004⟩,A20,H⟩:=H
 try dsimp only at H
 have A2:=zk A20
 clear A20
 replace H:=zo H
 obtain ⟨⟨t5006,t5007,t5008,t5009⟩,A30,H⟩:=H
 try dsimp only at H
 have A3:=zk A30
 clear A30
 simp only [Option.some.injEq,Prod.mk.injEq] at H
 obtain ⟨rfl,rfl⟩:=H
 go_enter Try.func5,Try.ntmps5
 go_wp2_with (first|((with_reducible refine gate_dst (N:=2) rfl ?_);refine zE (N:=2) (cs:=#[.string (⟨#[]⟩:ByteArray),.string (⟨#[]⟩:ByteArray)]) (t:=25) ?_;intro gb5001 hg w4 hbox hb;have BK5001:=zk (hbox);have GW5001:=zk (zs (w:=w) hg za3);have GE5001:=zk (zs (w:=w) hg za3);replace HB:=zk (below_step za3 hb);clear hb hbox hg)|((with_reducible refine gate_callee (f:=24) rfl ?_);refine goesL_ (some 4) rfl rfl Try.func24 (by kernel_rfl) rfl #[.slice A0 l0.length c0] rfl za4 ?_;(with_reducible refine (spec_l1New.calls k _ _ l0 t5002 t5003 t5004 w _ (by repeat (first|(with_reducible first|exact HB.out|apply below_alloc|apply pw_below_drewN|apply below_drew1|refine below_set ?_ GE5001.out)|exact HB.out)) ?side2 ?side3 A2.out).mono ?_);(case side2=>exact HR0.out);(case side3=>exact HC0.out);rintro e w5 ⟨g5005,rfl,hi,hb,hb2⟩;refine ⟨_,rfl,?_⟩;replace HB:=zk (hb);have HI5005:=zk (hi);have NB5005_5001:=zk (IsS69.ne_blk hi (zb BK5001.out hb2) (by decide));have NB5001_5005:=zk (Ne.symm (IsS69.ne_blk hi (zb BK5001.out hb2) (by decide)));replace BK5001:=zk (zb BK5001.out hb2);(try clear hb);(try clear hb2);(try clear hk);(try clear hi))|((with_reducible refine gate_callee (f:=23) rfl ?_);refine goesL_ (some 5) rfl rfl Try.func23 (by kernel_rfl) rfl #[.pointer (some ⟨g5005,0,none⟩)] rfl za4 ?_;(with_reducible refine (spec_l12Bent.calls k g5005 t5002 t5003 t5004 t5006 t5007 t5008 t5009 w _ (by repeat (first|(with_reducible first|exact HI5005.out|apply IsS69.alloc|apply IsS69.drewN|apply IsS69.drew|apply IsS69.set_1|apply IsS69.set_2|refine IsS69.far ?_ NB5005_5001.out _)|exact HI5005.out)) za104 A3.out).mono ?_);rintro e w6 ⟨rfl,hi,hb,hk⟩;refine ⟨_,rfl,?_⟩;replace BK5001:=zk (KeepBut.blk hk (g':=gb5001) (o:=.cells #[.string (⟨#[]⟩:ByteArray),.string (⟨#[]⟩:ByteArray)] 25 (0,0)) (za1 BK5001.out) NB5001_5005.out (by simp));replace HB:=zk (hb);replace HI5005:=zk (hi);(try clear hb);(try clear hb2);(try clear hk);(try clear hi);have hnb7:=NB5001_5005.out;have hnc7:=NB5005_5001.out;obtain ⟨hcz8_0,hcz8_1,hfz8_0,hfz8_1⟩:=blk2 BK5001.out))
 refine bodyPost_ret (results_cell_row rfl _ _ gb5001 25 #[.string t5006,.string t5007] (0,0) _ rfl (zpu BK5001.out) Try.underlying25 rfl (by kernel_rfl)) rfl ?_
 exact ⟨za9,za104⟩
def spec_DrawJoinEquations.f (k:Nat) (l0:List Int):Option ((List (S61))):=(spec_l1New.f k l0).bind fun bt19002=>((spec_l10Bent.f k bt19002.1 bt19002.2.1 bt19002.2.2).bind fun bt19006=>(some bt19006.1))
theorem spec_DrawJoinEquations.calls (k:Nat) (A0:Option Addr) (c0:Nat) (l0:List Int) (r:List (S61)) (w:World) (hr0:Kd.C (Kd.int .u8) w A0 l0.length l0) (hc0:l0.length≤c0) (h:spec_DrawJoinEquations.f k l0=some r) :
  Calls Try.prog 19 #[.slice A0 l0.length c0] w fun e w'=>∃ v0_:Value,e = .returned (.agg #[v0_])∧Kd.N k61 61 w' w.heap.size (fun k_=>(w.heap.size≤k_)) v0_ r∧Below w.heap.size w w':=by
 have hu37:=Try.underlying37
 have HR0:=zk hr0
 have HC0:=zk hc0
 clear hr0 hc0
 have HB:=zk (Below.refl w.heap.size w)
 have H:=h
 unfold spec_DrawJoinEquations.f at H
 clear h
 replace H:=zo H
 obtain ⟨⟨t19002,t19003,t19004⟩,A20,H⟩:=H
 try dsimp only at H
 have A2:=zk A20
 clear A20
 replace H:=zo H
 obtain ⟨⟨t19006,t19009,t19010⟩,A30,H⟩:=H
 try dsimp only at H
 have A3:=zk A30
 clear A30
 obtain rfl:=zi H
 go_enter Try.func19,Try.ntmps19
 go_wp2_with (first|((with_reducible refine gate_dst (N:=2) rfl ?_);refine zE (N:=2) (cs:=#[.slice none 0 0]) (t:=37) ?_;intro gb19001 hg w4 hbox hb;have BK19001:=zk (hbox);have GW19001:=zk (zs (w:=w) hg za3);have GE19001:=zk (zs (w:=w) hg za3);replace HB:=zk (below_step za3 hb);clear hb hbox hg)|((with_reducible refine gate_callee (f:=24) rfl ?_);refine goesL_ (some 4) rfl rfl Try.func24 (by kernel_rfl) rfl #[.slice A0 l0.length c0] rfl za4 ?_;(with_reducible refine (spec_l1New.calls k _ _ l0 t19002 t19003 t19004 w _ (by repeat (first|(with_reducible first|exact HB.out|apply below_alloc|apply pw_below_drewN|apply below_drew1|refine below_set ?_ GE19001.out)|exact HB.out)) ?side2 ?side3 A2.out).mono ?_);(case side2=>exact HR0.out);(case side3=>exact HC0.out);rintro e w5 ⟨g19005,rfl,hi,hb,hb2⟩;refine ⟨_,rfl,?_⟩;replace HB:=zk (hb);have HI19005:=zk (hi);have NB19005_19001:=zk (IsS69.ne_blk hi (zb BK19001.out hb2) (by decide));have NB19001_19005:=zk (Ne.symm (IsS69.ne_blk hi (zb BK19001.out hb2) (by decide)));replace BK19001:=zk (zb BK19001.out hb2);(try clear hb);(try clear hb2);(try clear hk);(try clear hi))|((with_reducible refine gate_callee (f:=36) rfl ?_);refine goesL_ (some 5) rfl rfl Try.func36 (by kernel_rfl) rfl #[.pointer (some ⟨g19005,0,none⟩)] rfl za4 ?_;(with_reducible refine (spec_l10Bent.calls k g19005 t19002 t19003 t19004 t19006 t19009 t19010 w _ za101 za78 A3.out).mono ?_);rintro e w6 ⟨v19007,rfl,ho0,hi,hb,hk⟩;refine ⟨_,rfl,?_⟩;have HO19008:=zk (Kd.N_lower (Kd.N_mono (ok':=fun k_=>(w.heap.size≤k_)∧k_ ≠ gb19001∧k_ ≠ g19005) ho0 (fun k_ hk_=>⟨(Nat.le_trans (below_size za78) hk_),(Kd.freshB (g:=gb19001) (o:=.cells #[.slice none 0 0] 37 (0,0)) (za1 BK19001.out) k_ hk_),(IsS69.fresh za101 k_ hk_)⟩)) (below_size za78));replace BK19001:=zk (KeepBut.blk hk (g':=gb19001) (o:=.cells #[.slice none 0 0] 37 (0,0)) (za1 BK19001.out) NB19001_19005.out (by simp));replace HB:=zk (hb);replace HI19005:=zk (hi);(try clear hb);(try clear hb2);(try clear hk);(try clear hi);(try clear ho0);obtain ⟨Ao7,co7,eo7⟩:=Kd.N_slice HO19008.out;subst eo7;have hnb8:=NB19001_19005.out;have hnc8:=NB19005_19001.out;obtain ⟨hcz9_0,hfz9_0⟩:=blk1 BK19001.out))
 refine bodyPost_ret (results_cell_row rfl _ _ gb19001 37 #[.slice Ao7 t19006.length co7] (0,0) _ rfl (zpu BK19001.out) Try.underlying37 rfl (by kernel_rfl)) rfl ?_
 exact ⟨_,za9,by (with_reducible repeat (first|apply Kd.N_alloc|apply Kd.N_drewN|apply Kd.N_drew));exact Kd.N_mono (zfN (Kd.N_mono HO19008.out (fun k_ hk=>(⟨hk,hk.2.1⟩:_∧k_ ≠ gb19001)))) (fun _ hk=>hk.1.1),za78⟩
def spec_DrawApplyMove.j0:Nat→List (S33)→Bool→List Int→Int→Int→ByteArray→ByteArray→Option (ByteArray × ByteArray × Int × ByteArray)
 | 0,_,_,_,_,_,_,_=>none
 | k+1,x6,x19,x22007000,x22007001,x22007002,x22012000,x22012001=>if x19=true then ((spec_l1Below.f x22007000 x22007001 x22007002 3).bind fun bt22018=>(if 0≤bt22018.1 then (if bt22018.1 < 3 then ((spec_l1Pick.f x22007000 bt22018.2.1 bt22018.2.2 (([(⟨#[]⟩:ByteArray),(⟨#[97,88]⟩:ByteArray),(⟨#[98]⟩:ByteArray)]:List ByteArray))).bind fun bt22024=>(some (x22012000,x22012001,bt (⟨#[88,89,90]⟩:ByteArray) bt22018.1,bt22024.1))) else (none)) else (none))) else ((spec_l1Below.f x22007000 x22007001 x22007002 (x6.length:Int)).bind fun bt22027=>(if 0≤bt22027.1 then (if bt22027.1 < (x6.length:Int) then (some (x22012000,x22012001,(rd_T33 x6 bt22027.1).f0,(rd_T33 x6 bt22027.1).f1)) else (none)) else (none)))
def spec_DrawApplyMove.f (k:Nat) (l0:List Int):Option (ByteArray × ByteArray × Int × ByteArray):=(spec_l1New.f k l0).bind fun bt22003=>((spec_l12Bent.f k bt22003.1 bt22003.2.1 bt22003.2.2).bind fun bt22007=>((spec_MovesOf.f k bt22007.1 bt22007.2.1).bind fun t22012=>(if (t22012.length:Int)=0 then (spec_DrawApplyMove.j0 k t22012 true bt22003.1 bt22007.2.2.1 bt22007.2.2.2 bt22007.1 bt22007.2.1) else ((spec_l1Once.f bt22003.1 bt22007.2.2.1 bt22007.2.2.2 10).bind fun bt22015=>(spec_DrawApplyMove.j0 k t22012 bt22015.1 bt22003.1 bt22015.2.1 bt22015.2.2 bt22007.1 bt22007.2.1)))))
def spec_DrawApplyMove.T5:Bool × List (List Nat × List Nat):=(true,[([],[]),([],[]),([1],[1]),([2],[2]),([],[]),([],[]),([4,5,2],[4,5]),([3,6],[3,6]),([0,6,0],[0]),([7,8,0,1,2,3,4,5,6,7,8],[7])])
def spec_DrawApplyMove.B5:List Nat:=[0,0,2,6,0,0,54,126,119,511]
theorem spec_DrawApplyMove.tab5:rtab .any (opsOf Try.f22 5)=spec_DrawApplyMove.T5:=by kernel_rfl
theorem spec_DrawApplyMove.bits5:waitsOk spec_DrawApplyMove.T5.2 spec_DrawApplyMove.B5=true:=by kernel_rfl
def spec_DrawApplyMove.T6:Bool × List (List Nat × List Nat):=(true,[([],[]),([],[]),([],[]),([],[]),([3],[3]),([2,4],[2,4]),([1,5],[1,5]),([6],[6]),([0,5,0],[0]),([7,8,0,1,2,3,4,5,6,7,8],[7])])
def spec_DrawApplyMove.B6:List Nat:=[0,0,0,0,8,28,62,126,61,511]
theorem spec_DrawApplyMove.tab6:rtab .any (opsOf Try.f22 6)=spec_DrawApplyMove.T6:=by kernel_rfl
theorem spec_DrawApplyMove.bits6:waitsOk spec_DrawApplyMove.T6.2 spec_DrawApplyMove.B6=true:=by kernel_rfl
theorem spec_DrawApplyMove.calls (k:Nat) (A0:Option Addr) (c0:Nat) (l0:List Int) (r1:ByteArray) (r2:ByteArray) (r3:Int) (r4:ByteArray) (w:World) (hr0:Kd.C (Kd.int .u8) w A0 l0.length l0) (hc0:l0.length≤c0) (h:spec_DrawApplyMove.f k l0=some (r1,r2,r3,r4)) :
   Calls Try.prog 22 #[.slice A0 l0.length c0] w fun e w'=>e = .returned (.tuple #[.agg #[.string r1,.string r2],.agg #[.int .u8 r3,.string r4]])∧Below w.heap.size w w':=by
 have hu25:=Try.underlying25
 have hu33:=Try.underlying33
 have HR0:=zk hr0
 have HC0:=zk hc0
 clear hr0 hc0
 have HB:=zk (Below.refl w.heap.size w)
 have H:=h
 unfold spec_DrawApplyMove.f at H
 clear h
 replace H:=zo H
 obtain ⟨⟨t22003,t22004,t22005⟩,A20,H⟩:=H
 try dsimp only at H
 have A2:=zk A20
 clear A20
 replace H:=zo H
 obtain ⟨⟨t22007,t22008,t22009,t22010⟩,A30,H⟩:=H
 try dsimp only at H
 have A3:=zk A30
 clear A30
 replace H:=zo H
 obtain ⟨t22012,A40,H⟩:=H
 try dsimp only at H
 have A4:=zk A40
 clear A40
 have HC5:=zk H
 clear H
 go_enter Try.func22,Try.ntmps22
 go_upto_region 4 with (first|((with_reducible refine gate_dst (N:=2) rfl ?_);refine zE (N:=2) (cs:=#[.string (⟨#[]⟩:ByteArray),.string (⟨#[]⟩:ByteArray)]) (t:=25) ?_;intro gb22001 hg w6 hbox hb;have BK22001:=zk (hbox);have GW22001:=zk (zs (w:=w) hg za3);have GE22001:=zk (zs (w:=w) hg za3);replace HB:=zk (below_step za3 hb);clear hb hbox hg)|((with_reducible refine gate_dst (N:=3) rfl ?_);refine zE (N:=3) (cs:=#[.int .u8 0,.string (⟨#[]⟩:ByteArray)]) (t:=33) ?_;intro gb22002 hg w7 hbox hb;have BK22002:=zk (hbox);have GW22002:=zk (zs (w:=w) hg za3);have GE22002:=zk (zs (w:=w) hg za3);have NB22001_22002:=zk ((by rw [hg];exact Nat.ne_of_lt (zl BK22001.out):gb22001 ≠ gb22002));have NB22002_22001:=zk ((by rw [hg];exact Nat.ne_of_gt (zl BK22001.out):gb22002 ≠ gb22001));replace BK22001:=zk (zb BK22001.out hb);replace HB:=zk (below_step za3 hb);clear hb hbox hg)|((with_reducible refine gate_callee (f:=24) rfl ?_);refine goesL_ (some 8) rfl rfl Try.func24 (by kernel_rfl) rfl #[.slice A0 l0.length c0] rfl za4 ?_;(with_reducible refine (spec_l1New.calls k _ _ l0 t22003 t22004 t22005 w _ (by repeat (first|(with_reducible first|exact HB.out|apply below_alloc|apply pw_below_drewN|apply below_drew1|refine below_set ?_ GE22001.out|refine below_set ?_ GE22002.out)|exact HB.out)) ?side2 ?side3 A2.out).mono ?_);(case side2=>exact HR0.out);(case side3=>exact HC0.out);rintro e w8 ⟨g22006,rfl,hi,hb,hb2⟩;refine ⟨_,rfl,?_⟩;replace HB:=zk (hb);have HI22006:=zk (hi);have NB22006_22001:=zk (IsS69.ne_blk hi (zb BK22001.out hb2) (by decide));have NB22001_22006:=zk (Ne.symm (IsS69.ne_blk hi (zb BK22001.out hb2) (by decide)));have NB22006_22002:=zk (IsS69.ne_blk hi (zb BK22002.out hb2) (by decide));have NB22002_22006:=zk (Ne.symm (IsS69.ne_blk hi (zb BK22002.out hb2) (by decide)));replace BK22001:=zk (zb BK22001.out hb2);replace BK22002:=zk (zb BK22002.out hb2);(try clear hb);(try clear hb2);(try clear hk);(try clear hi))|((with_reducible refine gate_callee (f:=23) rfl ?_);refine goesL_ (some 10) rfl rfl Try.func23 (by kernel_rfl) rfl #[.pointer (some ⟨g22006,0,none⟩)] rfl za4 ?_;(with_reducible refine (spec_l12Bent.calls k g22006 t22003 t22004 t22005 t22007 t22008 t22009 t22010 w _ za71 za73 A3.out).mono ?_);rintro e w9 ⟨rfl,hi,hb,hk⟩;refine ⟨_,rfl,?_⟩;replace BK22001:=zk (KeepBut.blk hk (g':=gb22001) (o:=.cells #[.string (⟨#[]⟩:ByteArray),.string (⟨#[]⟩:ByteArray)] 25 (0,0)) (za1 BK22001.out) NB22001_22006.out (by simp));replace BK22002:=zk (KeepBut.blk hk (g':=gb22002) (o:=.cells #[.int .u8 0,.string (⟨#[]⟩:ByteArray)] 33 (0,0)) (za1 BK22002.out) NB22002_22006.out (by simp));replace HB:=zk (hb);replace HI22006:=zk (hi);(try clear hb);(try clear hb2);(try clear hk);(try clear hi))|((with_reducible refine gate_dst (N:=5) rfl ?_);refine zE (N:=5) (cs:=#[.string (⟨#[]⟩:ByteArray),.string (⟨#[]⟩:ByteArray)]) (t:=25) ?_;intro gb22011 hg w10 hbox hb;have BK22011:=zk (hbox);have GW22011:=zk (zs (w:=w) hg za73);have GE22011:=zk (zs (w:=w) hg za73);have NB22001_22011:=zk ((by rw [hg];exact Nat.ne_of_lt (zl BK22001.out):gb22001 ≠ gb22011));have NB22011_22001:=zk ((by rw [hg];exact Nat.ne_of_gt (zl BK22001.out):gb22011 ≠ gb22001));have NB22002_22011:=zk ((by rw [hg];exact Nat.ne_of_lt (zl BK22002.out):gb22002 ≠ gb22011));have NB22011_22002:=zk ((by rw [hg];exact Nat.ne_of_gt (zl BK22002.out):gb22011 ≠ gb22002));have NB22006_22011:=zk ((by rw [hg];exact Nat.ne_of_lt (IsS69.lt (show IsS69 w _ g22006 t22003 t22009 t22010 from za71)):g22006 ≠ gb22011));have NB22011_22006:=zk ((by rw [hg];exact Nat.ne_of_gt (IsS69.lt (show IsS69 w _ g22006 t22003 t22009 t22010 from za71)):gb22011 ≠ g22006));replace BK22001:=zk (zb BK22001.out hb);replace BK22002:=zk (zb BK22002.out hb);replace HB:=zk (below_step za73 hb);replace HI22006:=zk (IsS69.below za71 hb);clear hb hbox hg;have hnb11:=NB22011_22001.out;have hnc11:=NB22001_22011.out;have hnb12:=NB22011_22002.out;have hnc12:=NB22002_22011.out;have hnb13:=NB22011_22006.out;have hnc13:=NB22006_22011.out;obtain ⟨hcz14_0,hcz14_1,hfz14_0,hfz14_1⟩:=blk2 BK22011.out)|((with_reducible refine gate_callee (f:=7) rfl ?_);refine goesL_ (some 12) rfl rfl Try.func7 (by kernel_rfl) rfl #[.agg #[.string t22007,.string t22008]] rfl za4 ?_;(with_reducible refine (spec_MovesOf.calls k t22007 t22008 t22012 _ A4.out).mono ?_);rintro e w15 ⟨v22013,rfl,ho0,hb⟩;refine ⟨_,rfl,?_⟩;have HO22014:=zk (Kd.R_lower (Kd.R_newB ho0 (g:=gb22002) (o:=.cells #[.int .u8 0,.string (⟨#[]⟩:ByteArray)] 33 (0,0)) za85) (below_size za27));replace BK22001:=zk (blk_below (g:=gb22001) (o:=.cells #[.string (⟨#[]⟩:ByteArray),.string (⟨#[]⟩:ByteArray)] 25 (0,0)) (by (with_reducible repeat (first|refine blk_drewN ?_ _|refine blk_drew ?_|refine blk_alloc ?_ _));refine blk_far ?_ NB22001_22011.out _;(with_reducible repeat (first|refine blk_drewN ?_ _|refine blk_drew ?_|refine blk_alloc ?_ _));refine blk_far ?_ NB22001_22011.out _;(with_reducible repeat (first|refine blk_drewN ?_ _|refine blk_drew ?_|refine blk_alloc ?_ _));exact BK22001.out) hb);replace BK22011:=zk (blk_below (g:=gb22011) (o:=.cells #[.string t22007,.string t22008] 25 (0,0)) (zpu BK22011.out) hb);replace BK22002:=zk (blk_below (g:=gb22002) (o:=.cells #[.int .u8 0,.string (⟨#[]⟩:ByteArray)] 33 (0,0)) za85 hb);replace HB:=zk (below_step za27 hb);replace HI22006:=zk (IsS69.below (show IsS69 w ((w10.setCell ⟨gb22011,0,none⟩ (.string t22007)).setCell ⟨gb22011,1,none⟩ (.string t22008)) g22006 t22003 t22009 t22010 from za16) hb);(try clear hb);(try clear hb2);(try clear hk);(try clear hi);(try clear ho0)))
 (try simp only [Act.put,zt,zu,zv])
 go_cut [19] (fun v19 wc=>∃ (kq:Nat) (x19_4:Bool) (x22007001_4:Int) (x22007002_4:Int),v19 = .bool x19_4∧Aside0 (spec_DrawApplyMove.j0 kq t22012 x19_4 t22003 x22007001_4 x22007002_4 t22007 t22008=some (r1,r2,r3,r4))∧Aside0 (kq≤k)∧Aside0 (Kd.R k33 33 wc w.heap.size (fun k_=>k_ ≠ gb22002) v22013 t22012)∧Aside0 (wc.heap[gb22001]? = some (.cells #[.string (⟨#[]⟩:ByteArray),.string (⟨#[]⟩:ByteArray)] 25 (0,0)))∧Aside0 (wc.heap[gb22002]? = some (.cells #[.int .u8 0,.string (⟨#[]⟩:ByteArray)] 33 (0,0)))∧Aside0 (wc.heap[gb22011]? = some (.cells #[.string t22007,.string t22008] 25 (0,0)))∧Aside0 (IsS69 w wc g22006 t22003 x22007001_4 x22007002_4)∧Aside0 (Below w.heap.size w wc))
 case first =>
  have H:=HC5.out
  clear HC5
  by_cases c16:(t22012.length:Int)=0
  · rw [if_pos c16] at H
    have c16b0:=zbt c16
    have c16b1:=zqn c16
    clear c16
    (first|rw [c16b0]|(simp only [i64_w,i32_w];rw [c16b0])|skip)
    have H':=zk H
    clear H
    obtain ⟨Ao17,co17,eo17⟩:=Kd.R_slice HO22014.out
    subst eo17
    go_wp2
    go_meet
    case rel=>exact ⟨_,(true),(t22009),(t22010),za8,H',⟨za63⟩,⟨by (with_reducible repeat (first|apply Kd.R_alloc|apply Kd.R_drewN|apply Kd.R_drew));exact Kd.R_mono HO22014.out (fun _ hk=>hk.2)⟩,⟨za1 BK22001.out⟩,⟨za1 BK22002.out⟩,⟨za1 BK22011.out⟩,⟨za16⟩,⟨za27⟩⟩
  · rw [if_neg c16] at H
    have c16b0:=zbn c16
    have c16b1:=zqt c16
    have c16b2:¬ (t22012 = []):=fun h_=>c16 (by rw [h_];rfl)
    (first|rw [c16b0]|(simp only [i64_w,i32_w];rw [c16b0])|skip)
    replace H:=zo H
    obtain ⟨⟨t22015,t22016,t22017⟩,A180,H⟩:=H
    try dsimp only at H
    have A18:=zk A180
    clear A180
    have H':=zk H
    clear H
    obtain ⟨Ao19,co19,eo19⟩:=Kd.R_slice HO22014.out
    subst eo19
    go_wp2_with (first|(go_at_call 41;(with_reducible refine (spec_l1Once.calls g22006 t22003 t22009 t22010 10 t22015 t22016 t22017 w _ za16 za27 A18.out).mono ?_);rintro e w20 ⟨rfl,hi,hb,hk⟩;replace BK22001:=zk (KeepBut.blk hk (g':=gb22001) (o:=.cells #[.string (⟨#[]⟩:ByteArray),.string (⟨#[]⟩:ByteArray)] 25 (0,0)) (za1 BK22001.out) NB22001_22006.out (by simp));replace BK22002:=zk (KeepBut.blk hk (g':=gb22002) (o:=.cells #[.int .u8 0,.string (⟨#[]⟩:ByteArray)] 33 (0,0)) (za1 BK22002.out) NB22002_22006.out (by simp));replace BK22011:=zk (KeepBut.blk hk (g':=gb22011) (o:=.cells #[.string t22007,.string t22008] 25 (0,0)) (za1 BK22011.out) NB22011_22006.out (by simp));replace HO22014:=zk (Kd.R_mono (Kd.R_keep (IsS69.apart (show IsS69 w _ g22006 t22003 t22009 t22010 from za16) (za0 HO22014.out) (by decide)) hk (fun _ h=>h.2)) (fun _ h=>h.1));replace HB:=zk (hb);replace HI22006:=zk (hi);(try clear hb);(try clear hb2);(try clear hk);(try clear hi)))
    go_meet
    case rel=>exact ⟨_,(t22015),(t22016),(t22017),za8,H',⟨za63⟩,⟨by (with_reducible repeat (first|apply Kd.R_alloc|apply Kd.R_drewN|apply Kd.R_drew));exact Kd.R_mono HO22014.out (fun _ hk=>hk.2)⟩,⟨za1 BK22001.out⟩,⟨za1 BK22002.out⟩,⟨za1 BK22011.out⟩,⟨za16⟩,⟨za27⟩⟩
 case rest =>
  clear HC5
  try clear hcz14_0
  try clear hcz14_1
  try clear hfz14_0
  try clear hfz14_1
  obtain ⟨kq,x19_4,x22007001_4,x22007002_4,rfl,HA,HJ4,HO_6,BK22001,BK22002,BK22011,HI22006,HB⟩:=hcut
  cases kq with
  | zero=>exact absurd HA.out (by simp [spec_DrawApplyMove.j0])
  | succ kj4 =>
   have H:=HA.out
   clear HA
   simp only [spec_DrawApplyMove.j0] at H
   by_cases c21:x19_4=true
   subst c21
   rw [if_pos rfl] at H
   try dsimp only at H
   replace H:=zo H
   obtain ⟨⟨t22018,t22019,t22020⟩,A220,H⟩:=H
   try dsimp only at H
   have A22:=zk A220
   clear A220
   by_cases c23:0≤t22018
   rw [if_pos c23] at H
   have c23b0:=zdle c23
   clear c23
   by_cases c24:t22018 < 3
   · rw [if_pos c24] at H
     have c24b0:=zdl c24
     clear c24
     obtain ⟨y22021,hy22021⟩:∃ y_:List ByteArray,y_=(([(⟨#[]⟩:ByteArray),(⟨#[97,88]⟩:ByteArray),(⟨#[98]⟩:ByteArray)]:List ByteArray)):=⟨_,rfl⟩
     replace H:((spec_l1Pick.f t22003 t22019 t22020 y22021).bind fun bt22024=>(some (t22007,t22008,bt (⟨#[88,89,90]⟩:ByteArray) t22018,bt22024.1)))=some (r1,r2,r3,r4):=by first|(rw [hy22021];with_reducible exact H)|(have H2_:=(Option.bind_some _ _).symm.trans H;rw [hy22021];with_reducible exact H2_)|(have H2_:=(Option.bind_some _ _).symm.trans H;with_reducible exact H2_)|with_reducible exact H|(rw [hy22021];exact H)|exact H
     have Ny22021:=zk hy22021
     clear hy22021
     replace H:=zo H
     obtain ⟨⟨t22024,t22025,t22026⟩,A260,H⟩:=H
     try dsimp only at H
     have A26:=zk A260
     clear A260
     simp only [Option.some.injEq,Prod.mk.injEq] at H
     obtain ⟨rfl,rfl,rfl,rfl⟩:=H
     try go_wp2
     replace HO_6:=zk (Kd.R_drew HO_6.out)
     replace BK22001:=zk (blk_drew BK22001.out)
     replace BK22002:=zk (blk_drew BK22002.out)
     replace BK22011:=zk (blk_drew BK22011.out)
     replace HI22006:=zk (IsS69.drew HI22006.out)
     replace HB:=zk (below_drew1 HB.out)
     refine start_ (n:=10) (S:=fun w'=>True) (ds:=[]) #[false,false,false,false,false,false,false,false,false,false] (by kernel_rfl) rfl rfl trivial (fun hHeld=>?_);refine with_tabW spec_DrawApplyMove.tab5 spec_DrawApplyMove.bits5 (fun HT_ HW_=>?_)
     generalize wc.drew=w27 at HO_6 BK22001 BK22002 BK22011 HI22006 HB hHeld ⊢
     refine zy 1 (some 21) HT_.out ?_
     refine zy 4 (some 24) HT_.out ?_
     refine inv_at [0,2,3,5,6,7,8,9] (fun a0_ b a w'=>∃ (v22022:Value),a=putSel a0_ b [(0,20,.agg #[.string t22007,.string t22008]),(2,22,.int .i64 t22018),(3,23,.int .u8 (bt (⟨#[88,89,90]⟩:ByteArray) t22018)),(5,25,v22022),(6,26,.string t22024),(7,27,.agg #[.int .u8 (bt (⟨#[88,89,90]⟩:ByteArray) t22018),.string t22024])]∧(Kd.R k33 33 w' w.heap.size (fun k_=>k_ ≠ gb22002) v22013 t22012)∧(b 8=false→w'.heap[gb22001]? = some (.cells #[.string (⟨#[]⟩:ByteArray),.string (⟨#[]⟩:ByteArray)] 25 (0,0)))∧(b 9=false→w'.heap[gb22002]? = some (.cells #[.int .u8 0,.string (⟨#[]⟩:ByteArray)] 33 (0,0)))∧(w'.heap[gb22011]? = some (.cells #[.string t22007,.string t22008] 25 (0,0)))∧(b 2=false→IsS69 w w' g22006 t22003 x22007001_4 x22007002_4)∧(Below w.heap.size w w')∧(b 2=true→b 6=false→IsS69 w w' g22006 t22003 t22019 t22020)∧(b 5=true→Kd.R Kd.string 9 w' w.heap.size (fun _=>True) v22022 y22021)∧(b 6=true→IsS69 w w' g22006 t22003 t22025 t22026)∧(b 8=true→w'.heap[gb22001]? = some (.cells #[.string t22007,.string t22008] 25 (0,0)))∧(b 9=true→w'.heap[gb22002]? = some (.cells #[.int .u8 (bt (⟨#[88,89,90]⟩:ByteArray) t22018),.string t22024] 33 (0,0)))) HT_.out HW_.out (by kernel_rfl) (by kernel_rfl) ?_ ?_ ?_
     ·exact ⟨.bool false,by simp only [putSel,Bool.false_eq_true,if_false],HO_6.out,fun _=>BK22001.out,fun _=>BK22002.out,BK22011.out,fun _=>HI22006.out,HB.out,fun h_=>absurd h_ (by decide),fun h_=>absurd h_ (by decide),fun h_=>absurd h_ (by decide),fun h_=>absurd h_ (by decide),fun h_=>absurd h_ (by decide)⟩
     ·skip
      clear BK22001 BK22002 BK22011 HB HI22006 HO_6
      refine steps_cons ?_ ?_
      ·rintro b a w' ⟨v22022,ha,Q_HO_6,Q_BK22001,Q_BK22002,Q_BK22011,Q_HI22006,Q_HB,Q_HI22006_e2,Q_HO22023,Q_HI22006_e6,Q_BK22001_e8,Q_BK22002_e9⟩ hb_ hon hoff
       refine ⟨_,rfl,fun K hK=>?_⟩
       have e5:a.tmps[5]? = some (.pointer (some ⟨gb22011,0,none⟩)):=by rw [ha];exact (putSel_off rfl).trans rfl
       replace ha:=zk ha
       have HO_6:=zk Q_HO_6
       have BK22001:=zk (Q_BK22001 (hoff 8 (by kernel_rfl)))
       have BK22002:=zk (Q_BK22002 (hoff 9 (by kernel_rfl)))
       have BK22011:=zk Q_BK22011
       have HB:=zk Q_HB
       have hc0_:w'.cell? ⟨gb22011,0,none⟩=some (.string t22007):=(blk_cell BK22011.out 0).trans rfl
       have hc1_:w'.cell? ⟨gb22011,1,none⟩=some (.string t22008):=(blk_cell BK22011.out 1).trans rfl
       refine value_ (w1:=w') (v:=.agg #[.string t22007,.string t22008]) (by rfl) rfl ?_ ?_
       ·go_simp
        (try simp only [i64_w])
        try rfl
       refine hK.out _ _ ⟨v22022,(by rw [ha.out];exact putSel_upk 0 hb_ rfl rfl rfl),Q_HO_6,Q_BK22001,Q_BK22002,Q_BK22011,Q_HI22006,Q_HB,Q_HI22006_e2,Q_HO22023,Q_HI22006_e6,fun h0_=>absurd ((hoff 8 (by kernel_rfl)).symm.trans h0_) (by decide),fun h0_=>absurd ((hoff 9 (by kernel_rfl)).symm.trans h0_) (by decide)⟩
      refine steps_cons ?_ ?_
      ·rintro b a w' ⟨v22022,ha,Q_HO_6,Q_BK22001,Q_BK22002,Q_BK22011,Q_HI22006,Q_HB,Q_HI22006_e2,Q_HO22023,Q_HI22006_e6,Q_BK22001_e8,Q_BK22002_e9⟩ hb_ hon hoff
       refine ⟨_,rfl,fun K hK=>?_⟩
       have e21:a.tmps[21]? = some (.pointer (some ⟨g22006,0,none⟩)):=by rw [ha];exact (putSel_off rfl).trans rfl
       replace ha:=zk ha
       have HO_6:=zk Q_HO_6
       have BK22001:=zk (Q_BK22001 (hoff 8 (by kernel_rfl)))
       have BK22002:=zk (Q_BK22002 (hoff 9 (by kernel_rfl)))
       have BK22011:=zk Q_BK22011
       have HI22006:=zk (Q_HI22006 hb_)
       have HB:=zk Q_HB
       refine goes_ Try.func42 (by kernel_rfl) rfl #[.pointer (some ⟨g22006,0,none⟩),.int .i64 3] (by rfl) rfl rfl (by first|(simp only [List.map_toArray,List.map_cons,List.map_nil,Act.eval,Array.getD_eq_getD_getElem?,Option.getD_some,e21];done)|(simp only [List.map_toArray,List.map_cons,List.map_nil,Act.eval,Array.getD_eq_getD_getElem?,Option.getD_some,e21];rfl)) ?_
       with_reducible refine (spec_l1Below.calls g22006 t22003 x22007001_4 x22007002_4 3 t22018 t22019 t22020 w _ za16 za27 A22.out).mono ?_
       rintro e w28 ⟨rfl,hi,hb,hk⟩
       refine ⟨_,rfl,?_⟩
       have n0_:=zk (Kd.R_mono (Kd.R_keep (IsS69.apart (show IsS69 w _ g22006 t22003 x22007001_4 x22007002_4 from za16) (za0 HO_6.out) (by decide)) hk (fun _ h=>h.2)) (fun _ h=>h.1))
       have n1_:=zk (KeepBut.blk hk (g':=gb22001) (o:=.cells #[.string (⟨#[]⟩:ByteArray),.string (⟨#[]⟩:ByteArray)] 25 (0,0)) (za1 BK22001.out) NB22001_22006.out (by simp))
       have n2_:=zk (KeepBut.blk hk (g':=gb22002) (o:=.cells #[.int .u8 0,.string (⟨#[]⟩:ByteArray)] 33 (0,0)) (za1 BK22002.out) NB22002_22006.out (by simp))
       have n3_:=zk (KeepBut.blk hk (g':=gb22011) (o:=.cells #[.string t22007,.string t22008] 25 (0,0)) (za1 BK22011.out) NB22011_22006.out (by simp))
       have n4_:=zk (hb)
       have n5_:=zk (hi)
       have z_HO22023:=fun (h0_:b 5=true)=>(show Kd.R Kd.string 9 w28 w.heap.size (fun _=>True) v22022 y22021 from by first|exact (Kd.R_mono (Kd.R_keep (IsS69.apart (show IsS69 w _ g22006 t22003 x22007001_4 x22007002_4 from za16) (by (with_reducible repeat (first|apply Kd.R_alloc|apply Kd.R_drewN|apply Kd.R_drew));exact (Q_HO22023 h0_)) (by decide)) hk (fun _ h=>h.2)) (fun _ h=>h.1))|exact Kd.R_mono (Kd.R_mono (Kd.R_keep (IsS69.apart (show IsS69 w _ g22006 t22003 x22007001_4 x22007002_4 from za16) (by (with_reducible repeat (first|apply Kd.R_alloc|apply Kd.R_drewN|apply Kd.R_drew));exact (Q_HO22023 h0_)) (by decide)) hk (fun _ h=>h.2)) (fun _ h=>h.1)) (fun _ h_=>by first|trivial|exact h_|exact h_.1))
       clear HO_6
       clear BK22001
       clear BK22002
       clear BK22011
       clear HB
       clear HI22006
       have HO_6:=n0_
       have BK22001:=n1_
       have BK22002:=n2_
       have BK22011:=n3_
       have HB:=n4_
       have HI22006:=n5_
       clear n0_ n1_ n2_ n3_ n4_ n5_
       (try clear hb)
       (try clear hb2)
       (try clear hk)
       (try clear hi)
       refine hK.out _ _ ⟨v22022,(by rw [ha.out];exact putSel_upk 1 hb_ rfl rfl rfl),(za0 HO_6.out),fun _=>(za1 BK22001.out),fun _=>(za1 BK22002.out),(za1 BK22011.out),fun h0_=>absurd ((up_self b 2).symm.trans h0_) (by decide),za27,fun _ _=>za16,z_HO22023,fun h0_=>absurd ((hoff 6 (by kernel_rfl)).symm.trans h0_) (by decide),fun h0_=>absurd ((hoff 8 (by kernel_rfl)).symm.trans h0_) (by decide),fun h0_=>absurd ((hoff 9 (by kernel_rfl)).symm.trans h0_) (by decide)⟩
      refine steps_cons ?_ ?_
      ·rintro b a w' ⟨v22022,ha,Q_HO_6,Q_BK22001,Q_BK22002,Q_BK22011,Q_HI22006,Q_HB,Q_HI22006_e2,Q_HO22023,Q_HI22006_e6,Q_BK22001_e8,Q_BK22002_e9⟩ hb_ hon hoff
       refine ⟨_,rfl,fun K hK=>?_⟩
       have e22:a.tmps[22]? = some (.int .i64 t22018):=by rw [ha];exact putSel_on (e:=(2,22,.int .i64 t22018)) 1 rfl rfl (hon 2 (by kernel_rfl)) rfl
       replace ha:=zk ha
       have HO_6:=zk Q_HO_6
       have BK22002:=zk (Q_BK22002 (hoff 9 (by kernel_rfl)))
       have BK22011:=zk Q_BK22011
       have HB:=zk Q_HB
       have pb_:0≤(t22018:Int):=of_decide_eq_true za7
       have qb_:t22018 < (3:Int):=of_decide_eq_true za7
       have hxb_:=bt_at (⟨#[88,89,90]⟩:ByteArray) t22018
       replace pb_:=eq_true pb_
       replace qb_:=eq_true qb_
       refine value_ (w1:=w') (v:=.int .u8 (bt (⟨#[88,89,90]⟩:ByteArray) t22018)) (by rfl) rfl ?_ ?_
       ·go_simp
        (try simp only [i64_w])
        try rfl
       refine hK.out _ _ ⟨v22022,(by rw [ha.out];exact putSel_upk 2 hb_ rfl rfl rfl),Q_HO_6,Q_BK22001,Q_BK22002,Q_BK22011,fun h0_=>absurd ((hon 2 (by kernel_rfl)).symm.trans h0_) (by decide),Q_HB,Q_HI22006_e2,Q_HO22023,Q_HI22006_e6,Q_BK22001_e8,fun h0_=>absurd ((hoff 9 (by kernel_rfl)).symm.trans h0_) (by decide)⟩
      refine steps_cons ?_ ?_
      ·rintro b a w' ⟨v22022,ha,Q_HO_6,Q_BK22001,Q_BK22002,Q_BK22011,Q_HI22006,Q_HB,Q_HI22006_e2,Q_HO22023,Q_HI22006_e6,Q_BK22001_e8,Q_BK22002_e9⟩ hb_ hon hoff
       refine ⟨_,rfl,fun K hK=>?_⟩
       replace ha:=zk ha
       have HO_6:=zk Q_HO_6
       have BK22001:=zk (Q_BK22001 (hoff 8 (by kernel_rfl)))
       have BK22002:=zk (Q_BK22002 (hoff 9 (by kernel_rfl)))
       have BK22011:=zk Q_BK22011
       have HB:=zk Q_HB
       refine Kd.R_lit_step Kd.string _ 9 ?hg (N:=25) ?hd (xs:=([(⟨#[]⟩:ByteArray),(⟨#[97,88]⟩:ByteArray),(⟨#[98]⟩:ByteArray)]:List ByteArray)) (inner:=[.string (⟨#[]⟩:ByteArray),.string (⟨#[97,88]⟩:ByteArray),.string (⟨#[98]⟩:ByteArray)]) (ok:=fun _=>True) (okp:=fun _=>True) ?hr ?hp (fun _ hk=>hk) trivial (Below.refl _ _) (Nat.le_refl _) (by simp) ?_;(case hd=>rfl);(case hg=>rfl);(case hr=>first|(go_simp;done)|(go_simp;rfl));(case hp=>exact (Reps.one (show Kd.M Kd.string _ _ _ (⟨#[]⟩:ByteArray) [.string (⟨#[]⟩:ByteArray)] from rfl) (Reps.one (show Kd.M Kd.string _ _ _ (⟨#[97,88]⟩:ByteArray) [.string (⟨#[97,88]⟩:ByteArray)] from rfl) (Reps.one (show Kd.M Kd.string _ _ _ (⟨#[98]⟩:ByteArray) [.string (⟨#[98]⟩:ByteArray)] from rfl) (Reps.none _ _)))))
       intro v22022 w28 ho29 hb hg_ hnew_
       clear hg_ hnew_
       (first|rw [← Ny22021.out] at ho29|(simp only [Int.reduceToNat] at ho29;rw [← Ny22021.out] at ho29))
       have n0_:=zk (Kd.R_below (za0 HO_6.out) hb)
       have n1_:=zk (Kd.R_lower ho29 (below_size za3))
       have n2_:=zk (zb BK22001.out hb)
       have n3_:=zk (zb BK22002.out hb)
       have n4_:=zk (zb BK22011.out hb)
       have n6_:=zk (below_step za3 hb)
       have z_HI22006:=fun (h0_:b 2=false)=>(show IsS69 w w28 g22006 t22003 x22007001_4 x22007002_4 from by first|exact (IsS69.below (by repeat (first|(with_reducible first|exact (Q_HI22006 h0_)|apply IsS69.alloc|apply IsS69.drewN|apply IsS69.drew|apply IsS69.set_1|apply IsS69.set_2|refine IsS69.far ?_ NB22006_22001.out _|refine IsS69.far ?_ NB22006_22002.out _|refine IsS69.far ?_ NB22006_22011.out _)|exact (Q_HI22006 h0_))) hb))
       have z_HI22006_e2:=fun (h0_:b 2=true) (h1_:b 6=false)=>(show IsS69 w w28 g22006 t22003 t22019 t22020 from by first|exact (IsS69.below (by repeat (first|(with_reducible first|exact (Q_HI22006_e2 h0_ h1_)|apply IsS69.alloc|apply IsS69.drewN|apply IsS69.drew|apply IsS69.set_1|apply IsS69.set_2|refine IsS69.far ?_ NB22006_22001.out _|refine IsS69.far ?_ NB22006_22002.out _|refine IsS69.far ?_ NB22006_22011.out _)|exact (Q_HI22006_e2 h0_ h1_))) hb))
       clear HO_6
       clear BK22001
       clear BK22002
       clear BK22011
       clear HB
       have HO_6:=n0_
       have HO22023:=n1_
       have BK22001:=n2_
       have BK22002:=n3_
       have BK22011:=n4_
       have HB:=n6_
       clear n0_ n1_ n2_ n3_ n4_ n6_
       clear hb ho29
       refine hK.out _ _ ⟨v22022,(by rw [ha.out];exact putSel_upk 3 hb_ rfl rfl rfl),(za0 HO_6.out),fun _=>(za1 BK22001.out),fun _=>(za1 BK22002.out),(za1 BK22011.out),z_HI22006,za3,z_HI22006_e2,fun _=>(za0 HO22023.out),fun h0_=>absurd ((hoff 6 (by kernel_rfl)).symm.trans h0_) (by decide),fun h0_=>absurd ((hoff 8 (by kernel_rfl)).symm.trans h0_) (by decide),fun h0_=>absurd ((hoff 9 (by kernel_rfl)).symm.trans h0_) (by decide)⟩
      refine steps_cons ?_ ?_
      ·rintro b a w' ⟨v22022,ha,Q_HO_6,Q_BK22001,Q_BK22002,Q_BK22011,Q_HI22006,Q_HB,Q_HI22006_e2,Q_HO22023,Q_HI22006_e6,Q_BK22001_e8,Q_BK22002_e9⟩ hb_ hon hoff
       refine ⟨_,rfl,fun K hK=>?_⟩
       have e24:a.tmps[24]? = some (.pointer (some ⟨g22006,0,none⟩)):=by rw [ha];exact (putSel_off rfl).trans rfl
       have e25:a.tmps[25]? = some (v22022):=by rw [ha];exact putSel_on (e:=(5,25,v22022)) 3 rfl rfl (hon 5 (by kernel_rfl)) rfl
       replace ha:=zk ha
       have HO_6:=zk Q_HO_6
       have BK22001:=zk (Q_BK22001 (hoff 8 (by kernel_rfl)))
       have BK22002:=zk (Q_BK22002 (hoff 9 (by kernel_rfl)))
       have BK22011:=zk Q_BK22011
       have HB:=zk Q_HB
       have HI22006:=zk (Q_HI22006_e2 (hon 2 (by kernel_rfl)) hb_)
       have HO22023:=zk (Q_HO22023 (hon 5 (by kernel_rfl)))
       obtain ⟨Ao32,co32,eo32⟩:=Kd.R_slice HO22023.out
       (first|subst eo32|(injection eo32 with f1_ f2_ f3_;have f4_:=f1_.symm;have f5_:=f3_.symm;clear f1_ f2_ f3_;subst f4_;subst f5_))
       refine goes_ Try.func43 (by kernel_rfl) rfl #[.pointer (some ⟨g22006,0,none⟩),.slice Ao32 y22021.length co32] (by rfl) rfl rfl (by first|(simp only [List.map_toArray,List.map_cons,List.map_nil,Act.eval,Array.getD_eq_getD_getElem?,Option.getD_some,e24,e25];done)|(simp only [List.map_toArray,List.map_cons,List.map_nil,Act.eval,Array.getD_eq_getD_getElem?,Option.getD_some,e24,e25];rfl)) ?_
       with_reducible refine (spec_l1Pick.calls g22006 t22003 t22019 t22020 _ _ y22021 t22024 t22025 t22026 w _ za16 za27 ?side3 ?side4 ?side5 A26.out).mono ?_
       (case side3=>repeat (first|exact (Kd.R_reads' HO22023.out).2.2|(with_reducible refine Kd.C_alloc ?_ _)|(with_reducible refine Kd.C_drewN ?_ _)|(with_reducible refine Kd.C_drew ?_)))
       (case side4=>exact (Kd.R_reads' HO22023.out).2.1)
       (case side5=>exact far_slice (IsS69.own_ne HI22006.out HO22023.out (by decide)))
       rintro e w33 ⟨rfl,hi,hb,hk⟩
       refine ⟨_,rfl,?_⟩
       replace HO_6:=zk (Kd.R_mono (Kd.R_keep (IsS69.apart (show IsS69 w _ g22006 t22003 t22019 t22020 from za16) (za0 HO_6.out) (by decide)) hk (fun _ h=>h.2)) (fun _ h=>h.1))
       replace BK22001:=zk (KeepBut.blk hk (g':=gb22001) (o:=.cells #[.string (⟨#[]⟩:ByteArray),.string (⟨#[]⟩:ByteArray)] 25 (0,0)) (za1 BK22001.out) NB22001_22006.out (by simp))
       replace BK22002:=zk (KeepBut.blk hk (g':=gb22002) (o:=.cells #[.int .u8 0,.string (⟨#[]⟩:ByteArray)] 33 (0,0)) (za1 BK22002.out) NB22002_22006.out (by simp))
       replace BK22011:=zk (KeepBut.blk hk (g':=gb22011) (o:=.cells #[.string t22007,.string t22008] 25 (0,0)) (za1 BK22011.out) NB22011_22006.out (by simp))
       replace HO22023:=zk (Kd.R_mono (Kd.R_keep (IsS69.apart (show IsS69 w _ g22006 t22003 t22019 t22020 from za16) (za0 HO22023.out) (by decide)) hk (fun _ h=>h.2)) (fun _ h=>h.1))
       replace HB:=zk (hb)
       replace HI22006:=zk (hi)
       (try clear hb)
       (try clear hb2)
       (try clear hk)
       (try clear hi)
       refine hK.out _ _ ⟨.slice Ao32 y22021.length co32,(by rw [ha.out];exact putSel_upk 4 hb_ rfl rfl rfl),(za0 HO_6.out),fun _=>(za1 BK22001.out),fun _=>(za1 BK22002.out),(za1 BK22011.out),fun h0_=>absurd ((hon 2 (by kernel_rfl)).symm.trans h0_) (by decide),za27,fun _ h1_=>absurd ((up_self b 6).symm.trans h1_) (by decide),fun _=>(za0 HO22023.out),fun _=>za16,fun h0_=>absurd ((hoff 8 (by kernel_rfl)).symm.trans h0_) (by decide),fun h0_=>absurd ((hoff 9 (by kernel_rfl)).symm.trans h0_) (by decide)⟩
      refine steps_cons ?_ ?_
      ·rintro b a w' ⟨v22022,ha,Q_HO_6,Q_BK22001,Q_BK22002,Q_BK22011,Q_HI22006,Q_HB,Q_HI22006_e2,Q_HO22023,Q_HI22006_e6,Q_BK22001_e8,Q_BK22002_e9⟩ hb_ hon hoff
       refine ⟨_,rfl,fun K hK=>?_⟩
       have e23:a.tmps[23]? = some (.int .u8 (bt (⟨#[88,89,90]⟩:ByteArray) t22018)):=by rw [ha];exact putSel_on (e:=(3,23,.int .u8 (bt (⟨#[88,89,90]⟩:ByteArray) t22018))) 2 rfl rfl (hon 3 (by kernel_rfl)) rfl
       have e26:a.tmps[26]? = some (.string t22024):=by rw [ha];exact putSel_on (e:=(6,26,.string t22024)) 4 rfl rfl (hon 6 (by kernel_rfl)) rfl
       replace ha:=zk ha
       have HO_6:=zk Q_HO_6
       have BK22002:=zk (Q_BK22002 (hoff 9 (by kernel_rfl)))
       have BK22011:=zk Q_BK22011
       have HB:=zk Q_HB
       have HO22023:=zk (Q_HO22023 (hon 5 (by kernel_rfl)))
       have HI22006:=zk (Q_HI22006_e6 (hon 6 (by kernel_rfl)))
       refine value_ (w1:=w') (v:=.agg #[.int .u8 (bt (⟨#[88,89,90]⟩:ByteArray) t22018),.string t22024]) (by rfl) rfl ?_ ?_
       ·go_simp
        (try simp only [i64_w])
        try rfl
       refine hK.out _ _ ⟨v22022,(by rw [ha.out];exact putSel_upk 5 hb_ rfl rfl rfl),Q_HO_6,Q_BK22001,Q_BK22002,Q_BK22011,fun h0_=>absurd ((hon 2 (by kernel_rfl)).symm.trans h0_) (by decide),Q_HB,fun _ h1_=>absurd ((hon 6 (by kernel_rfl)).symm.trans h1_) (by decide),Q_HO22023,Q_HI22006_e6,Q_BK22001_e8,fun h0_=>absurd ((hoff 9 (by kernel_rfl)).symm.trans h0_) (by decide)⟩
      refine steps_cons ?_ ?_
      ·rintro b a w' ⟨v22022,ha,Q_HO_6,Q_BK22001,Q_BK22002,Q_BK22011,Q_HI22006,Q_HB,Q_HI22006_e2,Q_HO22023,Q_HI22006_e6,Q_BK22001_e8,Q_BK22002_e9⟩ hb_ hon hoff
       refine ⟨_,rfl,fun K hK=>?_⟩
       have e2:a.tmps[2]? = some (.pointer (some ⟨gb22001,0,none⟩)):=by rw [ha];exact (putSel_off rfl).trans rfl
       have e20:a.tmps[20]? = some (.agg #[.string t22007,.string t22008]):=by rw [ha];exact putSel_on (e:=(0,20,.agg #[.string t22007,.string t22008])) 0 rfl rfl (hon 0 (by kernel_rfl)) rfl
       replace ha:=zk ha
       have HO_6:=zk Q_HO_6
       have BK22001:=zk (Q_BK22001 hb_)
       have BK22002:=zk (Q_BK22002 (hoff 9 (by kernel_rfl)))
       have BK22011:=zk Q_BK22011
       have HB:=zk Q_HB
       have HO22023:=zk (Q_HO22023 (hon 5 (by kernel_rfl)))
       have HI22006:=zk (Q_HI22006_e6 (hon 6 (by kernel_rfl)))
       have hs34:w'.cell? ⟨gb22001,0,none⟩=some (.string (⟨#[]⟩:ByteArray)):=(blk_cell BK22001.out 0).trans rfl
       have hfs34:=blk_frozen BK22001.out 0
       have hns34_1:=NB22002_22001.out
       have hns34_2:=NB22011_22001.out
       have hms34_1:=NB22001_22002.out
       have hms34_2:=NB22001_22011.out
       have hs35:w'.cell? ⟨gb22001,1,none⟩=some (.string (⟨#[]⟩:ByteArray)):=(blk_cell BK22001.out 1).trans rfl
       have hfs35:=blk_frozen BK22001.out 1
       have hns35_1:=NB22002_22001.out
       have hns35_2:=NB22011_22001.out
       have hms35_1:=NB22001_22002.out
       have hms35_2:=NB22001_22011.out
       refine skip_ (w1:=?_) (by rfl) rfl ?_ ?_
       rotate_left
       ·go_simp
        rfl
       refine hK.out _ _ ⟨v22022,(by rw [ha.out];exact putSel_none (v:=undef) rfl),(by (with_reducible repeat (first|apply Kd.R_alloc|apply Kd.R_drewN|apply Kd.R_drew));exact Kd.R_mono (zfR (zfR (Kd.R_types HO_6.out BK22001.out (by decide)))) (fun _ hk=>hk.1)),fun h0_=>absurd ((up_self b 8).symm.trans h0_) (by decide),fun _=>(by (with_reducible repeat (first|refine blk_drewN ?_ _|refine blk_drew ?_|refine blk_alloc ?_ _));refine blk_far ?_ NB22002_22001.out _;(with_reducible repeat (first|refine blk_drewN ?_ _|refine blk_drew ?_|refine blk_alloc ?_ _));refine blk_far ?_ NB22002_22001.out _;(with_reducible repeat (first|refine blk_drewN ?_ _|refine blk_drew ?_|refine blk_alloc ?_ _));exact BK22002.out),(by (with_reducible repeat (first|refine blk_drewN ?_ _|refine blk_drew ?_|refine blk_alloc ?_ _));refine blk_far ?_ NB22011_22001.out _;(with_reducible repeat (first|refine blk_drewN ?_ _|refine blk_drew ?_|refine blk_alloc ?_ _));refine blk_far ?_ NB22011_22001.out _;(with_reducible repeat (first|refine blk_drewN ?_ _|refine blk_drew ?_|refine blk_alloc ?_ _));exact BK22011.out),fun h0_=>absurd ((hon 2 (by kernel_rfl)).symm.trans h0_) (by decide),za27,fun _ h1_=>absurd ((hon 6 (by kernel_rfl)).symm.trans h1_) (by decide),fun _=>(by (with_reducible repeat (first|apply Kd.R_alloc|apply Kd.R_drewN|apply Kd.R_drew));exact Kd.R_mono (zfR (zfR (Kd.R_types HO22023.out BK22001.out (by decide)))) (fun _ hk=>trivial)),fun _=>za16,fun _=>(zpu BK22001.out),fun h0_=>absurd ((hoff 9 (by kernel_rfl)).symm.trans h0_) (by decide)⟩
      refine steps_cons ?_ ?_
      ·rintro b a w' ⟨v22022,ha,Q_HO_6,Q_BK22001,Q_BK22002,Q_BK22011,Q_HI22006,Q_HB,Q_HI22006_e2,Q_HO22023,Q_HI22006_e6,Q_BK22001_e8,Q_BK22002_e9⟩ hb_ hon hoff
       refine ⟨_,rfl,fun K hK=>?_⟩
       have e3:a.tmps[3]? = some (.pointer (some ⟨gb22002,0,none⟩)):=by rw [ha];exact (putSel_off rfl).trans rfl
       have e27:a.tmps[27]? = some (.agg #[.int .u8 (bt (⟨#[88,89,90]⟩:ByteArray) t22018),.string t22024]):=by rw [ha];exact putSel_on (e:=(7,27,.agg #[.int .u8 (bt (⟨#[88,89,90]⟩:ByteArray) t22018),.string t22024])) 5 rfl rfl (hon 7 (by kernel_rfl)) rfl
       replace ha:=zk ha
       have HO_6:=zk Q_HO_6
       have BK22002:=zk (Q_BK22002 hb_)
       have BK22011:=zk Q_BK22011
       have HB:=zk Q_HB
       have HO22023:=zk (Q_HO22023 (hon 5 (by kernel_rfl)))
       have HI22006:=zk (Q_HI22006_e6 (hon 6 (by kernel_rfl)))
       have BK22001:=zk (Q_BK22001_e8 (hon 8 (by kernel_rfl)))
       have hs36:w'.cell? ⟨gb22002,0,none⟩=some (.int .u8 0):=(blk_cell BK22002.out 0).trans rfl
       have hfs36:=blk_frozen BK22002.out 0
       have hns36_0:=NB22001_22002.out
       have hns36_2:=NB22011_22002.out
       have hms36_0:=NB22002_22001.out
       have hms36_2:=NB22002_22011.out
       have hs37:w'.cell? ⟨gb22002,1,none⟩=some (.string (⟨#[]⟩:ByteArray)):=(blk_cell BK22002.out 1).trans rfl
       have hfs37:=blk_frozen BK22002.out 1
       have hns37_0:=NB22001_22002.out
       have hns37_2:=NB22011_22002.out
       have hms37_0:=NB22002_22001.out
       have hms37_2:=NB22002_22011.out
       refine skip_ (w1:=?_) (by rfl) rfl ?_ ?_
       rotate_left
       ·go_simp
        rfl
       refine hK.out _ _ ⟨v22022,(by rw [ha.out];exact putSel_none (v:=undef) rfl),(by (with_reducible repeat (first|apply Kd.R_alloc|apply Kd.R_drewN|apply Kd.R_drew));exact Kd.R_mono (zfR (zfR (Kd.R_mono HO_6.out (fun k_ hk=>(⟨hk,hk⟩:_∧k_ ≠ gb22002))))) (fun _ hk=>hk.1)),fun h0_=>absurd ((hon 8 (by kernel_rfl)).symm.trans h0_) (by decide),fun h0_=>absurd ((up_self b 9).symm.trans h0_) (by decide),(by (with_reducible repeat (first|refine blk_drewN ?_ _|refine blk_drew ?_|refine blk_alloc ?_ _));refine blk_far ?_ NB22011_22002.out _;(with_reducible repeat (first|refine blk_drewN ?_ _|refine blk_drew ?_|refine blk_alloc ?_ _));refine blk_far ?_ NB22011_22002.out _;(with_reducible repeat (first|refine blk_drewN ?_ _|refine blk_drew ?_|refine blk_alloc ?_ _));exact BK22011.out),fun h0_=>absurd ((hon 2 (by kernel_rfl)).symm.trans h0_) (by decide),za27,fun _ h1_=>absurd ((hon 6 (by kernel_rfl)).symm.trans h1_) (by decide),fun _=>(by (with_reducible repeat (first|apply Kd.R_alloc|apply Kd.R_drewN|apply Kd.R_drew));exact Kd.R_mono (zfR (zfR (Kd.R_types HO22023.out BK22002.out (by decide)))) (fun _ hk=>trivial)),fun _=>za16,fun _=>(by (with_reducible repeat (first|refine blk_drewN ?_ _|refine blk_drew ?_|refine blk_alloc ?_ _));refine blk_far ?_ NB22001_22002.out _;(with_reducible repeat (first|refine blk_drewN ?_ _|refine blk_drew ?_|refine blk_alloc ?_ _));refine blk_far ?_ NB22001_22002.out _;(with_reducible repeat (first|refine blk_drewN ?_ _|refine blk_drew ?_|refine blk_alloc ?_ _));exact BK22001.out),fun _=>(zpu BK22002.out)⟩
      exact steps_nil
     rintro b a w37 hall ⟨v22022,ha,Q_HO_6,Q_BK22001,Q_BK22002,Q_BK22011,Q_HI22006,Q_HB,Q_HI22006_e2,Q_HO22023,Q_HI22006_e6,Q_BK22001_e8,Q_BK22002_e9⟩
     clear BK22001 BK22002 BK22011 HB HI22006 HO_6
     have hb0_:=hall 0 (by kernel_rfl)
     have hb2_:=hall 2 (by kernel_rfl)
     have hb3_:=hall 3 (by kernel_rfl)
     have hb5_:=hall 5 (by kernel_rfl)
     have hb6_:=hall 6 (by kernel_rfl)
     have hb7_:=hall 7 (by kernel_rfl)
     have hb8_:=hall 8 (by kernel_rfl)
     have hb9_:=hall 9 (by kernel_rfl)
     subst ha
     simp only [putSel,hb0_,hb2_,hb3_,hb5_,hb6_,hb7_,hb8_,hb9_,if_true,Act.put,zt,zu,zv]
     have HO_6:=zk Q_HO_6
     clear Q_HO_6
     clear Q_BK22001
     clear Q_BK22002
     have BK22011:=zk Q_BK22011
     clear Q_BK22011
     clear Q_HI22006
     have HB:=zk Q_HB
     clear Q_HB
     clear Q_HI22006_e2
     have HO22023:=zk (Q_HO22023 hb5_)
     clear Q_HO22023
     have HI22006:=zk (Q_HI22006_e6 hb6_)
     clear Q_HI22006_e6
     have BK22001:=zk (Q_BK22001_e8 hb8_)
     clear Q_BK22001_e8
     have BK22002:=zk (Q_BK22002_e9 hb9_)
     clear Q_BK22002_e9
     clear hall hb0_ hb2_ hb3_ hb5_ hb6_ hb7_ hb8_ hb9_
     have p25:0≤(t22018:Int):=of_decide_eq_true za7
     have q25:t22018 < (3:Int):=of_decide_eq_true za7
     have hx25:=bt_at (⟨#[88,89,90]⟩:ByteArray) t22018
     replace p25:=eq_true p25
     replace q25:=eq_true q25
     try go_wp2
     refine bodyPost_ret (results_cc rfl _ _ gb22001 gb22002 25 33 #[.string t22007,.string t22008] #[.int .u8 (bt (⟨#[88,89,90]⟩:ByteArray) t22018),.string t22024] (0,0) (0,0) _ _ rfl (za1 BK22001.out) Try.underlying25 rfl (by kernel_rfl) rfl (za1 BK22002.out) Try.underlying33 rfl (by kernel_rfl)) rfl ?_
     exact ⟨za9,za27⟩
   · rw [if_neg c24] at H
     exact absurd H (by simp)
   · rw [if_neg c23] at H
     exact absurd H (by simp)
   replace c21:=Bool.eq_false_iff.mpr c21
   subst c21
   rw [if_neg (show ¬ (false=true) by decide)] at H
   try dsimp only at H
   replace H:=zo H
   obtain ⟨⟨t22027,t22028,t22029⟩,A380,H⟩:=H
   try dsimp only at H
   have A38:=zk A380
   clear A380
   by_cases c39:0≤t22027
   rw [if_pos c39] at H
   have c39b0:=zdle c39
   clear c39
   by_cases c40:t22027 < (t22012.length:Int)
   · rw [if_pos c40] at H
     have c40b0:=zdl c40
     clear c40
     simp only [Option.some.injEq,Prod.mk.injEq] at H
     obtain ⟨rfl,rfl,rfl,rfl⟩:=H
     try go_wp2
     replace HO_6:=zk (Kd.R_drew HO_6.out)
     replace BK22001:=zk (blk_drew BK22001.out)
     replace BK22002:=zk (blk_drew BK22002.out)
     replace BK22011:=zk (blk_drew BK22011.out)
     replace HI22006:=zk (IsS69.drew HI22006.out)
     replace HB:=zk (below_drew1 HB.out)
     obtain ⟨Ao42,co42,eo42⟩:=Kd.R_slice HO_6.out
     (first|subst eo42|(injection eo42 with f1_ f2_ f3_;have f4_:=f1_.symm;have f5_:=f3_.symm;clear f1_ f2_ f3_;subst f4_;subst f5_))
     have p22030:0≤(t22027:Int):=of_decide_eq_true za7
     have q22030:t22027 < (t22012.length:Int):=of_decide_eq_true za7
     obtain ⟨ad22030,e22030,hx22030_0,hx22030_1⟩:=at_T33 (Kd.R_reads' HO_6.out).2.2 t22027 p22030 q22030
     cases e22030
     replace p22030:=eq_true p22030
     replace q22030:=eq_true q22030
     refine start_ (n:=10) (S:=fun w'=>w'.cell? ⟨gb22011,0,none⟩=some (.string t22007)∧w'.cell? ⟨gb22011,1,none⟩=some (.string t22008)∧w'.cell? (ad22030.add ((t22027).toNat * 2))=some (.int .u8 ((rd_T33 t22012 t22027).f0))∧w'.cell? ⟨(ad22030.add ((t22027).toNat * 2)).block,(ad22030.add ((t22027).toNat * 2)).off+1,none⟩=some (.string ((rd_T33 t22012 t22027).f1))) (ds:=[]) #[false,false,false,false,false,false,false,false,false,false] (by kernel_rfl) rfl rfl ⟨(blk_cell BK22011.out 0).trans rfl,(blk_cell BK22011.out 1).trans rfl,hx22030_0,hx22030_1⟩ (fun hHeld=>?_);refine with_tabW spec_DrawApplyMove.tab6 spec_DrawApplyMove.bits6 (fun HT_ HW_=>?_)
     generalize wc.drew=w41 at HO_6 BK22001 BK22002 BK22011 HI22006 HB hx22030_0 hx22030_1 hHeld ⊢
     refine zy 1 (some 29) HT_.out ?_
     refine zy 2 (some 30) HT_.out ?_
     refine zy 3 (some 31) HT_.out ?_
     refine zy 4 (some 32) HT_.out ?_
     refine ztk 0 (some 28) HT_.out HW_.out hHeld ?_
     refine zon 5 (some 33) HT_.out (fun K hK=>?_)
     refine goes_ Try.func42 (by kernel_rfl) rfl #[.pointer (some ⟨g22006,0,none⟩),.int .i64 (t22012.length:Int)] (by rfl) rfl rfl za4 ?_
     with_reducible refine (spec_l1Below.calls g22006 t22003 x22007001_4 x22007002_4 (t22012.length:Int) t22027 t22028 t22029 w _ za16 za27 A38.out).mono ?_
     rintro e w43 ⟨rfl,hi,hb,hk⟩
     have HS2_:=keep_cell hk (hHeld.2.2.1) za94
     have HS3_:=keep_cell hk (hHeld.2.2.2) za94
     refine ⟨_,rfl,?_⟩
     replace HO_6:=zk (Kd.R_mono (Kd.R_keep (IsS69.apart (show IsS69 w _ g22006 t22003 x22007001_4 x22007002_4 from za16) (za0 HO_6.out) (by decide)) hk (fun _ h=>h.2)) (fun _ h=>h.1))
     replace BK22001:=zk (KeepBut.blk hk (g':=gb22001) (o:=.cells #[.string (⟨#[]⟩:ByteArray),.string (⟨#[]⟩:ByteArray)] 25 (0,0)) (za1 BK22001.out) NB22001_22006.out (by simp))
     replace BK22002:=zk (KeepBut.blk hk (g':=gb22002) (o:=.cells #[.int .u8 0,.string (⟨#[]⟩:ByteArray)] 33 (0,0)) (za1 BK22002.out) NB22002_22006.out (by simp))
     replace BK22011:=zk (KeepBut.blk hk (g':=gb22011) (o:=.cells #[.string t22007,.string t22008] 25 (0,0)) (za1 BK22011.out) NB22011_22006.out (by simp))
     replace HB:=zk (hb)
     replace HI22006:=zk (hi)
     (try clear hb)
     (try clear hb2)
     (try clear hk)
     (try clear hi)
     refine hK.out _ _ ⟨(blk_cell BK22011.out 0).trans rfl,(blk_cell BK22011.out 1).trans rfl,HS2_,HS3_⟩ (fun hHeld=>?_)
     clear hK K
     refine zno (some 33) ?_
     refine zy 6 (some 34) HT_.out ?_
     refine ztk 7 (some 35) HT_.out HW_.out hHeld ?_
     refine zon 8 none HT_.out (fun K hK=>?_)
     have hs44:w43.cell? ⟨gb22001,0,none⟩=some (.string (⟨#[]⟩:ByteArray)):=(blk_cell BK22001.out 0).trans rfl
     have hfs44:=blk_frozen BK22001.out 0
     have hns44_1:=NB22002_22001.out
     have hns44_2:=NB22011_22001.out
     have hms44_1:=NB22001_22002.out
     have hms44_2:=NB22001_22011.out
     have hs45:w43.cell? ⟨gb22001,1,none⟩=some (.string (⟨#[]⟩:ByteArray)):=(blk_cell BK22001.out 1).trans rfl
     have hfs45:=blk_frozen BK22001.out 1
     have hns45_1:=NB22002_22001.out
     have hns45_2:=NB22011_22001.out
     have hms45_1:=NB22001_22002.out
     have hms45_2:=NB22001_22011.out
     refine skip_ (w1:=?_) (by rfl) rfl ?_ ?_
     rotate_left
     ·go_simp
      rfl
     refine hK.out _ _ ⟨((cell_far (p:=⟨gb22001,_,none⟩) NB22011_22001.out _).trans (((cell_far (p:=⟨gb22001,_,none⟩) NB22011_22001.out _).trans (hHeld.1)))),((cell_far (p:=⟨gb22001,_,none⟩) NB22011_22001.out _).trans (((cell_far (p:=⟨gb22001,_,none⟩) NB22011_22001.out _).trans (hHeld.2.1)))),((cell_far (p:=⟨gb22001,_,none⟩) za64 _).trans (((cell_far (p:=⟨gb22001,_,none⟩) za64 _).trans (hHeld.2.2.1)))),((cell_far (p:=⟨gb22001,_,none⟩) za64 _).trans (((cell_far (p:=⟨gb22001,_,none⟩) za64 _).trans (hHeld.2.2.2))))⟩ (fun hHeld=>?_)
     clear hK K
     refine zon 9 none HT_.out (fun K hK=>?_)
     have hs46:w43.cell? ⟨gb22002,0,none⟩=some (.int .u8 0):=(blk_cell BK22002.out 0).trans rfl
     have hfs46:=blk_frozen BK22002.out 0
     have hns46_0:=NB22001_22002.out
     have hns46_2:=NB22011_22002.out
     have hms46_0:=NB22002_22001.out
     have hms46_2:=NB22002_22011.out
     have hs47:w43.cell? ⟨gb22002,1,none⟩=some (.string (⟨#[]⟩:ByteArray)):=(blk_cell BK22002.out 1).trans rfl
     have hfs47:=blk_frozen BK22002.out 1
     have hns47_0:=NB22001_22002.out
     have hns47_2:=NB22011_22002.out
     have hms47_0:=NB22002_22001.out
     have hms47_2:=NB22002_22011.out
     refine skip_ (w1:=?_) (by rfl) rfl ?_ ?_
     rotate_left
     ·go_simp
      rfl
     refine hK.out _ _ ⟨((cell_far (p:=⟨gb22002,_,none⟩) NB22011_22002.out _).trans (((cell_far (p:=⟨gb22002,_,none⟩) NB22011_22002.out _).trans (hHeld.1)))),((cell_far (p:=⟨gb22002,_,none⟩) NB22011_22002.out _).trans (((cell_far (p:=⟨gb22002,_,none⟩) NB22011_22002.out _).trans (hHeld.2.1)))),((cell_far (p:=⟨gb22002,_,none⟩) za67 _).trans (((cell_far (p:=⟨gb22002,_,none⟩) za67 _).trans (hHeld.2.2.1)))),((cell_far (p:=⟨gb22002,_,none⟩) za67 _).trans (((cell_far (p:=⟨gb22002,_,none⟩) za67 _).trans (hHeld.2.2.2))))⟩ (fun hHeld=>?_)
     clear hK K
     refine done_ (done_of HT_.out (by kernel_rfl)) ?_
     try go_wp2
     refine bodyPost_ret (results_cc rfl _ _ gb22001 gb22002 25 33 #[.string t22007,.string t22008] #[.int .u8 ((rd_T33 t22012 t22027).f0),.string ((rd_T33 t22012 t22027).f1)] (0,0) (0,0) _ _ rfl (by (with_reducible repeat (first|refine blk_drewN ?_ _|refine blk_drew ?_|refine blk_alloc ?_ _));refine blk_far ?_ NB22001_22002.out _;(with_reducible repeat (first|refine blk_drewN ?_ _|refine blk_drew ?_|refine blk_alloc ?_ _));refine blk_far ?_ NB22001_22002.out _;(with_reducible repeat (first|refine blk_drewN ?_ _|refine blk_drew ?_|refine blk_alloc ?_ _));refine blk_put (cs:=#[.string t22007,.string (⟨#[]⟩:ByteArray)]) ?_ 1 _ rfl;(with_reducible repeat (first|refine blk_drewN ?_ _|refine blk_drew ?_|refine blk_alloc ?_ _));refine blk_put (cs:=#[.string (⟨#[]⟩:ByteArray),.string (⟨#[]⟩:ByteArray)]) ?_ 0 _ rfl;(with_reducible repeat (first|refine blk_drewN ?_ _|refine blk_drew ?_|refine blk_alloc ?_ _));exact BK22001.out) Try.underlying25 rfl (by kernel_rfl) rfl (by (with_reducible repeat (first|refine blk_drewN ?_ _|refine blk_drew ?_|refine blk_alloc ?_ _));refine blk_put (cs:=#[.int .u8 ((rd_T33 t22012 t22027).f0),.string (⟨#[]⟩:ByteArray)]) ?_ 1 _ rfl;(with_reducible repeat (first|refine blk_drewN ?_ _|refine blk_drew ?_|refine blk_alloc ?_ _));refine blk_put (cs:=#[.int .u8 0,.string (⟨#[]⟩:ByteArray)]) ?_ 0 _ rfl;(with_reducible repeat (first|refine blk_drewN ?_ _|refine blk_drew ?_|refine blk_alloc ?_ _));refine blk_far ?_ NB22002_22001.out _;(with_reducible repeat (first|refine blk_drewN ?_ _|refine blk_drew ?_|refine blk_alloc ?_ _));refine blk_far ?_ NB22002_22001.out _;(with_reducible repeat (first|refine blk_drewN ?_ _|refine blk_drew ?_|refine blk_alloc ?_ _));exact BK22002.out) Try.underlying33 rfl (by kernel_rfl)) rfl ?_
     exact ⟨za9,za27⟩
   · rw [if_neg c40] at H
     exact absurd H (by simp)
   · rw [if_neg c39] at H
     exact absurd H (by simp)
def impl_LetterIndex.f (a0:Int):Option (Int):=(strings_IndexByte.f (⟨#[97,98,99]⟩:ByteArray) a0).bind fun t26001=>(some t26001)
theorem impl_LetterIndex.calls (a0:Int) (r:Int) (w:World) (h:impl_LetterIndex.f a0=some r) :
  Calls Try.prog 26 #[.int .u8 a0] w fun e w'=>e = .returned (.int .i64 r)∧Drawn0 w w':=by
 have H:=h
 unfold impl_LetterIndex.f at H
 clear h
 replace H:=zo H
 obtain ⟨t26001,A20,H⟩:=H
 try dsimp only at H
 have A2:=zk A20
 clear A20
 obtain rfl:=zi H
 go_enter Try.func26,Try.ntmps26
 go_wp2_with (first|((with_reducible refine gate_callee (f:=47) rfl ?_);refine goesL_ (some 4) rfl rfl Try.func47 (by kernel_rfl) rfl #[.string (⟨#[97,98,99]⟩:ByteArray),.int .u8 a0] rfl za4 ?_;(with_reducible refine (strings_IndexByte.calls (⟨#[97,98,99]⟩:ByteArray) a0 t26001 _ A2.out).mono ?_);rintro e w' ⟨rfl,⟨nd,rfl⟩⟩;refine ⟨_,rfl,?_⟩))
 go_ret
 exact ⟨za8,za20⟩
def impl_isLetters.l0:Nat→ByteArray→Int→Option (Bool)
 | 0,_,_=>none
 | k+1,x0,x3=>if x3 < (x0.size:Int) then (if 0≤x3 then ((impl_LetterIndex.f (bt x0 x3)).bind fun t94001=>(if t94001 < 0 then (some false) else (impl_isLetters.l0 k x0 (wrap64 (x3+1))))) else (none)) else (some true)
def impl_isLetters.f (k:Nat) (a0:ByteArray):Option (Bool):=impl_isLetters.l0 k a0 0
theorem impl_isLetters.calls (k:Nat) (a0:ByteArray) (r:Bool) (w:World) (h:impl_isLetters.f k a0=some r) :
   Calls Try.prog 94 #[.string a0] w fun e w'=>e = .returned (.bool r)∧Drawn0 w w':=by
 have H:=h
 unfold impl_isLetters.f at H
 clear h
 have H':=zk H
 clear H
 go_enter Try.func94,Try.ntmps94
 go_wp2
 try simp only [Act.put,zt,zv,zu]
 go_loopg [3] k (fun kq v3 w'=>∃ (x3_1:Int),v3 = .int .i64 x3_1∧Aside0 (impl_isLetters.l0 kq a0 x3_1=some r)∧Aside0 (kq≤k)∧Drawn0 w w')
 case atStart=>exact ⟨(0),za8,H',⟨Nat.le_refl _⟩,za20⟩
 case round =>
  clear H'
  obtain ⟨x3_1,rfl,HA,HK1,⟨m1,rfl⟩⟩:=hrel
  cases gk with
  | zero=>exact absurd HA.out (by simp [impl_isLetters.l0])
  | succ k1 =>
   have H:=HA.out
   clear HA
   simp only [impl_isLetters.l0] at H
   by_cases c2:x3_1 < (a0.size:Int)
   rw [if_pos c2] at H
   have c2b0:=zdl c2
   clear c2
   by_cases c3:0≤x3_1
   rw [if_pos c3] at H
   have c3b0:=zdle c3
   clear c3
   replace H:=zo H
   obtain ⟨t94001,A50,H⟩:=H
   try dsimp only at H
   have A5:=zk A50
   clear A50
   by_cases c6:t94001 < 0
   rw [if_pos c6] at H
   have c6b0:=zdl c6
   clear c6
   obtain rfl:=zi H
   have fin0_:=zk trivial
   rotate_left
   rw [if_neg c6] at H
   have c6b0:=zdnl c6
   clear c6
   have H':=zk H
   clear H
   have fin1_:=zk trivial
   rotate_left
   · rw [if_neg c3] at H
     exact absurd H (by simp)
   · rw [if_neg c2] at H
     have c2b0:=zdnl c2
     clear c2
     obtain rfl:=zi H
     go_wp2
     go_ret
     exact ⟨za8,za20⟩
   all_goals
    have p4:0≤(x3_1:Int):=of_decide_eq_true za7
    have q4:x3_1 < (a0.size:Int):=of_decide_eq_true za7
    have hx4:=bt_at a0 x3_1
    replace p4:=eq_true p4
    replace q4:=eq_true q4
    go_wp2_with (((with_reducible refine gate_callee (f:=26) rfl ?_);refine goesL_ (some 13) rfl rfl Try.func26 (by kernel_rfl) rfl #[.int .u8 (bt a0 x3_1)] rfl za4 ?_;(with_reducible refine (impl_LetterIndex.calls (bt a0 x3_1) t94001 _ A5.out).mono ?_);rintro e w' ⟨rfl,⟨nd,rfl⟩⟩;refine ⟨_,rfl,?_⟩))
    first
    | (
      clear fin0_
      go_ret
      exact ⟨za8,za20⟩)
    | (
      clear fin1_
      go_roundg k1
      case measure=>have:=HK1.out;omega
      case rel=>exact ⟨(wrap64 (x3_1+1)),za8,H',⟨za60⟩,za20⟩)
def impl_IsWord.f (k:Nat) (a0:ByteArray):Option (Bool):=if (a0.size:Int)≤30 then ((impl_isLetters.f k a0).bind fun t88001=>(some t88001)) else (some false)
theorem impl_IsWord.calls (k:Nat) (a0:ByteArray) (r:Bool) (w:World) (h:impl_IsWord.f k a0=some r) :
   Calls Try.prog 88 #[.string a0] w fun e w'=>e = .returned (.bool r)∧Drawn0 w w':=by
 have H:=h
 unfold impl_IsWord.f at H
 clear h
 by_cases c2:(a0.size:Int)≤30
 rw [if_pos c2] at H
 have c2b0:=zdle c2
 have c2b1:decide (a0.size≤30)=true:=decide_eq_true (by omega)
 clear c2
 replace H:=zo H
 obtain ⟨t88001,A30,H⟩:=H
 try dsimp only at H
 have A3:=zk A30
 clear A30
 rotate_left
 rw [if_neg c2] at H
 have c2b0:=zdnle c2
 have c2b1:decide (a0.size≤30)=false:=decide_eq_false (by omega)
 clear c2
 rotate_left
 all_goals
  obtain rfl:=zi H
  go_enter Try.func88,Try.ntmps88
  go_wp2_with ((go_at_call 94;(with_reducible refine (impl_isLetters.calls k a0 t88001 _ A3.out).mono ?_);rintro e w' ⟨rfl,⟨nd,rfl⟩⟩))
  go_ret
  exact ⟨za8,za20⟩
def impl_isVariable.f (a0:Int):Option (Bool):=(strings_IndexByte.f (⟨#[88,89,90]⟩:ByteArray) a0).bind fun t25001=>(some (decide (t25001 ≥ 0)))
theorem impl_isVariable.calls (a0:Int) (r:Bool) (w:World) (h:impl_isVariable.f a0=some r) :
  Calls Try.prog 25 #[.int .u8 a0] w fun e w'=>e = .returned (.bool r)∧Drawn0 w w':=by
 have H:=h
 unfold impl_isVariable.f at H
 clear h
 replace H:=zo H
 obtain ⟨t25001,A20,H⟩:=H
 try dsimp only at H
 have A2:=zk A20
 clear A20
 obtain rfl:=zi H
 go_enter Try.func25,Try.ntmps25
 go_wp2_with (first|((with_reducible refine gate_callee (f:=47) rfl ?_);refine goesL_ (some 4) rfl rfl Try.func47 (by kernel_rfl) rfl #[.string (⟨#[88,89,90]⟩:ByteArray),.int .u8 a0] rfl za4 ?_;(with_reducible refine (strings_IndexByte.calls (⟨#[88,89,90]⟩:ByteArray) a0 t25001 _ A2.out).mono ?_);rintro e w' ⟨rfl,⟨nd,rfl⟩⟩;refine ⟨_,rfl,?_⟩))
 go_ret
 exact ⟨za8,za20⟩
def impl_CountByte.l0:Nat→ByteArray→Int→Int→Int→Option (Int)
 | 0,_,_,_,_=>none
 | k+1,x0,x1,x5,x6=>if x6 < (x0.size:Int) then (if 0≤x6 then (if (bt x0 x6)=x1 then (impl_CountByte.l0 k x0 x1 (wrap64 (x5+1)) (wrap64 (x6+1))) else (impl_CountByte.l0 k x0 x1 x5 (wrap64 (x6+1)))) else (none)) else (some x5)
def impl_CountByte.f (k:Nat) (a0:ByteArray) (a1:Int):Option (Int):=impl_CountByte.l0 k a0 a1 0 0
theorem impl_CountByte.calls (k:Nat) (a0:ByteArray) (a1:Int) (r:Int) (w:World) (h:impl_CountByte.f k a0 a1=some r) :
   Calls Try.prog 31 #[.string a0,.int .u8 a1] w fun e w'=>e = .returned (.int .i64 r)∧Drawn0 w w':=by
 have H:=h
 unfold impl_CountByte.f at H
 clear h
 have H':=zk H
 clear H
 go_enter Try.func31,Try.ntmps31
 go_wp2
 try simp only [Act.put,zt,zv,zu]
 go_loopg [5,6] k (fun kq v5 v6 w'=>∃ (x5_1:Int) (x6_1:Int),v5 = .int .i64 x5_1∧v6 = .int .i64 x6_1∧Aside0 (impl_CountByte.l0 kq a0 a1 x5_1 x6_1=some r)∧Aside0 (kq≤k)∧Drawn0 w w')
 case atStart=>exact ⟨(0),(0),za8,za8,H',⟨Nat.le_refl _⟩,za20⟩
 case round =>
  clear H'
  obtain ⟨x5_1,x6_1,rfl,rfl,HA,HK1,⟨m1,rfl⟩⟩:=hrel
  cases gk with
  | zero=>exact absurd HA.out (by simp [impl_CountByte.l0])
  | succ k1 =>
   have H:=HA.out
   clear HA
   simp only [impl_CountByte.l0] at H
   by_cases c3:x6_1 < (a0.size:Int)
   rw [if_pos c3] at H
   have c3b0:=zdl c3
   clear c3
   by_cases c4:0≤x6_1
   rw [if_pos c4] at H
   have c4b0:=zdle c4
   clear c4
   by_cases c6:(bt a0 x6_1)=a1
   rw [if_pos c6] at H
   have c6b0:=zbt c6
   have c6b1:=zqn c6
   clear c6
   have fin0_:=zk trivial
   rotate_left
   rw [if_neg c6] at H
   have c6b0:=zbn c6
   have c6b1:=zqt c6
   have fin1_:=zk trivial
   rotate_left
   · rw [if_neg c4] at H
     exact absurd H (by simp)
   · rw [if_neg c3] at H
     have c3b0:=zdnl c3
     clear c3
     obtain rfl:=zi H
     go_wp2
     go_ret
     exact ⟨za8,za20⟩
   all_goals
    have H':=zk H
    clear H
    have p5:0≤(x6_1:Int):=of_decide_eq_true za7
    have q5:x6_1 < (a0.size:Int):=of_decide_eq_true za7
    have hx5:=bt_at a0 x6_1
    replace p5:=eq_true p5
    replace q5:=eq_true q5
    go_wp2
    first
    | (
      clear fin0_
      go_roundg k1
      case measure=>have:=HK1.out;omega
      case rel=>exact ⟨(wrap64 (x5_1+1)),(wrap64 (x6_1+1)),za8,za8,H',⟨za60⟩,za20⟩)
    | (
      clear fin1_
      go_roundg k1
      case measure=>have:=HK1.out;omega
      case rel=>exact ⟨(x5_1),(wrap64 (x6_1+1)),za8,za8,H',⟨za60⟩,za20⟩)
def impl_IsTerm.l0:Nat→ByteArray→Int→Option (Bool)
 | 0,_,_=>none
 | k+1,x0,x3=>if x3 < (x0.size:Int) then (if 0≤x3 then ((impl_LetterIndex.f (bt x0 x3)).bind fun t65001=>(if t65001 < 0 then ((impl_isVariable.f (bt x0 x3)).bind fun t65002=>(if t65002=true then (impl_IsTerm.l0 k x0 (wrap64 (x3+1))) else (some false))) else (impl_IsTerm.l0 k x0 (wrap64 (x3+1))))) else (none)) else (some true)
def impl_IsTerm.f (k:Nat) (a0:ByteArray):Option (Bool):=if (a0.size:Int) > 12 then (some false) else (impl_IsTerm.l0 k a0 0)
theorem impl_IsTerm.calls (k:Nat) (a0:ByteArray) (r:Bool) (w:World) (h:impl_IsTerm.f k a0=some r) :
  Calls Try.prog 65 #[.string a0] w fun e w'=>e = .returned (.bool r)∧Drawn0 w w':=by
 have H:=h
 unfold impl_IsTerm.f at H
 clear h
 by_cases c2:(a0.size:Int) > 12
 ·rw [if_pos c2] at H
  have c2b0:=zdl c2
  have c2b1:decide (12 < a0.size)=true:=decide_eq_true (by omega)
  clear c2
  obtain rfl:=zi H
  go_enter Try.func65,Try.ntmps65
  go_wp2
  go_ret
  exact ⟨za8,za20⟩
 ·rw [if_neg c2] at H
  have c2b0:=zdnl c2
  have c2b1:decide (12 < a0.size)=false:=decide_eq_false (by omega)
  clear c2
  have H':=zk H
  clear H
  go_enter Try.func65,Try.ntmps65
  go_wp2
  try simp only [Act.put,zt,zv,zu]
  go_loopg [3] k (fun kq v3 w'=>∃ (x3_1:Int),v3 = .int .i64 x3_1∧Aside0 (impl_IsTerm.l0 kq a0 x3_1=some r)∧Aside0 (kq≤k)∧Drawn0 w w')
  case atStart=>exact ⟨(0),za8,H',⟨Nat.le_refl _⟩,za20⟩
  case round =>
   clear H'
   try clear c2
   try clear c2b0
   try clear c2b1
   obtain ⟨x3_1,rfl,HA,HK1,⟨m1,rfl⟩⟩:=hrel
   cases gk with
   | zero=>exact absurd HA.out (by simp [impl_IsTerm.l0])
   | succ k1 =>
    have H:=HA.out
    clear HA
    simp only [impl_IsTerm.l0] at H
    by_cases c3:x3_1 < (a0.size:Int)
    rw [if_pos c3] at H
    have c3b0:=zdl c3
    clear c3
    by_cases c4:0≤x3_1
    rw [if_pos c4] at H
    have c4b0:=zdle c4
    clear c4
    replace H:=zo H
    obtain ⟨t65001,A60,H⟩:=H
    try dsimp only at H
    have A6:=zk A60
    clear A60
    by_cases c7:t65001 < 0
    rw [if_pos c7] at H
    have c7b0:=zdl c7
    clear c7
    replace H:=zo H
    obtain ⟨t65002,A90,H⟩:=H
    try dsimp only at H
    have A9:=zk A90
    clear A90
    by_cases c10:t65002=true
    subst c10
    rw [if_pos rfl] at H
    try dsimp only at H
    have H':=zk H
    clear H
    have fin0_:=zk trivial
    rotate_left
    replace c10:=Bool.eq_false_iff.mpr c10
    subst c10
    rw [if_neg (show ¬ (false=true) by decide)] at H
    try dsimp only at H
    obtain rfl:=zi H
    have fin1_:=zk trivial
    rotate_left
    · rw [if_neg c7] at H
      have c7b0:=zdnl c7
      clear c7
      have H':=zk H
      clear H
      have p5:0≤(x3_1:Int):=of_decide_eq_true za7
      have q5:x3_1 < (a0.size:Int):=of_decide_eq_true za7
      have hx5:=bt_at a0 x3_1
      replace p5:=eq_true p5
      replace q5:=eq_true q5
      go_wp2_with (first|((with_reducible refine gate_callee (f:=26) rfl ?_);refine goesL_ (some 16) rfl rfl Try.func26 (by kernel_rfl) rfl #[.int .u8 (bt a0 x3_1)] rfl za4 ?_;(with_reducible refine (impl_LetterIndex.calls (bt a0 x3_1) t65001 _ A6.out).mono ?_);rintro e w' ⟨rfl,⟨nd,rfl⟩⟩;refine ⟨_,rfl,?_⟩))
      go_roundg k1
      case measure=>have:=HK1.out;omega
      case rel=>exact ⟨(wrap64 (x3_1+1)),za8,H',⟨za60⟩,za20⟩
    · rw [if_neg c4] at H
      exact absurd H (by simp)
    · rw [if_neg c3] at H
      have c3b0:=zdnl c3
      clear c3
      obtain rfl:=zi H
      go_wp2
      go_ret
      exact ⟨za8,za20⟩
    all_goals
     have p5:0≤(x3_1:Int):=of_decide_eq_true za7
     have q5:x3_1 < (a0.size:Int):=of_decide_eq_true za7
     have hx5:=bt_at a0 x3_1
     replace p5:=eq_true p5
     replace q5:=eq_true q5
     go_wp2_with (first|((with_reducible refine gate_callee (f:=26) rfl ?_);refine goesL_ (some 16) rfl rfl Try.func26 (by kernel_rfl) rfl #[.int .u8 (bt a0 x3_1)] rfl za4 ?_;(with_reducible refine (impl_LetterIndex.calls (bt a0 x3_1) t65001 _ A6.out).mono ?_);rintro e w' ⟨rfl,⟨nd,rfl⟩⟩;refine ⟨_,rfl,?_⟩;have p8:0≤(x3_1:Int):=of_decide_eq_true za7;have q8:x3_1 < (a0.size:Int):=of_decide_eq_true za7;have hx8:=bt_at a0 x3_1;replace p8:=eq_true p8;replace q8:=eq_true q8)|(go_at_call 25;(with_reducible refine (impl_isVariable.calls (bt a0 x3_1) _ _ A9.out).mono ?_);rintro e w' ⟨rfl,⟨nd,rfl⟩⟩))
     first
     | (
       clear fin0_
       go_roundg k1
       case measure=>have:=HK1.out;omega
       case rel=>exact ⟨(wrap64 (x3_1+1)),za8,H',⟨za60⟩,za20⟩)
     | (
       clear fin1_
       go_ret
       exact ⟨za8,za20⟩)
end Go.Proofs.Ytgajchjnljekgaa.A
namespace Go.Proofs
open Go.Shelf
def Try.lays156_ren:Go.Shelf.Ren:=⟨fun|156=>57|165=>71|166=>72|169=>73|240=>82|241=>83|276=>89|277=>90|n=>n,fun|31=>55|9=>9|3=>3|4=>4|0=>0|20=>20|72=>89|76=>93|70=>87|37=>22|75=>92|127=>100|164=>103|5=>5|80=>95|n=>n,fun|n=>n⟩
theorem Try.lays156:Go.Proofs.Lays.n156 Try.prog Try.lays156_ren:={
 mixed:=by kernel_rfl
 f156:=Try.func57.trans (congrArg some (by kernel_rfl))
 f165:=Try.func71.trans (congrArg some (by kernel_rfl))
 f166:=Try.func72.trans (congrArg some (by kernel_rfl))
 f169:=Try.func73.trans (congrArg some (by kernel_rfl))
 f240:=Try.func82.trans (congrArg some (by kernel_rfl))
 f241:=Try.func83.trans (congrArg some (by kernel_rfl))
 f276:=Try.func89.trans (congrArg some (by kernel_rfl))
 f277:=Try.func90.trans (congrArg some (by kernel_rfl))
 t0:=Try.underlying0
 a0:=Try.isAgg0
 z0:=Try.sizeOf0
 v0:=Try.zeroValue0
 t3:=Try.underlying3
 a3:=Try.isAgg3
 z3:=Try.sizeOf3
 v3:=Try.zeroValue3
 t4:=Try.underlying4
 a4:=Try.isAgg4
 z4:=Try.sizeOf4
 v4:=Try.zeroValue4
 t9:=Try.underlying9
 a9:=Try.isAgg9
 z9:=Try.sizeOf9
 v9:=Try.zeroValue9
 t20:=Try.underlying20
 a20:=Try.isAgg20
 z20:=Try.sizeOf20
 v20:=Try.zeroValue20
 t31:=Try.underlying55
 a31:=Try.isAgg55
 z31:=Try.sizeOf55
 v31:=Try.zeroValue55
 t37:=Try.underlying22
 a37:=Try.isAgg22
 z37:=Try.sizeOf22
 v37:=Try.zeroValue22
 t70:=Try.underlying87
 a70:=Try.isAgg87
 z70:=Try.sizeOf87
 v70:=Try.zeroValue87
 t72:=Try.underlying89
 a72:=Try.isAgg89
 z72:=Try.sizeOf89
 v72:=Try.zeroValue89
 t75:=Try.underlying92
 a75:=Try.isAgg92
 z75:=Try.sizeOf92
 v75:=Try.zeroValue92
 t76:=Try.underlying93
 a76:=Try.isAgg93
 z76:=Try.sizeOf93
 v76:=Try.zeroValue93
 t127:=Try.underlying100
 a127:=Try.isAgg100
 z127:=Try.sizeOf100
 v127:=Try.zeroValue100
 t164:=Try.underlying103
 a164:=Try.isAgg103
 z164:=Try.sizeOf103
 v164:=Try.zeroValue103 }
theorem Try.Builder_Extra_156:Builder.Extra Try.prog Try.lays156_ren:={
 sizeBuilder:=by kernel_rfl
 liesBuilder:=by kernel_rfl
 t5:=Try.underlying5
 a5:=Try.isAgg5
 z5:=Try.sizeOf5
 v5:=Try.zeroValue5
 infoByte:=by kernel_rfl
 cellsByte:=by kernel_rfl
 sizeByte:=by kernel_rfl
 neB5:=by decide }
end Go.Proofs
namespace Go.Proofs.Ytgajchjnljekgaa.Ext
open Go Go.RowKit Go.Proofs YtgajchjnljekgaaW.PrintWords
-- EXT strings.Join making
def joinB (l:List ByteArray) (s:ByteArray):ByteArray:=⟨(Lib.join (l.map (·.data.toList)) s.data.toList).toArray⟩
def strings_Join.f (l0:List ByteArray) (a1:ByteArray):Option ByteArray :=
 if l0.length≤140737488355328∧(Lib.join (l0.map (·.data.toList)) a1.data.toList).length≤140737488355328 then some (joinB l0 a1) else none
theorem cell_spot {w:World} {a:Addr} {v:Value} (h:w.cell? a=some v):a.spot=none∧a.block < w.heap.size:=by
 unfold World.cell? at h
 split at h
 ·next hb =>
  constructor
  ·split at h
   ·cases h
   ·next hs=>simpa using hs
  ·exact (Array.getElem?_eq_some_iff.1 hb).1
 ·cases h
theorem strings_Join.calls (A0:Option Addr) (c0:Nat) (l0:List ByteArray) (a1:ByteArray) (r:ByteArray) (w:World) (hr0:Kd.C Kd.string w A0 l0.length l0) (hc0:l0.length≤c0) (h:strings_Join.f l0 a1=some r) :
  Calls Try.prog 57 #[.slice A0 l0.length c0,.string a1] w fun e w'=>e = .returned (.string r)∧Below w.heap.size w w':=by
 unfold strings_Join.f at h
 split at h
 ·next hh =>
  obtain rfl:=zi h
  by_cases hn:0 < l0.length
  ·obtain ⟨ad,rfl,hcell⟩:=hr0.2.2 hn
   have hcs:∀ (j:Nat) x,l0[j]? = some x→w.cell? (ad.add j)=some (.string x):=by
    intro j x hj
    obtain ⟨c,_,hk,hc⟩:=hcell j x hj
    obtain rfl:c = [.string x]:=hk
    have:=hc 0 _ rfl
    rwa [show Kd.string.sz=1 from rfl,Nat.mul_one,Nat.add_zero] at this
   have h0:=hcs 0 l0[0] (List.getElem?_eq_getElem hn)
   obtain ⟨hs,hb⟩:=cell_spot h0
   obtain ⟨bk,o,sp⟩:=ad
   have hs':sp=none:=by simpa [Addr.add] using hs
   subst hs'
   refine Any.strings_Join Try.lays156 Try.Builder_Extra_156 bk o c0 l0 a1 w (fun j x hj=>?_) (by simpa [Addr.add] using hb) hh.1 hc0 hh.2
   have:=hcs j x hj
   unfold Addr.add at this
   split at this
   ·next h0=>subst h0;simpa using this
   ·exact this
  ·obtain rfl:l0 = []:=List.length_eq_zero_iff.1 (by omega)
   refine (Any.strings_Join_none Try.lays156 Try.Builder_Extra_156 A0 c0 a1 w).mono ?_
   rintro e w' ⟨rfl,rfl⟩
   exact ⟨rfl,Below.refl _ _⟩
 ·cases h
end Go.Proofs.Ytgajchjnljekgaa.Ext
namespace Go.Proofs.Ytgajchjnljekgaa.A
open Go.RowKit Ytgajchjnljekgaa.Ext YtgajchjnljekgaaW.PrintWords YtgajchjnljekgaaW.PrintLast YtgajchjnljekgaaW.PrintMore
attribute [local go_sem] max2_int min2_int max_two min_two max_three min_three max_four min_four
def impl_within.f (a0:Int) (a1:Int) (a2:Int):Option (Bool):=if a0 ≥ a1 then (some (decide (a0≤a2))) else (some false)
theorem impl_within.calls (a0:Int) (a1:Int) (a2:Int) (r:Bool) (w:World) (h:impl_within.f a0 a1 a2=some r) :
   Calls Try.prog 68 #[.int .i64 a0,.int .i64 a1,.int .i64 a2] w fun e w'=>e = .returned (.bool r)∧Drawn0 w w':=by
 have H:=h
 unfold impl_within.f at H
 clear h
 by_cases c4:a0 ≥ a1
 rw [if_pos c4] at H
 have c4b0:=zdle c4
 rotate_left
 rw [if_neg c4] at H
 have c4b0:=zdnle c4
 rotate_left
 all_goals
  clear c4
  obtain rfl:=zi H
  go_enter Try.func68,Try.ntmps68
  go_wp2
  go_ret
  exact ⟨za8,za20⟩
def impl_Join.l0:Nat→List ByteArray→ByteArray→Int→List ByteArray→Int→Int→Option (ByteArray)
 | 0,_,_,_,_,_,_=>none
 | k+1,x0,x1,x5,x8,x9,x10=>if x10 < x9 then (if 0≤x10 then (if x10 < (x8.length:Int) then (if x10 > 0 then (if (wrap64 ((wrap64 (x5+(x1.size:Int)))+((rdOf ByteArray.empty x8 x10).size:Int))) > 1048576 then (some (⟨#[]⟩:ByteArray)) else (impl_Join.l0 k x0 x1 (wrap64 ((wrap64 (x5+(x1.size:Int)))+((rdOf ByteArray.empty x8 x10).size:Int))) x8 x9 (wrap64 (x10+1)))) else (if (wrap64 (x5+((rdOf ByteArray.empty x8 x10).size:Int))) > 1048576 then (some (⟨#[]⟩:ByteArray)) else (impl_Join.l0 k x0 x1 (wrap64 (x5+((rdOf ByteArray.empty x8 x10).size:Int))) x8 x9 (wrap64 (x10+1))))) else (none)) else (none)) else ((strings_Join.f x0 x1).bind fun t38001=>(some t38001))
def impl_Join.f (k:Nat) (l0:List ByteArray) (a1:ByteArray):Option (ByteArray):=impl_Join.l0 k l0 a1 0 l0 (l0.length:Int) 0
theorem impl_Join.calls (k:Nat) (A0:Option Addr) (c0:Nat) (l0:List ByteArray) (a1:ByteArray) (r:ByteArray) (w:World) (hr0:Kd.C Kd.string w A0 l0.length l0) (hc0:l0.length≤c0) (h:impl_Join.f k l0 a1=some r) :
   Calls Try.prog 38 #[.slice A0 l0.length c0,.string a1] w fun e w'=>e = .returned (.string r)∧Below w.heap.size w w':=by
 have HR0:=zk hr0
 have HC0:=zk hc0
 clear hr0 hc0
 have HB:=zk (Below.refl w.heap.size w)
 have H:=h
 unfold impl_Join.f at H
 clear h
 have H':=zk H
 clear H
 go_enter Try.func38,Try.ntmps38
 go_wp2
 try simp only [Act.put,zt,zv,zu]
 go_loopg [5,10] k (fun kq v5 v10 w'=>∃ (x5_1:Int) (x10_1:Int),v5 = .int .i64 x5_1∧v10 = .int .i64 x10_1∧Aside0 (impl_Join.l0 kq l0 a1 x5_1 l0 (l0.length:Int) x10_1=some r)∧Aside0 (kq≤k)∧Aside0 (Below w.heap.size w w'))
 case atStart=>exact ⟨(0),(0),za8,za8,H',⟨Nat.le_refl _⟩,⟨za3⟩⟩
 case round =>
  clear H'
  obtain ⟨x5_1,x10_1,rfl,rfl,HA,HK1,HB⟩:=hrel
  cases gk with
  | zero=>exact absurd HA.out (by simp [impl_Join.l0])
  | succ k1 =>
   have H:=HA.out
   clear HA
   simp only [impl_Join.l0] at H
   by_cases c3:x10_1 < (l0.length:Int)
   rw [if_pos c3] at H
   have c3b0:=zdl c3
   clear c3
   by_cases c4:0≤x10_1
   rw [if_pos c4] at H
   have c4b0:=zdle c4
   clear c4
   by_cases c5:x10_1 < (l0.length:Int)
   rw [if_pos c5] at H
   have c5b0:=zdl c5
   clear c5
   by_cases c6:x10_1 > 0
   rw [if_pos c6] at H
   have c6b0:=zdl c6
   clear c6
   by_cases c7:(wrap64 ((wrap64 (x5_1+(a1.size:Int)))+((rdOf ByteArray.empty l0 x10_1).size:Int))) > 1048576
   rw [if_pos c7] at H
   have c7b0:=zdl c7
   have c7w:decide (1048576 < (IntKind.i64.wrap ((IntKind.i64.wrap (x5_1+(a1.size:Int)))+((rdOf ByteArray.empty l0 x10_1).size:Int))))=true:=by simp only [i64_w];exact c7b0
   clear c7
   obtain rfl:=zi H
   have fin0_:=zk trivial
   rotate_left
   rw [if_neg c7] at H
   have c7b0:=zdnl c7
   have c7w:decide (1048576 < (IntKind.i64.wrap ((IntKind.i64.wrap (x5_1+(a1.size:Int)))+((rdOf ByteArray.empty l0 x10_1).size:Int))))=false:=by simp only [i64_w];exact c7b0
   clear c7
   have H':=zk H
   clear H
   have fin1_:=zk trivial
   rotate_left
   rw [if_neg c6] at H
   have c6b0:=zdnl c6
   clear c6
   by_cases c8:(wrap64 (x5_1+((rdOf ByteArray.empty l0 x10_1).size:Int))) > 1048576
   rw [if_pos c8] at H
   have c8b0:=zdl c8
   have c8w:decide (1048576 < (IntKind.i64.wrap (x5_1+((rdOf ByteArray.empty l0 x10_1).size:Int))))=true:=by simp only [i64_w];exact c8b0
   clear c8
   obtain rfl:=zi H
   have fin0_:=zk trivial
   rotate_left
   rw [if_neg c8] at H
   have c8b0:=zdnl c8
   have c8w:decide (1048576 < (IntKind.i64.wrap (x5_1+((rdOf ByteArray.empty l0 x10_1).size:Int))))=false:=by simp only [i64_w];exact c8b0
   clear c8
   have H':=zk H
   clear H
   have fin2_:=zk trivial
   rotate_left
   · rw [if_neg c5] at H
     exact absurd H (by simp)
   · rw [if_neg c4] at H
     exact absurd H (by simp)
   · rw [if_neg c3] at H
     have c3b0:=zdnl c3
     clear c3
     replace H:=zo H
     obtain ⟨t38001,A90,H⟩:=H
     try dsimp only at H
     have A9:=zk A90
     clear A90
     obtain rfl:=zi H
     go_wp2_with (first|((with_reducible refine gate_callee (f:=57) rfl ?_);refine goesL_ (some 30) rfl rfl Try.func57 (by kernel_rfl) rfl #[.slice A0 l0.length c0,.string a1] rfl za4 ?_;(with_reducible refine (strings_Join.calls _ _ l0 a1 t38001 _ ?side1 ?side2 A9.out).mono ?_);(case side1=>repeat (first|exact (Kd.C_below HR0.out HB.out)|(with_reducible refine Kd.C_alloc ?_ _)|(with_reducible refine Kd.C_drewN ?_ _)|(with_reducible refine Kd.C_drew ?_)));(case side2=>exact HC0.out);rintro e w10 ⟨rfl,hb⟩;refine ⟨_,rfl,?_⟩;replace HB:=zk (below_step za3 hb);(try clear hb);(try clear hb2);(try clear hk);(try clear hi)))
     go_ret
     exact ⟨za9,za3⟩
   all_goals
    have p38002:0≤(x10_1:Int):=of_decide_eq_true za7
    have q38002:x10_1 < (l0.length:Int):=of_decide_eq_true za7
    obtain ⟨ad38002,e38002,hx38002_0⟩:=Kd.at_string HR0.out x10_1 p38002 q38002
    cases e38002
    replace hx38002_0:=zx HB.out hx38002_0
    replace p38002:=eq_true p38002
    replace q38002:=eq_true q38002
    go_wp2
    first
    | (
      clear fin0_
      go_ret
      exact ⟨za9,za3⟩)
    | (
      clear fin1_
      go_roundg k1
      case measure=>have:=HK1.out;omega
      case rel=>exact ⟨(wrap64 ((wrap64 (x5_1+(a1.size:Int)))+((rdOf ByteArray.empty l0 x10_1).size:Int))),(wrap64 (x10_1+1)),za8,za8,H',⟨za60⟩,⟨za3⟩⟩)
    | (
      clear fin2_
      go_roundg k1
      case measure=>have:=HK1.out;omega
      case rel=>exact ⟨(wrap64 (x5_1+((rdOf ByteArray.empty l0 x10_1).size:Int))),(wrap64 (x10_1+1)),za8,za8,H',⟨za60⟩,⟨za3⟩⟩)
def impl_isZeroRegex.f (a0_0:Int) (a0_1:ByteArray) (l0_2:List (S58)):Option (Bool):=if a0_0=0 then (if a0_1.toList=([]:List UInt8) then (some ((l0_2.length:Int) == 0)) else (some false)) else (some false)
theorem impl_isZeroRegex.calls (a0_0:Int) (a0_1:ByteArray) (A0_2:Option Addr) (c0_2:Nat) (l0_2:List (S58)) (r:Bool) (w:World) (hr0_2:Kd.C k58 w A0_2 l0_2.length l0_2) (hc0_2:l0_2.length≤c0_2) (h:impl_isZeroRegex.f a0_0 a0_1 l0_2=some r) :
   Calls Try.prog 66 #[.agg #[.int .i64 a0_0,.string a0_1,.slice A0_2 l0_2.length c0_2]] w fun e w'=>e = .returned (.bool r)∧Below w.heap.size w w':=by
 have hu58:=Try.underlying58
 have HR0_2:=zk hr0_2
 have HC0_2:=zk hc0_2
 clear hr0_2 hc0_2
 have HB:=zk (Below.refl w.heap.size w)
 have H:=h
 unfold impl_isZeroRegex.f at H
 clear h
 by_cases c2:a0_0=0
 rw [if_pos c2] at H
 have c2b0:=zbt c2
 have c2b1:=zqn c2
 clear c2
 by_cases c3:a0_1.toList=([]:List UInt8)
 rw [if_pos c3] at H
 have c3b0:=zbt c3
 have c3b1:=zqn c3
 clear c3
 rotate_left
 rw [if_neg c3] at H
 have c3b0:=zbn c3
 have c3b1:=zqt c3
 rotate_left
 rw [if_neg c2] at H
 have c2b0:=zbn c2
 have c2b1:=zqt c2
 rotate_left
 all_goals
  obtain rfl:=zi H
  go_enter Try.func66,Try.ntmps66
  go_wp2_with (((with_reducible refine gate_dst (N:=1) rfl ?_);(try (refine gate_guard (by rfl) ?_;dsimp only));refine zE (N:=1) (cs:=#[.int .i64 a0_0,.string a0_1,.slice A0_2 l0_2.length c0_2]) (t:=58) ?_;intro gb66001 hg w4 hbox hb;have BK66001:=zk (hbox);have GW66001:=zk (zs (w:=w) hg za3);have GE66001:=zk (zs (w:=w) hg za3);replace HB:=zk (below_step za3 hb);clear hb hbox hg;obtain ⟨hcz5_0,hcz5_1,hcz5_2,hfz5_0,hfz5_1,hfz5_2⟩:=blk3 BK66001.out))
  go_ret
  exact ⟨za9,za3⟩
mutual
def impl_argsOf.j0:Nat→Int→Bool→Option (Int)
 | 0,_,_=>none
 | k+1,x3,x4=>if x4=true then (some 0) else (if x3=8 then (impl_argsOf.j1 k x3 (x3 == 8)) else (impl_argsOf.j1 k x3 (x3 == 9)))
def impl_argsOf.j1:Nat→Int→Bool→Option (Int)
 | 0,_,_=>none
 | k+1,x3,x9=>if x9=true then (some 1) else (if x3=5 then (some 2) else (if x3=6 then (some 2) else (if x3=7 then (some 2) else (some (-1)))))
end
def impl_argsOf.f (k:Nat) (a0:Int):Option (Int):=if a0=1 then (impl_argsOf.j0 k a0 (a0 == 1)) else (if a0=2 then (impl_argsOf.j0 k a0 (a0 == 2)) else (if a0=3 then (impl_argsOf.j0 k a0 (a0 == 3)) else (impl_argsOf.j0 k a0 (a0 == 4))))
theorem impl_argsOf.calls (k:Nat) (a0:Int) (r:Int) (w:World) (h:impl_argsOf.f k a0=some r) :
   Calls Try.prog 87 #[.int .i64 a0] w fun e w'=>e = .returned (.int .i64 r)∧Drawn0 w w':=by
 have H:=h
 unfold impl_argsOf.f at H
 clear h
 have HC2:=zk H
 clear H
 go_enter Try.func87,Try.ntmps87
 go_upto_if 4 with (fail)
 go_cut [4] (fun v4 wc=>∃ (kq:Nat) (x4_1:Bool),v4 = .bool x4_1∧Aside0 (impl_argsOf.j0 kq a0 x4_1=some r)∧Aside0 (kq≤k)∧Drawn0 w wc)
 case first =>
  have H:=HC2.out
  clear HC2
  by_cases c3:a0=1
  · rw [if_pos c3] at H
    have c3b0:=zbt c3
    have c3b1:=zqn c3
    clear c3
    (first|rw [c3b0]|(simp only [i64_w,i32_w];rw [c3b0])|skip)
    have H':=zk H
    clear H
    go_wp2
    go_meet
    case rel=>exact ⟨_,((a0 == 1)),za8,H',⟨za63⟩,za20⟩
  rw [if_neg c3] at H
  have c3b0:=zbn c3
  have c3b1:=zqt c3
  (first|rw [c3b0]|(simp only [i64_w,i32_w];rw [c3b0])|skip)
  by_cases c4:a0=2
  · rw [if_pos c4] at H
    have c4b0:=zbt c4
    have c4b1:=zqn c4
    clear c4
    have H':=zk H
    clear H
    go_wp2
    go_meet
    case rel=>exact ⟨_,((a0 == 2)),za8,H',⟨za63⟩,za20⟩
  rw [if_neg c4] at H
  have c4b0:=zbn c4
  have c4b1:=zqt c4
  by_cases c5:a0=3
  · rw [if_pos c5] at H
    have c5b0:=zbt c5
    have c5b1:=zqn c5
    clear c5
    have H':=zk H
    clear H
    go_wp2
    go_meet
    case rel=>exact ⟨_,((a0 == 3)),za8,H',⟨za63⟩,za20⟩
  · rw [if_neg c5] at H
    have c5b0:=zbn c5
    have c5b1:=zqt c5
    have H':=zk H
    clear H
    go_wp2
    go_meet
    case rel=>exact ⟨_,((a0 == 4)),za8,H',⟨za63⟩,za20⟩
 case rest =>
  clear HC2
  obtain ⟨kq,x4_1,rfl,HA,HJ1,⟨mc1,rfl⟩⟩:=hcut
  cases kq with
  | zero=>exact absurd HA.out (by simp [impl_argsOf.j0])
  | succ kj1 =>
   have H:=HA.out
   clear HA
   simp only [impl_argsOf.j0] at H
   by_cases c6:x4_1=true
   · subst c6
     rw [if_pos rfl] at H
     try dsimp only at H
     obtain rfl:=zi H
     go_wp2
     go_ret
     exact ⟨za8,za20⟩
   · replace c6:=Bool.eq_false_iff.mpr c6
     subst c6
     rw [if_neg (show ¬ (false=true) by decide)] at H
     try dsimp only at H
     have HC7:=zk H
     clear H
     go_upto_if 9 with (fail)
     go_cut [9] (fun v9 wc=>∃ (kq:Nat) (x9_6:Bool),v9 = .bool x9_6∧Aside0 (impl_argsOf.j1 kq a0 x9_6=some r)∧Aside0 (kq≤kj1)∧Drawn0 w wc)
     case first =>
      have H:=HC7.out
      clear HC7
      by_cases c8:a0=8
      · rw [if_pos c8] at H
        have c8b0:=zbt c8
        have c8b1:=zqn c8
        clear c8
        (first|rw [c8b0]|(simp only [i64_w,i32_w];rw [c8b0])|skip)
        have H':=zk H
        clear H
        go_wp2
        go_meet
        case rel=>exact ⟨_,((a0 == 8)),za8,H',⟨za100⟩,za20⟩
      · rw [if_neg c8] at H
        have c8b0:=zbn c8
        have c8b1:=zqt c8
        (first|rw [c8b0]|(simp only [i64_w,i32_w];rw [c8b0])|skip)
        have H':=zk H
        clear H
        go_wp2
        go_meet
        case rel=>exact ⟨_,((a0 == 9)),za8,H',⟨za100⟩,za20⟩
     case rest =>
      clear HC7
      try clear c6
      obtain ⟨kq,x9_6,rfl,HA,HJ6,⟨mc6,rfl⟩⟩:=hcut
      cases kq with
      | zero=>exact absurd HA.out (by simp [impl_argsOf.j1])
      | succ kj6 =>
       have H:=HA.out
       clear HA
       simp only [impl_argsOf.j1] at H
       by_cases c9:x9_6=true
       subst c9
       rw [if_pos rfl] at H
       try dsimp only at H
       rotate_left
       replace c9:=Bool.eq_false_iff.mpr c9
       subst c9
       rw [if_neg (show ¬ (false=true) by decide)] at H
       try dsimp only at H
       by_cases c10:a0=5
       rw [if_pos c10] at H
       have c10b0:=zbt c10
       have c10b1:=zqn c10
       clear c10
       rotate_left
       rw [if_neg c10] at H
       have c10b0:=zbn c10
       have c10b1:=zqt c10
       by_cases c11:a0=6
       rw [if_pos c11] at H
       have c11b0:=zbt c11
       have c11b1:=zqn c11
       clear c11
       rotate_left
       rw [if_neg c11] at H
       have c11b0:=zbn c11
       have c11b1:=zqt c11
       by_cases c12:a0=7
       rw [if_pos c12] at H
       have c12b0:=zbt c12
       have c12b1:=zqn c12
       clear c12
       rotate_left
       rw [if_neg c12] at H
       have c12b0:=zbn c12
       have c12b1:=zqt c12
       rotate_left
       all_goals
        obtain rfl:=zi H
        go_wp2
        go_ret
        exact ⟨za8,za20⟩
mutual
def impl_nodesOf.j0:Nat→Int→Bool→Int→ByteArray→List (S58)→Option (Int)
 | 0,_,_,_,_,_=>none
 | k+1,x1,x18,x80002000,x80002001,x80002002=>if x18=true then (some 17) else (if x80002000=3 then (if (x80002001.size:Int)=1 then ((impl_IsWord.f k x80002001).bind fun t80003=>(if t80003=true then (impl_nodesOf.j1 k x1 x80002000 x80002001 x80002002) else (some 17))) else (some 17)) else (if x80002001.toList=([]:List UInt8) then (impl_nodesOf.j1 k x1 x80002000 x80002001 x80002002) else (some 17)))
def impl_nodesOf.j1:Nat→Int→Int→ByteArray→List (S58)→Option (Int)
 | 0,_,_,_,_=>none
 | k+1,x1,x80002000,x80002001,x80002002=>impl_nodesOf.l0 k x1 1 x80002002 (x80002002.length:Int) 0
def impl_nodesOf.l0:Nat→Int→Int→List (S58)→Int→Int→Option (Int)
 | 0,_,_,_,_,_=>none
 | k+1,x1,x5,x36,x37,x38=>if x38 < x37 then (if 0≤x38 then (if x38 < (x36.length:Int) then ((impl_nodesOf.f k ((rd_T58 x36 x38).f0) ((rd_T58 x36 x38).f1) ((rd_T58 x36 x38).f2) (wrap64 (x1 - 1))).bind fun t80006=>(impl_nodesOf.l0 k x1 (wrap64 (x5+t80006)) x36 x37 (wrap64 (x38+1)))) else (none)) else (none)) else (some (mn x5 17))
def impl_nodesOf.f:Nat→Int→ByteArray→List (S58)→Int→Option (Int)
 | 0,_,_,_,_=>none
 | k+1,a0_0,a0_1,l0_2,a1=>if a1=0 then (impl_nodesOf.j0 k a1 true a0_0 a0_1 l0_2) else ((impl_argsOf.f k a0_0).bind fun t80002=>(impl_nodesOf.j0 k a1 ((l0_2.length:Int) != t80002) a0_0 a0_1 l0_2))
end
theorem impl_nodesOf.calls (k:Nat):∀ (a0_0:Int) (a0_1:ByteArray) (A0_2:Option Addr) (c0_2:Nat) (l0_2:List (S58)) (a1:Int) (r:Int) (w:World) (hr0_2:Kd.C k58 w A0_2 l0_2.length l0_2) (hc0_2:l0_2.length≤c0_2) (h:impl_nodesOf.f k a0_0 a0_1 l0_2 a1=some r),
   Calls Try.prog 80 #[.agg #[.int .i64 a0_0,.string a0_1,.slice A0_2 l0_2.length c0_2],.int .i64 a1] w fun e w'=>e = .returned (.int .i64 r)∧Below w.heap.size w w':=by
 induction k using Nat.strongRecOn with
 | _ k ih =>
 intro a0_0 a0_1 A0_2 c0_2 l0_2 a1 r w hr0_2 hc0_2 h
 cases k with
 | zero=>exact absurd h (by simp [impl_nodesOf.f])
 | succ k =>
 simp only [impl_nodesOf.f] at h
 have hu58:=Try.underlying58
 have HR0_2:=zk hr0_2
 have HC0_2:=zk hc0_2
 clear hr0_2 hc0_2
 have HB:=zk (Below.refl w.heap.size w)
 have H:=h
 clear h
 have HC3:=zk H
 clear H
 go_enter Try.func80,Try.ntmps80
 go_upto_region 1 with (first|((with_reducible refine gate_dst (N:=2) rfl ?_);(try (refine gate_guard (by rfl) ?_;dsimp only));refine zE (N:=2) (cs:=#[.int .i64 a0_0,.string a0_1,.slice A0_2 l0_2.length c0_2]) (t:=58) ?_;intro gb80001 hg w4 hbox hb;have BK80001:=zk (hbox);have GW80001:=zk (zs (w:=w) hg za3);have GE80001:=zk (zs (w:=w) hg za3);replace HB:=zk (below_step za3 hb);clear hb hbox hg))
 repeat (go_quiet (first|((with_reducible refine gate_dst (N:=2) rfl ?_);(try (refine gate_guard (by rfl) ?_;dsimp only));refine zE (N:=2) (cs:=#[.int .i64 a0_0,.string a0_1,.slice A0_2 l0_2.length c0_2]) (t:=58) ?_;intro gb80001 hg w4 hbox hb;have BK80001:=zk (hbox);have GW80001:=zk (zs (w:=w) hg za3);have GE80001:=zk (zs (w:=w) hg za3);replace HB:=zk (below_step za3 hb);clear hb hbox hg));go_upto_region 1 with (first|((with_reducible refine gate_dst (N:=2) rfl ?_);(try (refine gate_guard (by rfl) ?_;dsimp only));refine zE (N:=2) (cs:=#[.int .i64 a0_0,.string a0_1,.slice A0_2 l0_2.length c0_2]) (t:=58) ?_;intro gb80001 hg w4 hbox hb;have BK80001:=zk (hbox);have GW80001:=zk (zs (w:=w) hg za3);have GE80001:=zk (zs (w:=w) hg za3);replace HB:=zk (below_step za3 hb);clear hb hbox hg)))
 (try simp only [Act.put,zt,zu,zv])
 go_cut [18] (fun v18 wc=>∃ (kq:Nat) (x18_2:Bool),v18 = .bool x18_2∧Aside0 (impl_nodesOf.j0 kq a1 x18_2 a0_0 a0_1 l0_2=some r)∧Aside0 (kq≤k)∧Aside0 (wc.heap[gb80001]? = some (.cells #[.int .i64 a0_0,.string a0_1,(.slice A0_2 l0_2.length c0_2)] 58 (0,0)))∧Aside0 (Below w.heap.size w wc))
 case first =>
  have H:=HC3.out
  clear HC3
  by_cases c5:a1=0
  · rw [if_pos c5] at H
    have c5b0:=zbt c5
    have c5b1:=zqn c5
    clear c5
    (first|rw [c5b0]|(simp only [i64_w,i32_w];rw [c5b0])|skip)
    have H':=zk H
    clear H
    go_wp2
    repeat (go_quiet (fail);try go_wp2)
    go_meet
    case rel=>exact ⟨_,(true),za8,H',⟨za63⟩,⟨za1 BK80001.out⟩,⟨za3⟩⟩
  · rw [if_neg c5] at H
    have c5b0:=zbn c5
    have c5b1:=zqt c5
    (first|rw [c5b0]|(simp only [i64_w,i32_w];rw [c5b0])|skip)
    replace H:=zo H
    obtain ⟨t80002,A60,H⟩:=H
    try dsimp only at H
    have A6:=zk A60
    clear A60
    have H':=zk H
    clear H
    obtain ⟨hcz7_0,hcz7_1,hcz7_2,hfz7_0,hfz7_1,hfz7_2⟩:=blk3 BK80001.out
    go_wp2_with (first|(go_at_call 87;(with_reducible refine (impl_argsOf.calls k a0_0 t80002 _ A6.out).mono ?_);rintro e w' ⟨rfl,⟨nd,rfl⟩⟩;(try first|exact ⟨rfl,_,World.drewN_drewN _ _ _⟩|exact ⟨rfl,_,Eq.trans (World.drewN_drewN _ _ _) (congrArg (World.drewN _) (Nat.add_assoc _ _ _))⟩)))
    repeat (go_quiet (first|(go_at_call 87;(with_reducible refine (impl_argsOf.calls k a0_0 t80002 _ A6.out).mono ?_);rintro e w' ⟨rfl,⟨nd,rfl⟩⟩;(try first|exact ⟨rfl,_,World.drewN_drewN _ _ _⟩|exact ⟨rfl,_,Eq.trans (World.drewN_drewN _ _ _) (congrArg (World.drewN _) (Nat.add_assoc _ _ _))⟩)));try go_wp2_with (first|(go_at_call 87;(with_reducible refine (impl_argsOf.calls k a0_0 t80002 _ A6.out).mono ?_);rintro e w' ⟨rfl,⟨nd,rfl⟩⟩;(try first|exact ⟨rfl,_,World.drewN_drewN _ _ _⟩|exact ⟨rfl,_,Eq.trans (World.drewN_drewN _ _ _) (congrArg (World.drewN _) (Nat.add_assoc _ _ _))⟩))))
    go_meet
    case rel=>exact ⟨_,(((l0_2.length:Int) != t80002)),za8,H',⟨za63⟩,⟨za1 BK80001.out⟩,⟨za3⟩⟩
 case rest =>
  clear HC3
  obtain ⟨kq,x18_2,rfl,HA,HJ2,BK80001,HB⟩:=hcut
  cases kq with
  | zero=>exact absurd HA.out (by simp [impl_nodesOf.j0])
  | succ kj2 =>
   have H:=HA.out
   clear HA
   simp only [impl_nodesOf.j0] at H
   by_cases c8:x18_2=true
   · subst c8
     rw [if_pos rfl] at H
     try dsimp only at H
     obtain rfl:=zi H
     go_wp2
     repeat (go_quiet (fail);try go_wp2)
     go_ret
     exact ⟨za9,za3⟩
   · replace c8:=Bool.eq_false_iff.mpr c8
     subst c8
     rw [if_neg (show ¬ (false=true) by decide)] at H
     try dsimp only at H
     have HC9:=zk H
     clear H
     obtain ⟨hcz10_0,hcz10_1,hcz10_2,hfz10_0,hfz10_1,hfz10_2⟩:=blk3 BK80001.out
     go_upto_if 21 with (fail)
     repeat (go_quiet (fail);go_upto_if 21 with (fail))
     go_cut [] (fun wc=>∃ (kq:Nat),Aside0 (impl_nodesOf.j1 kq a1 a0_0 a0_1 l0_2=some r)∧Aside0 (kq≤kj2)∧Aside0 (wc.heap[gb80001]? = some (.cells #[.int .i64 a0_0,.string a0_1,(.slice A0_2 l0_2.length c0_2)] 58 (0,0)))∧Aside0 (Below w.heap.size w wc))
     case first =>
      have H:=HC9.out
      clear HC9
      by_cases c11:a0_0=3
      rw [if_pos c11] at H
      have c11b0:=zbt c11
      have c11b1:=zqn c11
      clear c11
      (first|rw [c11b0]|(simp only [i64_w,i32_w];rw [c11b0])|skip)
      by_cases c12:(a0_1.size:Int)=1
      rw [if_pos c12] at H
      have c12b0:=zbt c12
      have c12b1:=zqn c12
      clear c12
      replace H:=zo H
      obtain ⟨t80003,A130,H⟩:=H
      try dsimp only at H
      have A13:=zk A130
      clear A130
      by_cases c14:t80003=true
      subst c14
      rw [if_pos rfl] at H
      try dsimp only at H
      have H':=zk H
      clear H
      have fin0_:=zk trivial
      rotate_left
      replace c14:=Bool.eq_false_iff.mpr c14
      subst c14
      rw [if_neg (show ¬ (false=true) by decide)] at H
      try dsimp only at H
      obtain rfl:=zi H
      have fin1_:=zk trivial
      rotate_left
      rw [if_neg c12] at H
      have c12b0:=zbn c12
      have c12b1:=zqt c12
      obtain rfl:=zi H
      have fin1_:=zk trivial
      rotate_left
      rw [if_neg c11] at H
      have c11b0:=zbn c11
      have c11b1:=zqt c11
      (first|rw [c11b0]|(simp only [i64_w,i32_w];rw [c11b0])|skip)
      by_cases c18:a0_1.toList=([]:List UInt8)
      rw [if_pos c18] at H
      have c18b0:=zbt c18
      have c18b1:=zqn c18
      clear c18
      have H':=zk H
      clear H
      have fin0_:=zk trivial
      rotate_left
      rw [if_neg c18] at H
      have c18b0:=zbn c18
      have c18b1:=zqt c18
      obtain rfl:=zi H
      have fin1_:=zk trivial
      rotate_left
      all_goals
       obtain ⟨hcz15_0,hcz15_1,hcz15_2,hfz15_0,hfz15_1,hfz15_2⟩:=blk3 BK80001.out
       go_wp2_with ((go_at_call 88;(with_reducible refine (impl_IsWord.calls kj2 a0_1 _ _ A13.out).mono ?_);rintro e w' ⟨rfl,⟨nd,rfl⟩⟩;(try first|exact ⟨rfl,_,World.drewN_drewN _ _ _⟩|exact ⟨rfl,_,Eq.trans (World.drewN_drewN _ _ _) (congrArg (World.drewN _) (Nat.add_assoc _ _ _))⟩)))
       repeat (go_quiet ((go_at_call 88;(with_reducible refine (impl_IsWord.calls kj2 a0_1 _ _ A13.out).mono ?_);rintro e w' ⟨rfl,⟨nd,rfl⟩⟩;(try first|exact ⟨rfl,_,World.drewN_drewN _ _ _⟩|exact ⟨rfl,_,Eq.trans (World.drewN_drewN _ _ _) (congrArg (World.drewN _) (Nat.add_assoc _ _ _))⟩)));try go_wp2_with ((go_at_call 88;(with_reducible refine (impl_IsWord.calls kj2 a0_1 _ _ A13.out).mono ?_);rintro e w' ⟨rfl,⟨nd,rfl⟩⟩;(try first|exact ⟨rfl,_,World.drewN_drewN _ _ _⟩|exact ⟨rfl,_,Eq.trans (World.drewN_drewN _ _ _) (congrArg (World.drewN _) (Nat.add_assoc _ _ _))⟩))))
       first
       | (
          clear fin0_
          go_meet
          case rel=>exact ⟨_,H',⟨za99⟩,⟨za1 BK80001.out⟩,⟨za3⟩⟩)
       | (
          clear fin1_
          go_ret
          exact ⟨za9,za3⟩)
     case rest =>
      clear HC9
      try clear c8
      try clear hcz10_0
      try clear hcz10_1
      try clear hcz10_2
      try clear hfz10_0
      try clear hfz10_1
      try clear hfz10_2
      obtain ⟨kq,HA,HJ8,BK80001,HB⟩:=hcut
      cases kq with
      | zero=>exact absurd HA.out (by simp [impl_nodesOf.j1])
      | succ kj8 =>
       have H:=HA.out
       clear HA
       simp only [impl_nodesOf.j1] at H
       have H':=zk H
       clear H
       obtain ⟨hcz21_0,hcz21_1,hcz21_2,hfz21_0,hfz21_1,hfz21_2⟩:=blk3 BK80001.out
       go_wp2
       repeat (go_quiet (fail);try go_wp2)
       try simp only [Act.put,zt,zv,zu]
       go_loopg [5,38] kj8 (fun kq v5 v38 w'=>∃ (x5_3:Int) (x38_3:Int),v5 = .int .i64 x5_3∧v38 = .int .i64 x38_3∧Aside0 (impl_nodesOf.l0 kq a1 x5_3 l0_2 (l0_2.length:Int) x38_3=some r)∧Aside0 (kq≤kj8)∧Aside0 (w'.heap[gb80001]? = some (.cells #[.int .i64 a0_0,.string a0_1,(.slice A0_2 l0_2.length c0_2)] 58 (0,0)))∧Aside0 (Below w.heap.size w w'))
       case atStart=>exact ⟨(1),(0),za8,za8,H',⟨Nat.le_refl _⟩,⟨za1 BK80001.out⟩,⟨za3⟩⟩
       case round =>
        clear H'
        try clear c8
        try clear hcz10_0
        try clear hcz10_1
        try clear hcz10_2
        try clear hcz21_0
        try clear hcz21_1
        try clear hcz21_2
        try clear hfz10_0
        try clear hfz10_1
        try clear hfz10_2
        try clear hfz21_0
        try clear hfz21_1
        try clear hfz21_2
        obtain ⟨x5_3,x38_3,rfl,rfl,HA,HK3,BK80001,HB⟩:=hrel
        cases gk with
        | zero=>exact absurd HA.out (by simp [impl_nodesOf.l0])
        | succ k3 =>
         have H:=HA.out
         clear HA
         simp only [impl_nodesOf.l0] at H
         by_cases c22:x38_3 < (l0_2.length:Int)
         rw [if_pos c22] at H
         have c22b0:=zdl c22
         clear c22
         by_cases c23:0≤x38_3
         rw [if_pos c23] at H
         have c23b0:=zdle c23
         clear c23
         by_cases c24:x38_3 < (l0_2.length:Int)
         · rw [if_pos c24] at H
           have c24b0:=zdl c24
           clear c24
           replace H:=zo H
           obtain ⟨t80006,A250,H⟩:=H
           try dsimp only at H
           have A25:=zk A250
           clear A250
           have H':=zk H
           clear H
           have p80004:0≤(x38_3:Int):=of_decide_eq_true za7
           have q80004:x38_3 < (l0_2.length:Int):=of_decide_eq_true za7
           obtain ⟨ad80004,A80004_2,c80004_2,e80004,hx80004_0,hx80004_1,hx80004_2,hl80004_2,hi80004_2⟩:=at_T58 HR0_2.out x38_3 p80004 q80004
           cases e80004
           replace hx80004_0:=zx HB.out hx80004_0
           replace hx80004_1:=zx HB.out hx80004_1
           replace hx80004_2:=zx HB.out hx80004_2
           have HR80004_2:=zk hi80004_2
           have HC80004_2:=zk hl80004_2
           clear hi80004_2 hl80004_2
           replace p80004:=eq_true p80004
           replace q80004:=eq_true q80004
           go_wp2_with (first|((with_reducible refine gate_dst (N:=7) rfl ?_);(try (refine gate_guard (by rfl) ?_;dsimp only));refine zE (N:=7) (cs:=#[.int .i64 0,.string (⟨#[]⟩:ByteArray),.slice none 0 0]) (t:=58) ?_;intro gb80005 hg w26 hbox hb;have BK80005:=zk (hbox);have GW80005:=zk (zs (w:=w) hg za3);have GE80005:=zk (zs (w:=w) hg za3);have NB80001_80005:=zk ((by rw [hg];exact Nat.ne_of_lt (zl BK80001.out):gb80001 ≠ gb80005));have NB80005_80001:=zk ((by rw [hg];exact Nat.ne_of_gt (zl BK80001.out):gb80005 ≠ gb80001));replace BK80001:=zk (zb BK80001.out hb);replace HB:=zk (below_step za3 hb);clear hb hbox hg;have hnb27:=NB80005_80001.out;have hnc27:=NB80001_80005.out;obtain ⟨hcz28_0,hcz28_1,hcz28_2,hfz28_0,hfz28_1,hfz28_2⟩:=blk3 BK80005.out)|(go_at_call 80;(with_reducible refine (ih k3 za110 ((rd_T58 l0_2 x38_3).f0) ((rd_T58 l0_2 x38_3).f1) _ _ ((rd_T58 l0_2 x38_3).f2) (wrap64 (a1 - 1)) t80006 _ ?side1 ?side2 A25.out).mono ?_);(case side1=>exact Kd.C_below HR80004_2.out za3);(case side2=>exact HC80004_2.out);rintro e w29 ⟨rfl,hb⟩;replace BK80001:=zk (blk_below (g:=gb80001) (o:=.cells #[.int .i64 a0_0,.string a0_1,.slice (some ad80004) l0_2.length c0_2] 58 (0,0)) za61 hb);replace BK80005:=zk (blk_below (g:=gb80005) (o:=.cells #[.int .i64 ((rd_T58 l0_2 x38_3).f0),.string ((rd_T58 l0_2 x38_3).f1),.slice A80004_2 ((rd_T58 l0_2 x38_3).f2).length c80004_2] 58 (0,0)) (zpu BK80005.out) hb);replace HB:=zk (below_step za3 hb);(try clear hb);(try clear hb2);(try clear hk);(try clear hi)))
           repeat (go_quiet (first|((with_reducible refine gate_dst (N:=7) rfl ?_);(try (refine gate_guard (by rfl) ?_;dsimp only));refine zE (N:=7) (cs:=#[.int .i64 0,.string (⟨#[]⟩:ByteArray),.slice none 0 0]) (t:=58) ?_;intro gb80005 hg w26 hbox hb;have BK80005:=zk (hbox);have GW80005:=zk (zs (w:=w) hg za3);have GE80005:=zk (zs (w:=w) hg za3);have NB80001_80005:=zk ((by rw [hg];exact Nat.ne_of_lt (zl BK80001.out):gb80001 ≠ gb80005));have NB80005_80001:=zk ((by rw [hg];exact Nat.ne_of_gt (zl BK80001.out):gb80005 ≠ gb80001));replace BK80001:=zk (zb BK80001.out hb);replace HB:=zk (below_step za3 hb);clear hb hbox hg;have hnb27:=NB80005_80001.out;have hnc27:=NB80001_80005.out;obtain ⟨hcz28_0,hcz28_1,hcz28_2,hfz28_0,hfz28_1,hfz28_2⟩:=blk3 BK80005.out)|(go_at_call 80;(with_reducible refine (ih k3 za110 ((rd_T58 l0_2 x38_3).f0) ((rd_T58 l0_2 x38_3).f1) _ _ ((rd_T58 l0_2 x38_3).f2) (wrap64 (a1 - 1)) t80006 _ ?side1 ?side2 A25.out).mono ?_);(case side1=>exact Kd.C_below HR80004_2.out za3);(case side2=>exact HC80004_2.out);rintro e w29 ⟨rfl,hb⟩;replace BK80001:=zk (blk_below (g:=gb80001) (o:=.cells #[.int .i64 a0_0,.string a0_1,.slice (some ad80004) l0_2.length c0_2] 58 (0,0)) za61 hb);replace BK80005:=zk (blk_below (g:=gb80005) (o:=.cells #[.int .i64 ((rd_T58 l0_2 x38_3).f0),.string ((rd_T58 l0_2 x38_3).f1),.slice A80004_2 ((rd_T58 l0_2 x38_3).f2).length c80004_2] 58 (0,0)) (zpu BK80005.out) hb);replace HB:=zk (below_step za3 hb);(try clear hb);(try clear hb2);(try clear hk);(try clear hi)));try go_wp2_with (first|((with_reducible refine gate_dst (N:=7) rfl ?_);(try (refine gate_guard (by rfl) ?_;dsimp only));refine zE (N:=7) (cs:=#[.int .i64 0,.string (⟨#[]⟩:ByteArray),.slice none 0 0]) (t:=58) ?_;intro gb80005 hg w26 hbox hb;have BK80005:=zk (hbox);have GW80005:=zk (zs (w:=w) hg za3);have GE80005:=zk (zs (w:=w) hg za3);have NB80001_80005:=zk ((by rw [hg];exact Nat.ne_of_lt (zl BK80001.out):gb80001 ≠ gb80005));have NB80005_80001:=zk ((by rw [hg];exact Nat.ne_of_gt (zl BK80001.out):gb80005 ≠ gb80001));replace BK80001:=zk (zb BK80001.out hb);replace HB:=zk (below_step za3 hb);clear hb hbox hg;have hnb27:=NB80005_80001.out;have hnc27:=NB80001_80005.out;obtain ⟨hcz28_0,hcz28_1,hcz28_2,hfz28_0,hfz28_1,hfz28_2⟩:=blk3 BK80005.out)|(go_at_call 80;(with_reducible refine (ih k3 za110 ((rd_T58 l0_2 x38_3).f0) ((rd_T58 l0_2 x38_3).f1) _ _ ((rd_T58 l0_2 x38_3).f2) (wrap64 (a1 - 1)) t80006 _ ?side1 ?side2 A25.out).mono ?_);(case side1=>exact Kd.C_below HR80004_2.out za3);(case side2=>exact HC80004_2.out);rintro e w29 ⟨rfl,hb⟩;replace BK80001:=zk (blk_below (g:=gb80001) (o:=.cells #[.int .i64 a0_0,.string a0_1,.slice (some ad80004) l0_2.length c0_2] 58 (0,0)) za61 hb);replace BK80005:=zk (blk_below (g:=gb80005) (o:=.cells #[.int .i64 ((rd_T58 l0_2 x38_3).f0),.string ((rd_T58 l0_2 x38_3).f1),.slice A80004_2 ((rd_T58 l0_2 x38_3).f2).length c80004_2] 58 (0,0)) (zpu BK80005.out) hb);replace HB:=zk (below_step za3 hb);(try clear hb);(try clear hb2);(try clear hk);(try clear hi))))
           go_roundg k3
           case measure=>have:=HJ2.out;have:=HJ8.out;have:=HK3.out;omega
           case rel=>exact ⟨(wrap64 (x5_3+t80006)),(wrap64 (x38_3+1)),za8,za8,H',⟨za110⟩,⟨za1 BK80001.out⟩,⟨za3⟩⟩
         · rw [if_neg c24] at H
           exact absurd H (by simp)
         · rw [if_neg c23] at H
           exact absurd H (by simp)
         · rw [if_neg c22] at H
           have c22b0:=zdnl c22
           clear c22
           obtain ⟨ji30,hji30⟩:∃ j_:Int,(mn x5_3 17)=j_:=⟨_,rfl⟩
           replace H:(some ji30)=some r:=by first|(rw [hji30] at H;exact H)|(simp only [hji30] at H ⊢;exact H)
           have hji30_:(if 17 < x5_3 then 17 else x5_3)=ji30:=hji30
           obtain rfl:=zi H
           go_wp2
           repeat (go_quiet (fail);try go_wp2)
           go_ret
           exact ⟨by first|rfl|(simp [errW_none,errW_some] <;> rfl)|(simp only [← hji30];first|rfl|(simp [errW_none,errW_some] <;> rfl))|(simp [*,errW_none,errW_some] <;> rfl),za3⟩
def impl_IsValidRegex.f (k:Nat) (a0_0:Int) (a0_1:ByteArray) (l0_2:List (S58)):Option (Bool):=(impl_nodesOf.f k a0_0 a0_1 l0_2 6).bind fun t67002=>(some (decide (t67002≤16)))
theorem impl_IsValidRegex.calls (k:Nat) (a0_0:Int) (a0_1:ByteArray) (A0_2:Option Addr) (c0_2:Nat) (l0_2:List (S58)) (r:Bool) (w:World) (hr0_2:Kd.C k58 w A0_2 l0_2.length l0_2) (hc0_2:l0_2.length≤c0_2) (h:impl_IsValidRegex.f k a0_0 a0_1 l0_2=some r) :
  Calls Try.prog 67 #[.agg #[.int .i64 a0_0,.string a0_1,.slice A0_2 l0_2.length c0_2]] w fun e w'=>e = .returned (.bool r)∧Below w.heap.size w w':=by
 have hu58:=Try.underlying58
 have HR0_2:=zk hr0_2
 have HC0_2:=zk hc0_2
 clear hr0_2 hc0_2
 have HB:=zk (Below.refl w.heap.size w)
 have H:=h
 unfold impl_IsValidRegex.f at H
 clear h
 replace H:=zo H
 obtain ⟨t67002,A20,H⟩:=H
 try dsimp only at H
 have A2:=zk A20
 clear A20
 obtain rfl:=zi H
 go_enter Try.func67,Try.ntmps67
 go_wp2_with (first|((with_reducible refine gate_dst (N:=1) rfl ?_);refine zE (N:=1) (cs:=#[.int .i64 a0_0,.string a0_1,.slice A0_2 l0_2.length c0_2]) (t:=58) ?_;intro gb67001 hg w3 hbox hb;have BK67001:=zk (hbox);have GW67001:=zk (zs (w:=w) hg za3);have GE67001:=zk (zs (w:=w) hg za3);replace HB:=zk (below_step za3 hb);clear hb hbox hg;obtain ⟨hcz4_0,hcz4_1,hcz4_2,hfz4_0,hfz4_1,hfz4_2⟩:=blk3 BK67001.out)|((with_reducible refine gate_callee (f:=80) rfl ?_);refine goesL_ (some 4) rfl rfl Try.func80 (by kernel_rfl) rfl #[.agg #[.int .i64 a0_0,.string a0_1,.slice A0_2 l0_2.length c0_2],.int .i64 6] rfl za4 ?_;(with_reducible refine (impl_nodesOf.calls k a0_0 a0_1 _ _ l0_2 6 t67002 _ ?side1 ?side2 A2.out).mono ?_);(case side1=>repeat (first|exact (Kd.C_below HR0_2.out HB.out)|(with_reducible refine Kd.C_alloc ?_ _)|(with_reducible refine Kd.C_drewN ?_ _)|(with_reducible refine Kd.C_drew ?_)));(case side2=>exact HC0_2.out);rintro e w5 ⟨rfl,hb⟩;refine ⟨_,rfl,?_⟩;replace BK67001:=zk (zb BK67001.out hb);replace HB:=zk (below_step za3 hb);(try clear hb);(try clear hb2);(try clear hk);(try clear hi)))
 go_ret
 exact ⟨za9,za3⟩
def impl_IsValidConstraint_1.f (a0:Int):Option (Bool):=(impl_within.f a0 (-9) 9).bind fun t70001=>(some (!t70001))
theorem impl_IsValidConstraint_1.calls (a0:Int) (r:Bool) (w:World) (h:impl_IsValidConstraint_1.f a0=some r) :
  Calls Try.prog 70 #[.int .i64 a0] w fun e w'=>e = .returned (.bool r)∧Drawn0 w w':=by
 have H:=h
 unfold impl_IsValidConstraint_1.f at H
 clear h
 replace H:=zo H
 obtain ⟨t70001,A20,H⟩:=H
 try dsimp only at H
 have A2:=zk A20
 clear A20
 obtain rfl:=zi H
 go_enter Try.func70,Try.ntmps70
 go_wp2_with (first|((with_reducible refine gate_callee (f:=68) rfl ?_);refine goesL_ (some 4) rfl rfl Try.func68 (by kernel_rfl) rfl #[.int .i64 a0,.int .i64 (-9),.int .i64 9] rfl za4 ?_;(with_reducible refine (impl_within.calls a0 (-9) 9 t70001 _ A2.out).mono ?_);rintro e w' ⟨rfl,⟨nd,rfl⟩⟩;refine ⟨_,rfl,?_⟩))
 go_ret
 exact ⟨za8,za20⟩
end Go.Proofs.Ytgajchjnljekgaa.A
namespace Go.Proofs.Ytgajchjnljekgaa.Ext
open Go.RowKit YtgajchjnljekgaaW.PrintWords YtgajchjnljekgaaW.PrintLast
theorem goesF_ {P : Program} {ops : Array Oper} {Q : Exit → Act → World → Prop} {rest : List Oper} {oi : Oper} {a : Act} {w : World} (N : Option Tmp) (hd : oi.dst = N) (hg : oi.guard = none) {f : FuncId} {fn : Func} {as_ : Array Operand} {ts : Array TypeId} {c : Operand} (hf : P.funcs[f]? = some fn) (hname : (fn.name == "runtime.NumGoroutine") = false) (hb : fn.body.isSome = true) (args : Array Value)
  (hop:oi.op = .call { callee:=.value c,args:=as_,argTypes:=ts }) (hc:a.eval c = .func (.func f) #[] #[]) (hargs:as_.map a.eval=args)
  (h:Calls P f args w fun e w'=>∃ v,e = .returned v∧wpList P ops Q rest (a.put N v) w'):wpList P ops Q (oi :: rest) a w:=by
 refine wpList_plain hg fun K hK=>?_
 have he:=enters_ hf hname hb args w
 have hrun:(execOp a.eval oi).run P w = .ok (.enter f args) w:=by
  unfold execOp
  rw [hop]
  simp [hc,resolve,Deferred.ofValue,invoke,hargs,he]
 unfold Oper.wp
 rw [hrun,Oper.upon_enter]
 refine h.mono fun e w'' hh=>?_
 obtain ⟨v,rfl,hk⟩:=hh
 subst hd
 exact hK _ _ hk
end Go.Proofs.Ytgajchjnljekgaa.Ext
namespace Go.Proofs.Ytgajchjnljekgaa.A
open Go.RowKit Ytgajchjnljekgaa.Ext YtgajchjnljekgaaW.PrintWords YtgajchjnljekgaaW.PrintLast YtgajchjnljekgaaW.PrintMore
attribute [local go_sem] max2_int min2_int max_two min_two max_three min_three max_four min_four
def slices_IndexFunc_int_int.l0:Nat→List Int→Int→Int→Option (Int)
 | 0,_,_,_=>none
 | k+1,x0,x7,x8=>if x8 < x7 then (if 0≤x8 then (if x8 < (x0.length:Int) then ((impl_IsValidConstraint_1.f (rd x0 x8)).bind fun t81002=>(if t81002=true then (some x8) else (slices_IndexFunc_int_int.l0 k x0 x7 (wrap64 (x8+1))))) else (none)) else (none)) else (some (-1))
def slices_IndexFunc_int_int.f (k:Nat) (l0:List Int):Option (Int):=slices_IndexFunc_int_int.l0 k l0 (l0.length:Int) 0
theorem slices_IndexFunc_int_int.calls (k:Nat) (A0:Option Addr) (c0:Nat) (l0:List Int) (r:Int) (w:World) (hr0:Kd.C (Kd.int .i64) w A0 l0.length l0) (hc0:l0.length≤c0) (h:slices_IndexFunc_int_int.f k l0=some r) :
   Calls Try.prog 81 #[.slice A0 l0.length c0,.func (.func 70) #[] #[]] w fun e w'=>e = .returned (.int .i64 r)∧Drawn0 w w':=by
 have HR0:=zk hr0
 have HC0:=zk hc0
 clear hr0 hc0
 have H:=h
 unfold slices_IndexFunc_int_int.f at H
 clear h
 have H':=zk H
 clear H
 go_enter Try.func81,Try.ntmps81
 go_wp2
 try simp only [Act.put,zt,zv,zu]
 go_loopg [8] k (fun kq v8 w'=>∃ (x8_1:Int),v8 = .int .i64 x8_1∧Aside0 (slices_IndexFunc_int_int.l0 kq l0 (l0.length:Int) x8_1=some r)∧Aside0 (kq≤k)∧Drawn0 w w')
 case atStart=>exact ⟨(0),za8,H',⟨Nat.le_refl _⟩,za20⟩
 case round =>
  clear H'
  obtain ⟨x8_1,rfl,HA,HK1,⟨m1,rfl⟩⟩:=hrel
  cases gk with
  | zero=>exact absurd HA.out (by simp [slices_IndexFunc_int_int.l0])
  | succ k1 =>
   have H:=HA.out
   clear HA
   simp only [slices_IndexFunc_int_int.l0] at H
   by_cases c2:x8_1 < (l0.length:Int)
   rw [if_pos c2] at H
   have c2b0:=zdl c2
   clear c2
   by_cases c3:0≤x8_1
   rw [if_pos c3] at H
   have c3b0:=zdle c3
   clear c3
   by_cases c4:x8_1 < (l0.length:Int)
   rw [if_pos c4] at H
   have c4b0:=zdl c4
   clear c4
   replace H:=zo H
   obtain ⟨t81002,A50,H⟩:=H
   try dsimp only at H
   have A5:=zk A50
   clear A50
   by_cases c6:t81002=true
   subst c6
   rw [if_pos rfl] at H
   try dsimp only at H
   obtain rfl:=zi H
   have fin0_:=zk trivial
   rotate_left
   replace c6:=Bool.eq_false_iff.mpr c6
   subst c6
   rw [if_neg (show ¬ (false=true) by decide)] at H
   try dsimp only at H
   have H':=zk H
   clear H
   have fin1_:=zk trivial
   rotate_left
   · rw [if_neg c4] at H
     exact absurd H (by simp)
   · rw [if_neg c3] at H
     exact absurd H (by simp)
   · rw [if_neg c2] at H
     have c2b0:=zdnl c2
     clear c2
     obtain rfl:=zi H
     go_wp2
     go_ret
     exact ⟨za8,za20⟩
   all_goals
    have p81001:0≤(x8_1:Int):=of_decide_eq_true za7
    have q81001:x8_1 < (l0.length:Int):=of_decide_eq_true za7
    obtain ⟨ad81001,e81001,hx81001_0⟩:=Kd.at_int HR0.out x8_1 p81001 q81001
    cases e81001
    replace p81001:=eq_true p81001
    replace q81001:=eq_true q81001
    go_wp2_with (((with_reducible refine gate_dst (N:=16) rfl ?_);refine goesF_ (some 16) rfl rfl Try.func70 (by kernel_rfl) rfl #[.int .i64 (rd l0 x8_1)] rfl (by first|rfl|(go_simp;done)) za4 ?_;(with_reducible refine (impl_IsValidConstraint_1.calls (rd l0 x8_1) _ _ A5.out).mono ?_);rintro e w' ⟨rfl,⟨nd,rfl⟩⟩;refine ⟨_,rfl,?_⟩))
    first
    | (
      clear fin0_
      go_ret
      exact ⟨za8,za20⟩)
    | (
      clear fin1_
      go_roundg k1
      case measure=>have:=HK1.out;omega
      case rel=>exact ⟨(wrap64 (x8_1+1)),za8,H',⟨za60⟩,za20⟩)
def slices_ContainsFunc_int_int.f (k:Nat) (l0:List Int):Option (Bool):=(slices_IndexFunc_int_int.f k l0).bind fun t69001=>(some (decide (t69001 ≥ 0)))
theorem slices_ContainsFunc_int_int.calls (k:Nat) (A0:Option Addr) (c0:Nat) (l0:List Int) (r:Bool) (w:World) (hr0:Kd.C (Kd.int .i64) w A0 l0.length l0) (hc0:l0.length≤c0) (h:slices_ContainsFunc_int_int.f k l0=some r) :
  Calls Try.prog 69 #[.slice A0 l0.length c0,.func (.func 70) #[] #[]] w fun e w'=>e = .returned (.bool r)∧Drawn0 w w':=by
 have HR0:=zk hr0
 have HC0:=zk hc0
 clear hr0 hc0
 have H:=h
 unfold slices_ContainsFunc_int_int.f at H
 clear h
 replace H:=zo H
 obtain ⟨t69001,A20,H⟩:=H
 try dsimp only at H
 have A2:=zk A20
 clear A20
 obtain rfl:=zi H
 go_enter Try.func69,Try.ntmps69
 go_wp2_with (first|((with_reducible refine gate_callee (f:=81) rfl ?_);refine goesL_ (some 7) rfl rfl Try.func81 (by kernel_rfl) rfl #[.slice A0 l0.length c0,.func (.func 70) #[] #[]] rfl za4 ?_;(with_reducible refine (slices_IndexFunc_int_int.calls k _ _ l0 t69001 _ ?side1 ?side2 A2.out).mono ?_);(case side1=>repeat (first|exact HR0.out|(with_reducible refine Kd.C_alloc ?_ _)|(with_reducible refine Kd.C_drewN ?_ _)|(with_reducible refine Kd.C_drew ?_)));(case side2=>exact HC0.out);rintro e w' ⟨rfl,⟨nd,rfl⟩⟩;refine ⟨_,rfl,?_⟩))
 go_ret
 exact ⟨za8,za20⟩
end Go.Proofs.Ytgajchjnljekgaa.A
