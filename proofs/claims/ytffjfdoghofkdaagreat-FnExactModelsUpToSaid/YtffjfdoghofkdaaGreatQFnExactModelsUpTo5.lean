/- FnExactModelsUpTo: what its proof needs, put together by this session's program wip/merge.py out of the texts that wip/xp.py printed and of this session's own. -/
import Derived.Test.YtffjfdoghofkdaaGreatQFnExactModelsUpTo4
import Derived.Test.YtffjfdoghofkdaaGreatProg
import Derived.Shelf.Abstract
import Derived.Deep.LoopGhost
import Derived.Deep.QuietTactic
import Derived.Deep.RegionHeld3
import Derived.BigQuiet
import Derived.Below
import Derived.Outline
import Derived.Deep.RegionLaw
set_option linter.unusedVariables false
set_option linter.unusedSimpArgs false
set_option linter.unusedSectionVars false
set_option maxHeartbeats 8000000
set_option maxRecDepth 100000
namespace Go.Proofs.YtffjfdoghofkdaaGreat.A
open Go.RowKit YtffjfdoghofkdaaGreat.Ext YtffjfdoghofkdaaGreatW.PrintWords YtffjfdoghofkdaaGreatW.PrintLast YtffjfdoghofkdaaGreatW.PrintMore
attribute [local go_sem] max2_int min2_int max_two min_two max_three min_three max_four min_four
mutual
def spec_l3Left.l0:Nat→Int→Int→Int→ByteArray→List (S65)→Option (Int)
 | 0,_,_,_,_,_=>none
 | k+1,x1,x5,x128002000,x128002001,x128002002=>if x5 < (x128002002.length:Int) then (if x1 ≥ 0 then (if 0≤x5 then ((spec_l3Left.f k ((rd_T65 x128002002 x5).f0) ((rd_T65 x128002002 x5).f1) ((rd_T65 x128002002 x5).f2) x1).bind fun t128003=>(spec_l3Left.l0 k t128003 (wrap64 (x5+1)) x128002000 x128002001 x128002002)) else (none)) else (some x1)) else (some x1)
def spec_l3Left.f:Nat→Int→ByteArray→List (S65)→Int→Option (Int)
 | 0,_,_,_,_=>none
 | k+1,a0_0,a0_1,l0_2,a1=>spec_l3Left.l0 k (wrap64 (a1 - 1)) 0 a0_0 a0_1 l0_2
end
theorem spec_l3Left.mono_l:∀ k,(∀ y0 y1 y2 y3,LeO (spec_l3Left.f k y0 y1 y2 y3) (spec_l3Left.f (k+1) y0 y1 y2 y3))∧(∀ y0 y1 y2 y3 y4,LeO (spec_l3Left.l0 k y0 y1 y2 y3 y4) (spec_l3Left.l0 (k+1) y0 y1 y2 y3 y4))
 | 0=>⟨fun _ _ _ _ r h=>by simp [spec_l3Left.f] at h,fun _ _ _ _ _ r h=>by simp [spec_l3Left.l0] at h⟩
 | k+1=>by
  obtain ⟨ih0,ih1⟩:=spec_l3Left.mono_l k
  refine ⟨?_,?_⟩
  ·intro y0 y1 y2 y3
   unfold spec_l3Left.f
   repeat' first
   | with_reducible first|exact ih0 _ _ _ _|exact ih1 _ _ _ _ _|exact LeO.refl _|exact LeO.none _|refine LeO.ite ?_ ?_|refine LeO.bind ?_ (fun _=>?_)
  ·intro y0 y1 y2 y3 y4
   unfold spec_l3Left.l0
   repeat' first
   | with_reducible first|exact ih0 _ _ _ _|exact ih1 _ _ _ _ _|exact LeO.refl _|exact LeO.none _|refine LeO.ite ?_ ?_|refine LeO.bind ?_ (fun _=>?_)
theorem spec_l3Left.mono:∀ a0 a1 a2 a3 k,LeO (spec_l3Left.f k a0 a1 a2 a3) (spec_l3Left.f (k+1) a0 a1 a2 a3):=by
 intro a0 a1 a2 a3 k
 obtain ⟨ih0,ih1⟩:=spec_l3Left.mono_l k
 exact ih0 a0 a1 a2 a3
theorem spec_l3Left.calls (k:Nat):∀ (a0_0:Int) (a0_1:ByteArray) (A0_2:Option Addr) (c0_2:Nat) (l0_2:List (S65)) (a1:Int) (r:Int) (w:World) (hr0_2:Kd.C k65 w A0_2 l0_2.length l0_2) (hc0_2:l0_2.length≤c0_2) (h:spec_l3Left.f k a0_0 a0_1 l0_2 a1=some r),
   Calls Tryz.prog 128 #[.agg #[.int .i64 a0_0,.string a0_1,.slice A0_2 l0_2.length c0_2],.int .i64 a1] w fun e w'=>e = .returned (.int .i64 r)∧Below w.heap.size w w':=by
 induction k using Nat.strongRecOn with
 | _ k ih =>
 intro a0_0 a0_1 A0_2 c0_2 l0_2 a1 r w hr0_2 hc0_2 h
 cases k with
 | zero=>exact absurd h (by simp [spec_l3Left.f])
 | succ k =>
 simp only [spec_l3Left.f] at h
 have hu65:=Tryz.underlying65
 have HR0_2:=zk hr0_2
 have HC0_2:=zk hc0_2
 clear hr0_2 hc0_2
 have HB:=zk (Below.refl w.heap.size w)
 have H:(spec_l3Left.l0 k (wrap64 (a1 - 1)) 0 a0_0 a0_1 l0_2)=some r:=h
 clear h
 have H':=zk H
 clear H
 go_enter Tryz.func128,Tryz.ntmps128
 go_wp2_with (first|((with_reducible refine gate_dst (N:=2) rfl ?_);refine zE (N:=2) (cs:=#[.int .i64 a0_0,.string a0_1,.slice A0_2 l0_2.length c0_2]) (t:=65) ?_;intro gb128001 hg w3 hbox hb;have n0_:=zk (below_step za3 hb);have n1_:=zk (hbox);have n2_:=zk (zs (w:=w) hg za3);have n3_:=zk (zs (w:=w) hg za3);clear HB;have HB:=n0_;have BK128001:=n1_;have GW128001:=n2_;have GE128001:=n3_;clear n0_ n1_ n2_ n3_;clear hb hbox hg))
 first|go_loopg [1,5] k (fun kq v1 v5 w'=>∃ (x1_1:Int) (x5_1:Int),v1 = .int .i64 x1_1∧v5 = .int .i64 x5_1∧Aside0 (spec_l3Left.l0 kq x1_1 x5_1 a0_0 a0_1 l0_2=some r)∧Aside0 (kq≤k)∧Aside0 (w'.heap[gb128001]? = some (.cells #[.int .i64 a0_0,.string a0_1,(.slice A0_2 l0_2.length c0_2)] 65 (0,0)))∧Aside0 (Below w.heap.size w w'))|(simp only [Act.put,zt,zv,zu];go_loopg [1,5] k (fun kq v1 v5 w'=>∃ (x1_1:Int) (x5_1:Int),v1 = .int .i64 x1_1∧v5 = .int .i64 x5_1∧Aside0 (spec_l3Left.l0 kq x1_1 x5_1 a0_0 a0_1 l0_2=some r)∧Aside0 (kq≤k)∧Aside0 (w'.heap[gb128001]? = some (.cells #[.int .i64 a0_0,.string a0_1,(.slice A0_2 l0_2.length c0_2)] 65 (0,0)))∧Aside0 (Below w.heap.size w w')))
 case atStart=>exact ⟨(wrap64 (a1 - 1)),(0),za7,za7,H',⟨Nat.le_refl _⟩,⟨za1 BK128001.out⟩,⟨za3⟩⟩
 case round =>
  clear H'
  obtain ⟨x1_1,x5_1,rfl,rfl,HA,HK1,BK128001,HB⟩:=hrel
  cases gk with
  | zero=>exact absurd HA.out (by simp [spec_l3Left.l0])
  | succ k1 =>
   have H:=HA.out
   clear HA
   simp only [spec_l3Left.l0] at H
   by_cases c4:x5_1 < (l0_2.length:Int)
   rw [if_pos c4] at H
   have c4b0:decide (x5_1 < (l0_2.length:Int))=true:=decide_eq_true c4
   clear c4
   by_cases c5:x1_1 ≥ 0
   rw [if_pos c5] at H
   have c5b0:decide (0≤x1_1)=true:=decide_eq_true c5
   clear c5
   by_cases c6:0≤x5_1
   · rw [if_pos c6] at H
     have c6b0:decide (0≤x5_1)=true:=decide_eq_true c6
     clear c6
     replace H:=zo H
     obtain ⟨t128003,A70,H⟩:=H
     replace H:(spec_l3Left.l0 k1 t128003 (wrap64 (x5_1+1)) a0_0 a0_1 l0_2)=some r:=H
     have A7:=zk A70
     clear A70
     have H':=zk H
     clear H
     obtain ⟨hcz8_0,hcz8_1,hcz8_2,hfz8_0,hfz8_1,hfz8_2⟩:=blk3 BK128001.out
     have p128002:0≤(x5_1:Int):=of_decide_eq_true za8
     have q128002:x5_1 < (l0_2.length:Int):=of_decide_eq_true za8
     obtain ⟨ad128002,A128002_2,c128002_2,e128002,hx128002_0,hx128002_1,hx128002_2,hl128002_2,hi128002_2⟩:=at_T65 HR0_2.out x5_1 p128002 q128002
     cases e128002
     replace hx128002_0:=zx HB.out hx128002_0
     replace hx128002_1:=zx HB.out hx128002_1
     replace hx128002_2:=zx HB.out hx128002_2
     have HR128002_2:=zk hi128002_2
     have HC128002_2:=zk hl128002_2
     clear hi128002_2 hl128002_2
     replace p128002:=eq_true p128002
     replace q128002:=eq_true q128002
     go_wp2_with (first|((with_reducible refine gate_callee (f:=128) rfl ?_);refine goesL_ (some 25) rfl rfl Tryz.func128 (by kernel_rfl) rfl #[.agg #[.int .i64 ((rd_T65 l0_2 x5_1).f0),.string ((rd_T65 l0_2 x5_1).f1),.slice A128002_2 ((rd_T65 l0_2 x5_1).f2).length c128002_2],.int .i64 x1_1] rfl za4 ?_;(with_reducible refine (ih k1 za15 ((rd_T65 l0_2 x5_1).f0) ((rd_T65 l0_2 x5_1).f1) _ _ ((rd_T65 l0_2 x5_1).f2) x1_1 t128003 _ ?side1 ?side2 A7.out).mono ?_);(case side1=>repeat (first|exact (Kd.C_below HR128002_2.out HB.out)|(with_reducible refine Kd.C_alloc ?_ _)|(with_reducible refine Kd.C_drewN ?_ _)|(with_reducible refine Kd.C_drew ?_)));(case side2=>exact HC128002_2.out);rintro e w9 ⟨rfl,hb⟩;refine ⟨_,rfl,?_⟩;have n0_:=zk (zb BK128001.out hb);have n1_:=zk (below_step za3 hb);clear BK128001;clear HB;have BK128001:=n0_;have HB:=n1_;clear n0_ n1_;(try clear hb);(try clear hb2);(try clear hk);(try clear hi)))
     go_roundg k1
     case measure=>have:=HK1.out;omega
     case rel=>exact ⟨(t128003),(wrap64 (x5_1+1)),za7,za7,H',⟨za15⟩,⟨za1 BK128001.out⟩,⟨za3⟩⟩
   · rw [if_neg c6] at H
     exact absurd H (by simp)
   rw [if_neg c5] at H
   have c5b0:decide (0≤x1_1)=false:=decide_eq_false c5
   clear c5
   rotate_left
   rw [if_neg c4] at H
   have c4b0:decide (x5_1 < (l0_2.length:Int))=false:=decide_eq_false c4
   clear c4
   rotate_left
   all_goals
    obtain rfl:=zi H
    obtain ⟨hcz10_0,hcz10_1,hcz10_2,hfz10_0,hfz10_1,hfz10_2⟩:=blk3 BK128001.out
    go_wp2
    go_ret
    exact ⟨za6,za3⟩
mutual
def spec_l3Depth.l0:Nat→Int→Int→Int→ByteArray→List (S65)→Option (Int)
 | 0,_,_,_,_,_=>none
 | k+1,x3,x4,x129002000,x129002001,x129002002=>if x4 < (x129002002.length:Int) then (if 0≤x4 then ((spec_l3Depth.f k ((rd_T65 x129002002 x4).f0) ((rd_T65 x129002002 x4).f1) ((rd_T65 x129002002 x4).f2)).bind fun t129003=>((spec_l1Max.f x3 t129003).bind fun t129004=>(spec_l3Depth.l0 k t129004 (wrap64 (x4+1)) x129002000 x129002001 x129002002))) else (none)) else (some (wrap64 (x3+1)))
def spec_l3Depth.f:Nat→Int→ByteArray→List (S65)→Option (Int)
 | 0,_,_,_=>none
 | k+1,a0_0,a0_1,l0_2=>spec_l3Depth.l0 k 0 0 a0_0 a0_1 l0_2
end
theorem spec_l3Depth.mono_l:∀ k,(∀ y0 y1 y2,LeO (spec_l3Depth.f k y0 y1 y2) (spec_l3Depth.f (k+1) y0 y1 y2))∧(∀ y0 y1 y2 y3 y4,LeO (spec_l3Depth.l0 k y0 y1 y2 y3 y4) (spec_l3Depth.l0 (k+1) y0 y1 y2 y3 y4))
 | 0=>⟨fun _ _ _ r h=>by simp [spec_l3Depth.f] at h,fun _ _ _ _ _ r h=>by simp [spec_l3Depth.l0] at h⟩
 | k+1=>by
  obtain ⟨ih0,ih1⟩:=spec_l3Depth.mono_l k
  refine ⟨?_,?_⟩
  ·intro y0 y1 y2
   unfold spec_l3Depth.f
   repeat' first
   | with_reducible first|exact ih0 _ _ _|exact ih1 _ _ _ _ _|exact LeO.refl _|exact LeO.none _|refine LeO.ite ?_ ?_|refine LeO.bind ?_ (fun _=>?_)
  ·intro y0 y1 y2 y3 y4
   unfold spec_l3Depth.l0
   repeat' first
   | with_reducible first|exact ih0 _ _ _|exact ih1 _ _ _ _ _|exact LeO.refl _|exact LeO.none _|refine LeO.ite ?_ ?_|refine LeO.bind ?_ (fun _=>?_)
theorem spec_l3Depth.mono:∀ a0 a1 a2 k,LeO (spec_l3Depth.f k a0 a1 a2) (spec_l3Depth.f (k+1) a0 a1 a2):=by
 intro a0 a1 a2 k
 obtain ⟨ih0,ih1⟩:=spec_l3Depth.mono_l k
 exact ih0 a0 a1 a2
theorem spec_l3Depth.calls (k:Nat):∀ (a0_0:Int) (a0_1:ByteArray) (A0_2:Option Addr) (c0_2:Nat) (l0_2:List (S65)) (r:Int) (w:World) (hr0_2:Kd.C k65 w A0_2 l0_2.length l0_2) (hc0_2:l0_2.length≤c0_2) (h:spec_l3Depth.f k a0_0 a0_1 l0_2=some r),
   Calls Tryz.prog 129 #[.agg #[.int .i64 a0_0,.string a0_1,.slice A0_2 l0_2.length c0_2]] w fun e w'=>e = .returned (.int .i64 r)∧Below w.heap.size w w':=by
 induction k using Nat.strongRecOn with
 | _ k ih =>
 intro a0_0 a0_1 A0_2 c0_2 l0_2 r w hr0_2 hc0_2 h
 cases k with
 | zero=>exact absurd h (by simp [spec_l3Depth.f])
 | succ k =>
 simp only [spec_l3Depth.f] at h
 have hu65:=Tryz.underlying65
 have HR0_2:=zk hr0_2
 have HC0_2:=zk hc0_2
 clear hr0_2 hc0_2
 have HB:=zk (Below.refl w.heap.size w)
 have H:(spec_l3Depth.l0 k 0 0 a0_0 a0_1 l0_2)=some r:=h
 clear h
 have H':=zk H
 clear H
 go_enter Tryz.func129,Tryz.ntmps129
 go_wp2_with (first|((with_reducible refine gate_dst (N:=1) rfl ?_);refine zE (N:=1) (cs:=#[.int .i64 a0_0,.string a0_1,.slice A0_2 l0_2.length c0_2]) (t:=65) ?_;intro gb129001 hg w2 hbox hb;have n0_:=zk (below_step za3 hb);have n1_:=zk (hbox);have n2_:=zk (zs (w:=w) hg za3);have n3_:=zk (zs (w:=w) hg za3);clear HB;have HB:=n0_;have BK129001:=n1_;have GW129001:=n2_;have GE129001:=n3_;clear n0_ n1_ n2_ n3_;clear hb hbox hg))
 first|go_loopg [3,4] k (fun kq v3 v4 w'=>∃ (x3_1:Int) (x4_1:Int),v3 = .int .i64 x3_1∧v4 = .int .i64 x4_1∧Aside0 (spec_l3Depth.l0 kq x3_1 x4_1 a0_0 a0_1 l0_2=some r)∧Aside0 (kq≤k)∧Aside0 (w'.heap[gb129001]? = some (.cells #[.int .i64 a0_0,.string a0_1,(.slice A0_2 l0_2.length c0_2)] 65 (0,0)))∧Aside0 (Below w.heap.size w w'))|(simp only [Act.put,zt,zv,zu];go_loopg [3,4] k (fun kq v3 v4 w'=>∃ (x3_1:Int) (x4_1:Int),v3 = .int .i64 x3_1∧v4 = .int .i64 x4_1∧Aside0 (spec_l3Depth.l0 kq x3_1 x4_1 a0_0 a0_1 l0_2=some r)∧Aside0 (kq≤k)∧Aside0 (w'.heap[gb129001]? = some (.cells #[.int .i64 a0_0,.string a0_1,(.slice A0_2 l0_2.length c0_2)] 65 (0,0)))∧Aside0 (Below w.heap.size w w')))
 case atStart=>exact ⟨(0),(0),za7,za7,H',⟨Nat.le_refl _⟩,⟨za1 BK129001.out⟩,⟨za3⟩⟩
 case round =>
  clear H'
  obtain ⟨x3_1,x4_1,rfl,rfl,HA,HK1,BK129001,HB⟩:=hrel
  cases gk with
  | zero=>exact absurd HA.out (by simp [spec_l3Depth.l0])
  | succ k1 =>
   have H:=HA.out
   clear HA
   simp only [spec_l3Depth.l0] at H
   by_cases c3:x4_1 < (l0_2.length:Int)
   rw [if_pos c3] at H
   have c3b0:decide (x4_1 < (l0_2.length:Int))=true:=decide_eq_true c3
   clear c3
   by_cases c4:0≤x4_1
   ·rw [if_pos c4] at H
    have c4b0:decide (0≤x4_1)=true:=decide_eq_true c4
    clear c4
    replace H:=zo H
    obtain ⟨t129003,A50,H⟩:=H
    replace H:((spec_l1Max.f x3_1 t129003).bind fun t129004=>(spec_l3Depth.l0 k1 t129004 (wrap64 (x4_1+1)) a0_0 a0_1 l0_2))=some r:=H
    have A5:=zk A50
    clear A50
    replace H:=zo H
    obtain ⟨t129004,A60,H⟩:=H
    replace H:(spec_l3Depth.l0 k1 t129004 (wrap64 (x4_1+1)) a0_0 a0_1 l0_2)=some r:=H
    have A6:=zk A60
    clear A60
    have H':=zk H
    clear H
    obtain ⟨hcz7_0,hcz7_1,hcz7_2,hfz7_0,hfz7_1,hfz7_2⟩:=blk3 BK129001.out
    have p129002:0≤(x4_1:Int):=of_decide_eq_true za8
    have q129002:x4_1 < (l0_2.length:Int):=of_decide_eq_true za8
    obtain ⟨ad129002,A129002_2,c129002_2,e129002,hx129002_0,hx129002_1,hx129002_2,hl129002_2,hi129002_2⟩:=at_T65 HR0_2.out x4_1 p129002 q129002
    cases e129002
    replace hx129002_0:=zx HB.out hx129002_0
    replace hx129002_1:=zx HB.out hx129002_1
    replace hx129002_2:=zx HB.out hx129002_2
    have HR129002_2:=zk hi129002_2
    have HC129002_2:=zk hl129002_2
    clear hi129002_2 hl129002_2
    replace p129002:=eq_true p129002
    replace q129002:=eq_true q129002
    go_wp2_with (first|((with_reducible refine gate_callee (f:=129) rfl ?_);refine goesL_ (some 18) rfl rfl Tryz.func129 (by kernel_rfl) rfl #[.agg #[.int .i64 ((rd_T65 l0_2 x4_1).f0),.string ((rd_T65 l0_2 x4_1).f1),.slice A129002_2 ((rd_T65 l0_2 x4_1).f2).length c129002_2]] rfl za4 ?_;(with_reducible refine (ih k1 za15 ((rd_T65 l0_2 x4_1).f0) ((rd_T65 l0_2 x4_1).f1) _ _ ((rd_T65 l0_2 x4_1).f2) t129003 _ ?side1 ?side2 A5.out).mono ?_);(case side1=>repeat (first|exact (Kd.C_below HR129002_2.out HB.out)|(with_reducible refine Kd.C_alloc ?_ _)|(with_reducible refine Kd.C_drewN ?_ _)|(with_reducible refine Kd.C_drew ?_)));(case side2=>exact HC129002_2.out);rintro e w8 ⟨rfl,hb⟩;refine ⟨_,rfl,?_⟩;have n0_:=zk (zb BK129001.out hb);have n1_:=zk (below_step za3 hb);clear BK129001;clear HB;have BK129001:=n0_;have HB:=n1_;clear n0_ n1_;(try clear hb);(try clear hb2);(try clear hk);(try clear hi))|((with_reducible refine gate_callee (f:=139) rfl ?_);refine goesL_ (some 19) rfl rfl Tryz.func139 (by kernel_rfl) rfl #[.int .i64 x3_1,.int .i64 t129003] rfl za4 ?_;(with_reducible refine (spec_l1Max.calls x3_1 t129003 t129004 _ A6.out).mono ?_);rintro e w' ⟨rfl,⟨nd,rfl⟩⟩;refine ⟨_,rfl,?_⟩))
    go_roundg k1
    case measure=>have:=HK1.out;omega
    case rel=>exact ⟨(t129004),(wrap64 (x4_1+1)),za7,za7,H',⟨za15⟩,⟨za1 BK129001.out⟩,⟨za3⟩⟩
   ·rw [if_neg c4] at H
    exact absurd H (by simp)
   ·rw [if_neg c3] at H
    have c3b0:decide (x4_1 < (l0_2.length:Int))=false:=decide_eq_false c3
    clear c3
    obtain rfl:=zi H
    obtain ⟨hcz9_0,hcz9_1,hcz9_2,hfz9_0,hfz9_1,hfz9_2⟩:=blk3 BK129001.out
    go_wp2
    go_ret
    exact ⟨za6,za3⟩
def spec_l3Args.j0:Nat→Int→Bool→Option (Int)
 | 0,_,_=>none
 | k+1,x3,x4=>if x4=true then (some 2) else (if x3=8 then (some 1) else (if x3=9 then (some 1) else (some 0)))
def spec_l3Args.f (k:Nat) (a0:Int):Option (Int):=if a0=5 then (spec_l3Args.j0 k a0 (a0 == 5)) else (if a0=6 then (spec_l3Args.j0 k a0 (a0 == 6)) else (spec_l3Args.j0 k a0 (a0 == 7)))
theorem spec_l3Args.mono_l:∀ k,(∀ y0 y1,LeO (spec_l3Args.j0 k y0 y1) (spec_l3Args.j0 (k+1) y0 y1))
 | 0=>fun _ _ r h=>by simp [spec_l3Args.j0] at h
 | k+1=>by
  have ih0:=spec_l3Args.mono_l k
  ·intro y0 y1
   unfold spec_l3Args.j0
   repeat' first
   | with_reducible first|exact ih0 _ _|exact LeO.refl _|exact LeO.none _|refine LeO.ite ?_ ?_|refine LeO.bind ?_ (fun _=>?_)
theorem spec_l3Args.mono:∀ a0 k,LeO (spec_l3Args.f k a0) (spec_l3Args.f (k+1) a0):=by
 intro a0 k
 have ih0:=spec_l3Args.mono_l k
 unfold spec_l3Args.f
 repeat' first
  | with_reducible first|exact ih0 _ _|exact LeO.refl _|exact LeO.none _|refine LeO.ite ?_ ?_|refine LeO.bind ?_ (fun _=>?_)
theorem spec_l3Args.calls (k:Nat) (a0:Int) (r:Int) (w:World) (h:spec_l3Args.f k a0=some r) :
   Calls Tryz.prog 140 #[.int .i64 a0] w fun e w'=>e = .returned (.int .i64 r)∧Drawn0 w w':=by
 have H:(if a0=5 then (spec_l3Args.j0 k a0 (a0 == 5)) else (if a0=6 then (spec_l3Args.j0 k a0 (a0 == 6)) else (spec_l3Args.j0 k a0 (a0 == 7))))=some r:=h
 clear h
 have HC2:=zk H
 clear H
 go_enter Tryz.func140,Tryz.ntmps140
 go_upto_if 4 with (fail)
 go_cut [4] (fun v4 wc=>∃ (kq:Nat) (x4_1:Bool),v4 = .bool x4_1∧Aside0 (spec_l3Args.j0 kq a0 x4_1=some r)∧Aside0 (kq≤k)∧Drawn0 w wc)
 case first =>
  have H:=HC2.out
  clear HC2
  by_cases c3:a0=5
  · rw [if_pos c3] at H
    have c3b0:(a0 == 5)=true:=beq_iff_eq.mpr c3
    have c3b1:(a0 != 5)=false:=bne_eq_false_iff_eq.mpr c3
    clear c3
    (first|rw [c3b0]|(simp only [i64_w,i32_w];rw [c3b0])|skip)
    have H':=zk H
    clear H
    go_wp2
    go_meet
    case rel=>exact ⟨_,((a0 == 5)),za7,H',⟨za23⟩,za10⟩
  rw [if_neg c3] at H
  have c3b0:(a0 == 5)=false:=beq_eq_false_iff_ne.mpr c3
  have c3b1:(a0 != 5)=true:=bne_iff_ne.mpr c3
  (first|rw [c3b0]|(simp only [i64_w,i32_w];rw [c3b0])|skip)
  by_cases c4:a0=6
  · rw [if_pos c4] at H
    have c4b0:(a0 == 6)=true:=beq_iff_eq.mpr c4
    have c4b1:(a0 != 6)=false:=bne_eq_false_iff_eq.mpr c4
    clear c4
    have H':=zk H
    clear H
    go_wp2
    go_meet
    case rel=>exact ⟨_,((a0 == 6)),za7,H',⟨za23⟩,za10⟩
  · rw [if_neg c4] at H
    have c4b0:(a0 == 6)=false:=beq_eq_false_iff_ne.mpr c4
    have c4b1:(a0 != 6)=true:=bne_iff_ne.mpr c4
    have H':=zk H
    clear H
    go_wp2
    go_meet
    case rel=>exact ⟨_,((a0 == 7)),za7,H',⟨za23⟩,za10⟩
 case rest =>
  clear HC2
  obtain ⟨kq,x4_1,rfl,HA,HJ1,⟨mc1,rfl⟩⟩:=hcut
  cases kq with
  | zero=>exact absurd HA.out (by simp [spec_l3Args.j0])
  | succ kj1 =>
   have H:=HA.out
   clear HA
   simp only [spec_l3Args.j0] at H
   by_cases c5:x4_1=true
   subst c5
   have H1:(some 2)=some r:=by rw [if_pos rfl] at H;exact H
   clear H
   have H:=H1
   clear H1
   rotate_left
   replace c5:=Bool.eq_false_iff.mpr c5
   subst c5
   have H1:(if a0=8 then (some 1) else (if a0=9 then (some 1) else (some 0)))=some r:=by rw [if_neg (show ¬ (false=true) by decide)] at H;exact H
   clear H
   have H:=H1
   clear H1
   by_cases c6:a0=8
   rw [if_pos c6] at H
   have c6b0:(a0 == 8)=true:=beq_iff_eq.mpr c6
   have c6b1:(a0 != 8)=false:=bne_eq_false_iff_eq.mpr c6
   clear c6
   rotate_left
   rw [if_neg c6] at H
   have c6b0:(a0 == 8)=false:=beq_eq_false_iff_ne.mpr c6
   have c6b1:(a0 != 8)=true:=bne_iff_ne.mpr c6
   by_cases c7:a0=9
   rw [if_pos c7] at H
   have c7b0:(a0 == 9)=true:=beq_iff_eq.mpr c7
   have c7b1:(a0 != 9)=false:=bne_eq_false_iff_eq.mpr c7
   clear c7
   rotate_left
   rw [if_neg c7] at H
   have c7b0:(a0 == 9)=false:=beq_eq_false_iff_ne.mpr c7
   have c7b1:(a0 != 9)=true:=bne_iff_ne.mpr c7
   rotate_left
   all_goals
    obtain rfl:=zi H
    go_wp2
    go_ret
    exact ⟨za7,za10⟩
mutual
def spec_l3All.l0:Nat→Int→Int→ByteArray→List (S65)→Option (Bool)
 | 0,_,_,_,_=>none
 | k+1,x3,x130002000,x130002001,x130002002=>if x3 < (x130002002.length:Int) then (if 0≤x3 then ((spec_l3All.f k ((rd_T65 x130002002 x3).f0) ((rd_T65 x130002002 x3).f1) ((rd_T65 x130002002 x3).f2)).bind fun t130003=>(if t130003=true then (spec_l3All.l0 k (wrap64 (x3+1)) x130002000 x130002001 x130002002) else (some false))) else (none)) else (if x130002000=3 then (if (x130002001.size:Int)=1 then ((spec_IsWord.f k x130002001).bind fun t130004=>(if t130004=true then (some ((x130002002.length:Int) == 0)) else (some false))) else (some false)) else ((spec_l1In.f x130002000 1 9).bind fun t130005=>(if t130005=true then (if x130002001.toList=([]:List UInt8) then ((spec_l3Args.f k x130002000).bind fun t130006=>(some ((x130002002.length:Int) == t130006))) else (some false)) else (some false))))
def spec_l3All.f:Nat→Int→ByteArray→List (S65)→Option (Bool)
 | 0,_,_,_=>none
 | k+1,a0_0,a0_1,l0_2=>spec_l3All.l0 k 0 a0_0 a0_1 l0_2
end
theorem spec_l3All.mono_l:∀ k,(∀ y0 y1 y2,LeO (spec_l3All.f k y0 y1 y2) (spec_l3All.f (k+1) y0 y1 y2))∧(∀ y0 y1 y2 y3,LeO (spec_l3All.l0 k y0 y1 y2 y3) (spec_l3All.l0 (k+1) y0 y1 y2 y3))
 | 0=>⟨fun _ _ _ r h=>by simp [spec_l3All.f] at h,fun _ _ _ _ r h=>by simp [spec_l3All.l0] at h⟩
 | k+1=>by
  obtain ⟨ih0,ih1⟩:=spec_l3All.mono_l k
  refine ⟨?_,?_⟩
  ·intro y0 y1 y2
   unfold spec_l3All.f
   repeat' first
   | with_reducible first|exact ih0 _ _ _|exact ih1 _ _ _ _|exact spec_IsWord.mono _ _|exact spec_l3Args.mono _ _|exact LeO.refl _|exact LeO.none _|refine LeO.ite ?_ ?_|refine LeO.bind ?_ (fun _=>?_)
  ·intro y0 y1 y2 y3
   unfold spec_l3All.l0
   repeat' first
   | with_reducible first|exact ih0 _ _ _|exact ih1 _ _ _ _|exact spec_IsWord.mono _ _|exact spec_l3Args.mono _ _|exact LeO.refl _|exact LeO.none _|refine LeO.ite ?_ ?_|refine LeO.bind ?_ (fun _=>?_)
theorem spec_l3All.mono:∀ a0 a1 a2 k,LeO (spec_l3All.f k a0 a1 a2) (spec_l3All.f (k+1) a0 a1 a2):=by
 intro a0 a1 a2 k
 obtain ⟨ih0,ih1⟩:=spec_l3All.mono_l k
 exact ih0 a0 a1 a2
theorem spec_l3All.calls (k:Nat):∀ (a0_0:Int) (a0_1:ByteArray) (A0_2:Option Addr) (c0_2:Nat) (l0_2:List (S65)) (r:Bool) (w:World) (hr0_2:Kd.C k65 w A0_2 l0_2.length l0_2) (hc0_2:l0_2.length≤c0_2) (h:spec_l3All.f k a0_0 a0_1 l0_2=some r),
   Calls Tryz.prog 130 #[.agg #[.int .i64 a0_0,.string a0_1,.slice A0_2 l0_2.length c0_2]] w fun e w'=>e = .returned (.bool r)∧Below w.heap.size w w':=by
 induction k using Nat.strongRecOn with
 | _ k ih =>
 intro a0_0 a0_1 A0_2 c0_2 l0_2 r w hr0_2 hc0_2 h
 cases k with
 | zero=>exact absurd h (by simp [spec_l3All.f])
 | succ k =>
 simp only [spec_l3All.f] at h
 have hu65:=Tryz.underlying65
 have HR0_2:=zk hr0_2
 have HC0_2:=zk hc0_2
 clear hr0_2 hc0_2
 have HB:=zk (Below.refl w.heap.size w)
 have H:(spec_l3All.l0 k 0 a0_0 a0_1 l0_2)=some r:=h
 clear h
 have H':=zk H
 clear H
 go_enter Tryz.func130,Tryz.ntmps130
 go_wp2_with (first|((with_reducible refine gate_dst (N:=1) rfl ?_);(try (refine gate_guard (by rfl) ?_;dsimp only));refine zE (N:=1) (cs:=#[.int .i64 a0_0,.string a0_1,.slice A0_2 l0_2.length c0_2]) (t:=65) ?_;intro gb130001 hg w2 hbox hb;have n0_:=zk (below_step za3 hb);have n1_:=zk (hbox);have n2_:=zk (zs (w:=w) hg za3);have n3_:=zk (zs (w:=w) hg za3);clear HB;have HB:=n0_;have BK130001:=n1_;have GW130001:=n2_;have GE130001:=n3_;clear n0_ n1_ n2_ n3_;clear hb hbox hg))
 repeat (go_quiet (first|((with_reducible refine gate_dst (N:=1) rfl ?_);(try (refine gate_guard (by rfl) ?_;dsimp only));refine zE (N:=1) (cs:=#[.int .i64 a0_0,.string a0_1,.slice A0_2 l0_2.length c0_2]) (t:=65) ?_;intro gb130001 hg w2 hbox hb;have n0_:=zk (below_step za3 hb);have n1_:=zk (hbox);have n2_:=zk (zs (w:=w) hg za3);have n3_:=zk (zs (w:=w) hg za3);clear HB;have HB:=n0_;have BK130001:=n1_;have GW130001:=n2_;have GE130001:=n3_;clear n0_ n1_ n2_ n3_;clear hb hbox hg));try go_wp2_with (first|((with_reducible refine gate_dst (N:=1) rfl ?_);(try (refine gate_guard (by rfl) ?_;dsimp only));refine zE (N:=1) (cs:=#[.int .i64 a0_0,.string a0_1,.slice A0_2 l0_2.length c0_2]) (t:=65) ?_;intro gb130001 hg w2 hbox hb;have n0_:=zk (below_step za3 hb);have n1_:=zk (hbox);have n2_:=zk (zs (w:=w) hg za3);have n3_:=zk (zs (w:=w) hg za3);clear HB;have HB:=n0_;have BK130001:=n1_;have GW130001:=n2_;have GE130001:=n3_;clear n0_ n1_ n2_ n3_;clear hb hbox hg)))
 first|go_loopg [3] k (fun kq v3 w'=>∃ (x3_1:Int),v3 = .int .i64 x3_1∧Aside0 (spec_l3All.l0 kq x3_1 a0_0 a0_1 l0_2=some r)∧Aside0 (kq≤k)∧Aside0 (w'.heap[gb130001]? = some (.cells #[.int .i64 a0_0,.string a0_1,(.slice A0_2 l0_2.length c0_2)] 65 (0,0)))∧Aside0 (Below w.heap.size w w'))|(simp only [Act.put,zt,zv,zu];go_loopg [3] k (fun kq v3 w'=>∃ (x3_1:Int),v3 = .int .i64 x3_1∧Aside0 (spec_l3All.l0 kq x3_1 a0_0 a0_1 l0_2=some r)∧Aside0 (kq≤k)∧Aside0 (w'.heap[gb130001]? = some (.cells #[.int .i64 a0_0,.string a0_1,(.slice A0_2 l0_2.length c0_2)] 65 (0,0)))∧Aside0 (Below w.heap.size w w')))
 case atStart=>exact ⟨(0),za7,H',⟨Nat.le_refl _⟩,⟨za1 BK130001.out⟩,⟨za3⟩⟩
 case round =>
  clear H'
  obtain ⟨x3_1,rfl,HA,HK1,BK130001,HB⟩:=hrel
  cases gk with
  | zero=>exact absurd HA.out (by simp [spec_l3All.l0])
  | succ k1 =>
   have H:=HA.out
   clear HA
   simp only [spec_l3All.l0] at H
   by_cases c3:x3_1 < (l0_2.length:Int)
   rw [if_pos c3] at H
   have c3b0:decide (x3_1 < (l0_2.length:Int))=true:=decide_eq_true c3
   clear c3
   by_cases c4:0≤x3_1
   rw [if_pos c4] at H
   have c4b0:decide (0≤x3_1)=true:=decide_eq_true c4
   clear c4
   replace H:=zo H
   obtain ⟨t130003,A50,H⟩:=H
   replace H:(if t130003=true then (spec_l3All.l0 k1 (wrap64 (x3_1+1)) a0_0 a0_1 l0_2) else (some false))=some r:=H
   have A5:=zk A50
   clear A50
   by_cases c6:t130003=true
   · subst c6
     have H1:(spec_l3All.l0 k1 (wrap64 (x3_1+1)) a0_0 a0_1 l0_2)=some r:=by rw [if_pos rfl] at H;exact H
     clear H
     have H:=H1
     clear H1
     have H':=zk H
     clear H
     obtain ⟨hcz7_0,hcz7_1,hcz7_2,hfz7_0,hfz7_1,hfz7_2⟩:=blk3 BK130001.out
     have p130002:0≤(x3_1:Int):=of_decide_eq_true za8
     have q130002:x3_1 < (l0_2.length:Int):=of_decide_eq_true za8
     obtain ⟨ad130002,A130002_2,c130002_2,e130002,hx130002_0,hx130002_1,hx130002_2,hl130002_2,hi130002_2⟩:=at_T65 HR0_2.out x3_1 p130002 q130002
     cases e130002
     replace hx130002_0:=zx HB.out hx130002_0
     replace hx130002_1:=zx HB.out hx130002_1
     replace hx130002_2:=zx HB.out hx130002_2
     have HR130002_2:=zk hi130002_2
     have HC130002_2:=zk hl130002_2
     clear hi130002_2 hl130002_2
     replace p130002:=eq_true p130002
     replace q130002:=eq_true q130002
     go_wp2_with (first|(go_at_call 130;(with_reducible refine (ih k1 za15 ((rd_T65 l0_2 x3_1).f0) ((rd_T65 l0_2 x3_1).f1) _ _ ((rd_T65 l0_2 x3_1).f2) true _ ?side1 ?side2 A5.out).mono ?_);(case side1=>repeat (first|exact (Kd.C_below HR130002_2.out HB.out)|(with_reducible refine Kd.C_alloc ?_ _)|(with_reducible refine Kd.C_drewN ?_ _)|(with_reducible refine Kd.C_drew ?_)));(case side2=>exact HC130002_2.out);rintro e w8 ⟨rfl,hb⟩;have n0_:=zk (zb BK130001.out hb);have n1_:=zk (below_step za3 hb);clear BK130001;clear HB;have BK130001:=n0_;have HB:=n1_;clear n0_ n1_;(try clear hb);(try clear hb2);(try clear hk);(try clear hi)))
     repeat (go_quiet (first|(go_at_call 130;(with_reducible refine (ih k1 za15 ((rd_T65 l0_2 x3_1).f0) ((rd_T65 l0_2 x3_1).f1) _ _ ((rd_T65 l0_2 x3_1).f2) true _ ?side1 ?side2 A5.out).mono ?_);(case side1=>repeat (first|exact (Kd.C_below HR130002_2.out HB.out)|(with_reducible refine Kd.C_alloc ?_ _)|(with_reducible refine Kd.C_drewN ?_ _)|(with_reducible refine Kd.C_drew ?_)));(case side2=>exact HC130002_2.out);rintro e w8 ⟨rfl,hb⟩;have n0_:=zk (zb BK130001.out hb);have n1_:=zk (below_step za3 hb);clear BK130001;clear HB;have BK130001:=n0_;have HB:=n1_;clear n0_ n1_;(try clear hb);(try clear hb2);(try clear hk);(try clear hi)));try go_wp2_with (first|(go_at_call 130;(with_reducible refine (ih k1 za15 ((rd_T65 l0_2 x3_1).f0) ((rd_T65 l0_2 x3_1).f1) _ _ ((rd_T65 l0_2 x3_1).f2) true _ ?side1 ?side2 A5.out).mono ?_);(case side1=>repeat (first|exact (Kd.C_below HR130002_2.out HB.out)|(with_reducible refine Kd.C_alloc ?_ _)|(with_reducible refine Kd.C_drewN ?_ _)|(with_reducible refine Kd.C_drew ?_)));(case side2=>exact HC130002_2.out);rintro e w8 ⟨rfl,hb⟩;have n0_:=zk (zb BK130001.out hb);have n1_:=zk (below_step za3 hb);clear BK130001;clear HB;have BK130001:=n0_;have HB:=n1_;clear n0_ n1_;(try clear hb);(try clear hb2);(try clear hk);(try clear hi))))
     go_roundg k1
     case measure=>have:=HK1.out;omega
     case rel=>exact ⟨(wrap64 (x3_1+1)),za7,H',⟨za15⟩,⟨za1 BK130001.out⟩,⟨za3⟩⟩
   replace c6:=Bool.eq_false_iff.mpr c6
   subst c6
   have H1:(some false)=some r:=by rw [if_neg (show ¬ (false=true) by decide)] at H;exact H
   clear H
   have H:=H1
   clear H1
   obtain rfl:=zi H
   obtain ⟨hcz9_0,hcz9_1,hcz9_2,hfz9_0,hfz9_1,hfz9_2⟩:=blk3 BK130001.out
   have p130002:0≤(x3_1:Int):=of_decide_eq_true za8
   have q130002:x3_1 < (l0_2.length:Int):=of_decide_eq_true za8
   obtain ⟨ad130002,A130002_2,c130002_2,e130002,hx130002_0,hx130002_1,hx130002_2,hl130002_2,hi130002_2⟩:=at_T65 HR0_2.out x3_1 p130002 q130002
   cases e130002
   replace hx130002_0:=zx HB.out hx130002_0
   replace hx130002_1:=zx HB.out hx130002_1
   replace hx130002_2:=zx HB.out hx130002_2
   have HR130002_2:=zk hi130002_2
   have HC130002_2:=zk hl130002_2
   clear hi130002_2 hl130002_2
   replace p130002:=eq_true p130002
   replace q130002:=eq_true q130002
   rotate_left
   · rw [if_neg c4] at H
     exact absurd H (by simp)
   rw [if_neg c3] at H
   have c3b0:decide (x3_1 < (l0_2.length:Int))=false:=decide_eq_false c3
   clear c3
   by_cases c11:a0_0=3
   rw [if_pos c11] at H
   have c11b0:(a0_0 == 3)=true:=beq_iff_eq.mpr c11
   have c11b1:(a0_0 != 3)=false:=bne_eq_false_iff_eq.mpr c11
   clear c11
   by_cases c12:(a0_1.size:Int)=1
   rw [if_pos c12] at H
   have c12b0:((a0_1.size:Int) == 1)=true:=beq_iff_eq.mpr c12
   have c12b1:((a0_1.size:Int) != 1)=false:=bne_eq_false_iff_eq.mpr c12
   clear c12
   replace H:=zo H
   obtain ⟨t130004,A130,H⟩:=H
   replace H:(if t130004=true then (some ((l0_2.length:Int) == 0)) else (some false))=some r:=H
   have A13:=zk A130
   clear A130
   by_cases c14:t130004=true
   subst c14
   have H1:(some ((l0_2.length:Int) == 0))=some r:=by rw [if_pos rfl] at H;exact H
   clear H
   have H:=H1
   clear H1
   obtain rfl:=zi H
   obtain ⟨hcz15_0,hcz15_1,hcz15_2,hfz15_0,hfz15_1,hfz15_2⟩:=blk3 BK130001.out
   rotate_left
   replace c14:=Bool.eq_false_iff.mpr c14
   subst c14
   have H1:(some false)=some r:=by rw [if_neg (show ¬ (false=true) by decide)] at H;exact H
   clear H
   have H:=H1
   clear H1
   obtain rfl:=zi H
   obtain ⟨hcz16_0,hcz16_1,hcz16_2,hfz16_0,hfz16_1,hfz16_2⟩:=blk3 BK130001.out
   rotate_left
   rw [if_neg c12] at H
   have c12b0:((a0_1.size:Int) == 1)=false:=beq_eq_false_iff_ne.mpr c12
   have c12b1:((a0_1.size:Int) != 1)=true:=bne_iff_ne.mpr c12
   obtain rfl:=zi H
   obtain ⟨hcz17_0,hcz17_1,hcz17_2,hfz17_0,hfz17_1,hfz17_2⟩:=blk3 BK130001.out
   rotate_left
   rw [if_neg c11] at H
   have c11b0:(a0_0 == 3)=false:=beq_eq_false_iff_ne.mpr c11
   have c11b1:(a0_0 != 3)=true:=bne_iff_ne.mpr c11
   replace H:=zo H
   obtain ⟨t130005,A180,H⟩:=H
   replace H:(if t130005=true then (if a0_1.toList=([]:List UInt8) then ((spec_l3Args.f k1 a0_0).bind fun t130006=>(some ((l0_2.length:Int) == t130006))) else (some false)) else (some false))=some r:=H
   have A18:=zk A180
   clear A180
   by_cases c19:t130005=true
   subst c19
   have H1:(if a0_1.toList=([]:List UInt8) then ((spec_l3Args.f k1 a0_0).bind fun t130006=>(some ((l0_2.length:Int) == t130006))) else (some false))=some r:=by rw [if_pos rfl] at H;exact H
   clear H
   have H:=H1
   clear H1
   by_cases c20:a0_1.toList=([]:List UInt8)
   rw [if_pos c20] at H
   have c20b0:(a0_1.toList == ([]:List UInt8))=true:=beq_iff_eq.mpr c20
   have c20b1:(a0_1.toList != ([]:List UInt8))=false:=bne_eq_false_iff_eq.mpr c20
   clear c20
   replace H:=zo H
   obtain ⟨t130006,A210,H⟩:=H
   replace H:(some ((l0_2.length:Int) == t130006))=some r:=H
   have A21:=zk A210
   clear A210
   obtain rfl:=zi H
   obtain ⟨hcz22_0,hcz22_1,hcz22_2,hfz22_0,hfz22_1,hfz22_2⟩:=blk3 BK130001.out
   rotate_left
   rw [if_neg c20] at H
   have c20b0:(a0_1.toList == ([]:List UInt8))=false:=beq_eq_false_iff_ne.mpr c20
   have c20b1:(a0_1.toList != ([]:List UInt8))=true:=bne_iff_ne.mpr c20
   obtain rfl:=zi H
   obtain ⟨hcz23_0,hcz23_1,hcz23_2,hfz23_0,hfz23_1,hfz23_2⟩:=blk3 BK130001.out
   rotate_left
   replace c19:=Bool.eq_false_iff.mpr c19
   subst c19
   have H1:(some false)=some r:=by rw [if_neg (show ¬ (false=true) by decide)] at H;exact H
   clear H
   have H:=H1
   clear H1
   obtain rfl:=zi H
   obtain ⟨hcz24_0,hcz24_1,hcz24_2,hfz24_0,hfz24_1,hfz24_2⟩:=blk3 BK130001.out
   rotate_left
   all_goals
    go_wp2_with (first|(go_at_call 130;(with_reducible refine (ih k1 za15 ((rd_T65 l0_2 x3_1).f0) ((rd_T65 l0_2 x3_1).f1) _ _ ((rd_T65 l0_2 x3_1).f2) false _ ?side1 ?side2 A5.out).mono ?_);(case side1=>repeat (first|exact (Kd.C_below HR130002_2.out HB.out)|(with_reducible refine Kd.C_alloc ?_ _)|(with_reducible refine Kd.C_drewN ?_ _)|(with_reducible refine Kd.C_drew ?_)));(case side2=>exact HC130002_2.out);rintro e w10 ⟨rfl,hb⟩;have n0_:=zk (zb BK130001.out hb);have n1_:=zk (below_step za3 hb);clear BK130001;clear HB;have BK130001:=n0_;have HB:=n1_;clear n0_ n1_;(try clear hb);(try clear hb2);(try clear hk);(try clear hi))|(go_at_call 101;(with_reducible refine (spec_l1In.calls a0_0 1 9 _ _ A18.out).mono ?_);rintro e w' ⟨rfl,⟨nd,rfl⟩⟩;(try first|exact ⟨rfl,_,World.drewN_drewN _ _ _⟩|exact ⟨rfl,_,Eq.trans (World.drewN_drewN _ _ _) (congrArg (World.drewN _) (Nat.add_assoc _ _ _))⟩))|(go_at_call 140;(with_reducible refine (spec_l3Args.calls k1 a0_0 t130006 _ A21.out).mono ?_);rintro e w' ⟨rfl,⟨nd,rfl⟩⟩;(try first|exact ⟨rfl,_,World.drewN_drewN _ _ _⟩|exact ⟨rfl,_,Eq.trans (World.drewN_drewN _ _ _) (congrArg (World.drewN _) (Nat.add_assoc _ _ _))⟩))|(go_at_call 84;(with_reducible refine (spec_IsWord.calls k1 a0_1 _ _ A13.out).mono ?_);rintro e w' ⟨rfl,⟨nd,rfl⟩⟩;(try first|exact ⟨rfl,_,World.drewN_drewN _ _ _⟩|exact ⟨rfl,_,Eq.trans (World.drewN_drewN _ _ _) (congrArg (World.drewN _) (Nat.add_assoc _ _ _))⟩)))
    repeat (go_quiet (first|(go_at_call 130;(with_reducible refine (ih k1 za15 ((rd_T65 l0_2 x3_1).f0) ((rd_T65 l0_2 x3_1).f1) _ _ ((rd_T65 l0_2 x3_1).f2) false _ ?side1 ?side2 A5.out).mono ?_);(case side1=>repeat (first|exact (Kd.C_below HR130002_2.out HB.out)|(with_reducible refine Kd.C_alloc ?_ _)|(with_reducible refine Kd.C_drewN ?_ _)|(with_reducible refine Kd.C_drew ?_)));(case side2=>exact HC130002_2.out);rintro e w10 ⟨rfl,hb⟩;have n0_:=zk (zb BK130001.out hb);have n1_:=zk (below_step za3 hb);clear BK130001;clear HB;have BK130001:=n0_;have HB:=n1_;clear n0_ n1_;(try clear hb);(try clear hb2);(try clear hk);(try clear hi))|(go_at_call 101;(with_reducible refine (spec_l1In.calls a0_0 1 9 _ _ A18.out).mono ?_);rintro e w' ⟨rfl,⟨nd,rfl⟩⟩;(try first|exact ⟨rfl,_,World.drewN_drewN _ _ _⟩|exact ⟨rfl,_,Eq.trans (World.drewN_drewN _ _ _) (congrArg (World.drewN _) (Nat.add_assoc _ _ _))⟩))|(go_at_call 140;(with_reducible refine (spec_l3Args.calls k1 a0_0 t130006 _ A21.out).mono ?_);rintro e w' ⟨rfl,⟨nd,rfl⟩⟩;(try first|exact ⟨rfl,_,World.drewN_drewN _ _ _⟩|exact ⟨rfl,_,Eq.trans (World.drewN_drewN _ _ _) (congrArg (World.drewN _) (Nat.add_assoc _ _ _))⟩))|(go_at_call 84;(with_reducible refine (spec_IsWord.calls k1 a0_1 _ _ A13.out).mono ?_);rintro e w' ⟨rfl,⟨nd,rfl⟩⟩;(try first|exact ⟨rfl,_,World.drewN_drewN _ _ _⟩|exact ⟨rfl,_,Eq.trans (World.drewN_drewN _ _ _) (congrArg (World.drewN _) (Nat.add_assoc _ _ _))⟩)));try go_wp2_with (first|(go_at_call 130;(with_reducible refine (ih k1 za15 ((rd_T65 l0_2 x3_1).f0) ((rd_T65 l0_2 x3_1).f1) _ _ ((rd_T65 l0_2 x3_1).f2) false _ ?side1 ?side2 A5.out).mono ?_);(case side1=>repeat (first|exact (Kd.C_below HR130002_2.out HB.out)|(with_reducible refine Kd.C_alloc ?_ _)|(with_reducible refine Kd.C_drewN ?_ _)|(with_reducible refine Kd.C_drew ?_)));(case side2=>exact HC130002_2.out);rintro e w10 ⟨rfl,hb⟩;have n0_:=zk (zb BK130001.out hb);have n1_:=zk (below_step za3 hb);clear BK130001;clear HB;have BK130001:=n0_;have HB:=n1_;clear n0_ n1_;(try clear hb);(try clear hb2);(try clear hk);(try clear hi))|(go_at_call 101;(with_reducible refine (spec_l1In.calls a0_0 1 9 _ _ A18.out).mono ?_);rintro e w' ⟨rfl,⟨nd,rfl⟩⟩;(try first|exact ⟨rfl,_,World.drewN_drewN _ _ _⟩|exact ⟨rfl,_,Eq.trans (World.drewN_drewN _ _ _) (congrArg (World.drewN _) (Nat.add_assoc _ _ _))⟩))|(go_at_call 140;(with_reducible refine (spec_l3Args.calls k1 a0_0 t130006 _ A21.out).mono ?_);rintro e w' ⟨rfl,⟨nd,rfl⟩⟩;(try first|exact ⟨rfl,_,World.drewN_drewN _ _ _⟩|exact ⟨rfl,_,Eq.trans (World.drewN_drewN _ _ _) (congrArg (World.drewN _) (Nat.add_assoc _ _ _))⟩))|(go_at_call 84;(with_reducible refine (spec_IsWord.calls k1 a0_1 _ _ A13.out).mono ?_);rintro e w' ⟨rfl,⟨nd,rfl⟩⟩;(try first|exact ⟨rfl,_,World.drewN_drewN _ _ _⟩|exact ⟨rfl,_,Eq.trans (World.drewN_drewN _ _ _) (congrArg (World.drewN _) (Nat.add_assoc _ _ _))⟩))))
    go_ret
    exact ⟨za6,za3⟩
def spec_IsValidRegex.f (k:Nat) (a0_0:Int) (a0_1:ByteArray) (l0_2:List (S65)):Option (Bool):=(spec_l3Left.f k a0_0 a0_1 l0_2 16).bind fun t99002=>(if t99002 ≥ 0 then ((spec_l3Depth.f k a0_0 a0_1 l0_2).bind fun t99003=>(if t99003≤6 then ((spec_l3All.f k a0_0 a0_1 l0_2).bind fun t99004=>(some t99004)) else (some false))) else (some false))
theorem spec_IsValidRegex.mono:∀ a0 a1 a2 k,LeO (spec_IsValidRegex.f k a0 a1 a2) (spec_IsValidRegex.f (k+1) a0 a1 a2):=by
 intro a0 a1 a2 k
 unfold spec_IsValidRegex.f
 repeat' first
  | with_reducible first|exact spec_l3All.mono _ _ _ _|exact spec_l3Depth.mono _ _ _ _|exact spec_l3Left.mono _ _ _ _ _|exact LeO.refl _|exact LeO.none _|refine LeO.ite ?_ ?_|refine LeO.bind ?_ (fun _=>?_)
theorem spec_IsValidRegex.calls (k:Nat) (a0_0:Int) (a0_1:ByteArray) (A0_2:Option Addr) (c0_2:Nat) (l0_2:List (S65)) (r:Bool) (w:World) (hr0_2:Kd.C k65 w A0_2 l0_2.length l0_2) (hc0_2:l0_2.length≤c0_2) (h:spec_IsValidRegex.f k a0_0 a0_1 l0_2=some r) :
   Calls Tryz.prog 99 #[.agg #[.int .i64 a0_0,.string a0_1,.slice A0_2 l0_2.length c0_2]] w fun e w'=>e = .returned (.bool r)∧Below w.heap.size w w':=by
 have hu65:=Tryz.underlying65
 have HR0_2:=zk hr0_2
 have HC0_2:=zk hc0_2
 clear hr0_2 hc0_2
 have HB:=zk (Below.refl w.heap.size w)
 have H:((spec_l3Left.f k a0_0 a0_1 l0_2 16).bind fun t99002=>(if t99002 ≥ 0 then ((spec_l3Depth.f k a0_0 a0_1 l0_2).bind fun t99003=>(if t99003≤6 then ((spec_l3All.f k a0_0 a0_1 l0_2).bind fun t99004=>(some t99004)) else (some false))) else (some false)))=some r:=h
 clear h
 replace H:=zo H
 obtain ⟨t99002,A20,H⟩:=H
 replace H:(if t99002 ≥ 0 then ((spec_l3Depth.f k a0_0 a0_1 l0_2).bind fun t99003=>(if t99003≤6 then ((spec_l3All.f k a0_0 a0_1 l0_2).bind fun t99004=>(some t99004)) else (some false))) else (some false))=some r:=H
 have A2:=zk A20
 clear A20
 by_cases c3:t99002 ≥ 0
 rw [if_pos c3] at H
 have c3b0:decide (0≤t99002)=true:=decide_eq_true c3
 clear c3
 replace H:=zo H
 obtain ⟨t99003,A40,H⟩:=H
 replace H:(if t99003≤6 then ((spec_l3All.f k a0_0 a0_1 l0_2).bind fun t99004=>(some t99004)) else (some false))=some r:=H
 have A4:=zk A40
 clear A40
 by_cases c5:t99003≤6
 rw [if_pos c5] at H
 have c5b0:decide (t99003≤6)=true:=decide_eq_true c5
 clear c5
 replace H:=zo H
 obtain ⟨t99004,A60,H⟩:=H
 replace H:(some t99004)=some r:=H
 have A6:=zk A60
 clear A60
 rotate_left
 rw [if_neg c5] at H
 have c5b0:decide (t99003≤6)=false:=decide_eq_false c5
 clear c5
 rotate_left
 rw [if_neg c3] at H
 have c3b0:decide (0≤t99002)=false:=decide_eq_false c3
 clear c3
 rotate_left
 all_goals
  obtain rfl:=zi H
  go_enter Tryz.func99,Tryz.ntmps99
  go_wp2_with (first|((with_reducible refine gate_dst (N:=1) rfl ?_);refine zE (N:=1) (cs:=#[.int .i64 a0_0,.string a0_1,.slice A0_2 l0_2.length c0_2]) (t:=65) ?_;intro gb99001 hg w14 hbox hb;have n0_:=zk (below_step za3 hb);have n1_:=zk (hbox);have n2_:=zk (zs (w:=w) hg za3);have n3_:=zk (zs (w:=w) hg za3);clear HB;have HB:=n0_;have BK99001:=n1_;have GW99001:=n2_;have GE99001:=n3_;clear n0_ n1_ n2_ n3_;clear hb hbox hg;obtain ⟨hcz15_0,hcz15_1,hcz15_2,hfz15_0,hfz15_1,hfz15_2⟩:=blk3 BK99001.out)|((with_reducible refine gate_callee (f:=128) rfl ?_);refine goesL_ (some 4) rfl rfl Tryz.func128 (by kernel_rfl) rfl #[.agg #[.int .i64 a0_0,.string a0_1,.slice A0_2 l0_2.length c0_2],.int .i64 16] rfl za4 ?_;(with_reducible refine (spec_l3Left.calls k a0_0 a0_1 _ _ l0_2 16 t99002 _ ?side1 ?side2 A2.out).mono ?_);(case side1=>repeat (first|exact (Kd.C_below HR0_2.out HB.out)|(with_reducible refine Kd.C_alloc ?_ _)|(with_reducible refine Kd.C_drewN ?_ _)|(with_reducible refine Kd.C_drew ?_)));(case side2=>exact HC0_2.out);rintro e w16 ⟨rfl,hb⟩;refine ⟨_,rfl,?_⟩;have n0_:=zk (zb BK99001.out hb);have n1_:=zk (below_step za3 hb);clear BK99001;clear HB;have BK99001:=n0_;have HB:=n1_;clear n0_ n1_;(try clear hb);(try clear hb2);(try clear hk);(try clear hi);obtain ⟨hcz17_0,hcz17_1,hcz17_2,hfz17_0,hfz17_1,hfz17_2⟩:=blk3 BK99001.out)|(go_at_call 129;(with_reducible refine (spec_l3Depth.calls k a0_0 a0_1 _ _ l0_2 t99003 _ ?side1 ?side2 A4.out).mono ?_);(case side1=>repeat (first|exact (Kd.C_below HR0_2.out HB.out)|(with_reducible refine Kd.C_alloc ?_ _)|(with_reducible refine Kd.C_drewN ?_ _)|(with_reducible refine Kd.C_drew ?_)));(case side2=>exact HC0_2.out);rintro e w11 ⟨rfl,hb⟩;have n0_:=zk (zb BK99001.out hb);have n1_:=zk (below_step za3 hb);clear BK99001;clear HB;have BK99001:=n0_;have HB:=n1_;clear n0_ n1_;(try clear hb);(try clear hb2);(try clear hk);(try clear hi);obtain ⟨hcz12_0,hcz12_1,hcz12_2,hfz12_0,hfz12_1,hfz12_2⟩:=blk3 BK99001.out)|(go_at_call 130;(with_reducible refine (spec_l3All.calls k a0_0 a0_1 _ _ l0_2 t99004 _ ?side1 ?side2 A6.out).mono ?_);(case side1=>repeat (first|exact (Kd.C_below HR0_2.out HB.out)|(with_reducible refine Kd.C_alloc ?_ _)|(with_reducible refine Kd.C_drewN ?_ _)|(with_reducible refine Kd.C_drew ?_)));(case side2=>exact HC0_2.out);rintro e w13 ⟨rfl,hb⟩;have n0_:=zk (zb BK99001.out hb);have n1_:=zk (below_step za3 hb);clear BK99001;clear HB;have BK99001:=n0_;have HB:=n1_;clear n0_ n1_;(try clear hb);(try clear hb2);(try clear hk);(try clear hi)))
  go_ret
  exact ⟨za6,za3⟩
end Go.Proofs.YtffjfdoghofkdaaGreat.A
namespace Go.Proofs.YtffjfdoghofkdaaGreat.Ext
open Go Go.RowKit YtffjfdoghofkdaaGreatW.PrintWords YtffjfdoghofkdaaGreatW.PrintLast
structure Lay where
 N:Nat
 bn:Nat
 ba:Nat
 bm:Nat
 cn:Nat
 ca:Nat
 cm:Nat
 kd:Nat→Int
 lt:Nat→ByteArray
 ar:Nat→List Int
 aA:Nat→Option Addr
 ac:Nat→Nat
 tb:Nat→Nat
 tc:Nat→Nat
 rb:Nat→Nat→Nat
def Lay.St (l:Lay) (W1:World) (L k:Nat):Prop:=k < W1.heap.size∧∀ q i,q < l.N→i < L→k ≠ l.rb q i
structure LayOk (l : Lay) (w0 W1 : World) (g : Nat) (s : ByteArray) (L : Nat) : Prop where
 z:W1.heap[g]? = some (.cells #[.string s,.slice (some ⟨l.bn,0,none⟩) l.N l.cn,.slice (some ⟨l.ba,0,none⟩) l.N l.ca,.slice (some ⟨l.bm,0,none⟩) l.N l.cm] 142 (0,0))
 n0:∀ q,q < l.N→W1.cell? ⟨l.bn,q * 3,none⟩=some (.int .i64 (l.kd q))
 n1:∀ q,q < l.N→W1.cell? ⟨l.bn,q * 3+1,none⟩=some (.string (l.lt q))
 a0:∀ q,q < l.N→W1.cell? ⟨l.ba,q,none⟩=some (.slice (l.aA q) (l.ar q).length (l.ac q))
 a1:∀ q,q < l.N→∀ p,p < (l.ar q).length→∃ ab,l.aA q=some ⟨ab,0,none⟩∧l.St W1 L ab∧W1.cell? ⟨ab,p,none⟩=some (.int .i64 ((l.ar q).getD p 0))
 m0:∀ q,q < l.N→W1.cell? ⟨l.bm,q,none⟩=some (.slice (some ⟨l.tb q,0,none⟩) L (l.tc q))
 m1:∀ q i,q < l.N→i < L→W1.cell? ⟨l.tb q,i,none⟩=some (.slice (some ⟨l.rb q i,0,none⟩) L L)
 sg:l.St W1 L g
 sn:l.St W1 L l.bn
 sa:l.St W1 L l.ba
 sm:l.St W1 L l.bm
 st:∀ q,q < l.N→l.St W1 L (l.tb q)
 inj:∀ q i q' i',q < l.N→i < L→q' < l.N→i' < L→l.rb q i=l.rb q' i'→q=q'∧i=i'
 lo:∀ q i,q < l.N→i < L→w0.heap.size≤l.rb q i
def upd (m:Nat→Nat→List Int) (q i:Nat) (r:List Int):Nat→Nat→List Int:=fun q' i'=>if q'=q∧i'=i then r else m q' i'
theorem upd_self (m:Nat→Nat→List Int) (q i:Nat) (r:List Int):upd m q i r q i=r:=if_pos ⟨rfl,rfl⟩
theorem upd_ne (m:Nat→Nat→List Int) {q i q' i':Nat} (r:List Int) (h:¬ (q'=q∧i'=i)):upd m q i r q' i'=m q' i':=if_neg h
structure SSt (l : Lay) (W1 : World) (L : Nat) (m : Nat → Nat → List Int) (W : World) : Prop where
 st:∀ k,l.St W1 L k→W.heap[k]? = W1.heap[k]?
 rw:∀ q i,q < l.N→i < L→W.heap[l.rb q i]? = some (.cells (nums .i64 (m q i)).toArray 3 (0,0))∧(m q i).length=L
 le:W1.heap.size≤W.heap.size
section
variable {l : Lay} {w0 W1 W : World} {g : Nat} {s : ByteArray} {L : Nat} {m : Nat → Nat → List Int}
theorem SSt.cell_ (h:SSt l W1 L m W) {a:Addr} {v:Value} (hs:l.St W1 L a.block) (hc:W1.cell? a=some v):W.cell? a=some v:=(World.cell?_of_block (w:=W1) (h.st _ hs)).trans hc
theorem SSt.z (h:SSt l W1 L m W) (ok:LayOk l w0 W1 g s L):W.heap[g]? = some (.cells #[.string s,.slice (some ⟨l.bn,0,none⟩) l.N l.cn,.slice (some ⟨l.ba,0,none⟩) l.N l.ca,.slice (some ⟨l.bm,0,none⟩) l.N l.cm] 142 (0,0)):=(h.st _ ok.sg).trans ok.z
theorem SSt.n0 (h:SSt l W1 L m W) (ok:LayOk l w0 W1 g s L) {q:Nat} (hq:q < l.N):W.cell? ⟨l.bn,q * 3,none⟩=some (.int .i64 (l.kd q)):=h.cell_ ok.sn (ok.n0 q hq)
theorem SSt.n1 (h:SSt l W1 L m W) (ok:LayOk l w0 W1 g s L) {q:Nat} (hq:q < l.N):W.cell? ⟨l.bn,q * 3+1,none⟩=some (.string (l.lt q)):=h.cell_ ok.sn (ok.n1 q hq)
theorem SSt.a0 (h:SSt l W1 L m W) (ok:LayOk l w0 W1 g s L) {q:Nat} (hq:q < l.N):W.cell? ⟨l.ba,q,none⟩=some (.slice (l.aA q) (l.ar q).length (l.ac q)):=h.cell_ ok.sa (ok.a0 q hq)
theorem SSt.m0 (h:SSt l W1 L m W) (ok:LayOk l w0 W1 g s L) {q:Nat} (hq:q < l.N):W.cell? ⟨l.bm,q,none⟩=some (.slice (some ⟨l.tb q,0,none⟩) L (l.tc q)):=h.cell_ ok.sm (ok.m0 q hq)
theorem SSt.m1 (h:SSt l W1 L m W) (ok:LayOk l w0 W1 g s L) {q i:Nat} (hq:q < l.N) (hi:i < L):W.cell? ⟨l.tb q,i,none⟩=some (.slice (some ⟨l.rb q i,0,none⟩) L L):=h.cell_ (ok.st q hq) (ok.m1 q i hq hi)
theorem SSt.m2 (h:SSt l W1 L m W) {q i j:Nat} (hq:q < l.N) (hi:i < L) (hj:j < L):W.cell? ⟨l.rb q i,j,none⟩=some (.int .i64 ((m q i).getD j 0)):=by
 obtain ⟨h1,h2⟩:=h.rw q i hq hi
 rw [blk_cell h1]
 simp [nums,h2,hj]
theorem SSt.fr (h:SSt l W1 L m W) {q i:Nat} (hq:q < l.N) (hi:i < L) (j:Nat):W.frozen? ⟨l.rb q i,j,none⟩=false:=blk_frozen (h.rw q i hq hi).1 j
theorem SSt.below {W':World} (h:SSt l W1 L m W) (hb:Below W.heap.size W W'):SSt l W1 L m W' :=
 ⟨fun k hk=>(hb.block k (Nat.lt_of_lt_of_le hk.1 h.le)).trans (h.st k hk),fun q i hq hi=>⟨blk_below (h.rw q i hq hi).1 hb,(h.rw q i hq hi).2⟩,Nat.le_trans h.le hb.size⟩
theorem SSt.put (h:SSt l W1 L m W) (ok:LayOk l w0 W1 g s L) {q i:Nat} (hq:q < l.N) (hi:i < L) (j:Nat) (v:Int):SSt l W1 L (upd m q i ((m q i).set j v)) (W.setCell ⟨l.rb q i,j,none⟩ (.int .i64 v)):=by
 refine ⟨fun k hk=>?_,fun q' i' hq' hi' => ?_,by simpa using h.le⟩
 ·exact (Below.heap_setCell W _ _ k (hk.2 q i hq hi)).trans (h.st k hk)
 ·by_cases e:q'=q∧i'=i
  ·obtain ⟨rfl,rfl⟩:=e
   rw [upd_self]
   refine ⟨blk_put (h.rw _ _ hq hi).1 j _ ?_,by rw [List.length_set];exact (h.rw _ _ hq hi).2⟩
   simp [nums,List.map_set]
  ·rw [upd_ne _ _ e]
   refine ⟨blk_far (h.rw q' i' hq' hi').1 (fun hr=>e ?_) _,(h.rw q' i' hq' hi').2⟩
   exact ok.inj q' i' q i hq' hi' hq hi hr
end
def Gs (L:Nat) (T:Nat→Nat→Nat→Bool) (m:Nat→Nat→List Int) (lo hi:Nat):Prop :=
 ∀ q i j,lo≤q→q < hi→i≤j→j < L→(m q i).getD j 0=0∨(m q i).getD j 0=if T q i j=true then 1 else 2
def Ss (L:Nat) (m m':Nat→Nat→List Int) (lo hi:Nat):Prop :=
 ∀ q i j,¬ (lo≤q∧q < hi)→i≤j→j < L→(m' q i).getD j 0=(m q i).getD j 0
theorem Ss.refl (L:Nat) (m:Nat→Nat→List Int) (lo hi:Nat):Ss L m m lo hi:=fun _ _ _ _ _ _=>rfl
theorem Ss.next {L:Nat} {m m' m2:Nat→Nat→List Int} {lo hi lo' hi':Nat} (h:Ss L m m' lo hi) (h':Ss L m' m2 lo' hi') (h1:lo≤lo') (h2:hi'≤hi):Ss L m m2 lo hi :=
 fun q i j hq h3 h4=>(h' q i j (by omega) h3 h4).trans (h q i j hq h3 h4)
theorem Gs.sub {L:Nat} {T:Nat→Nat→Nat→Bool} {m:Nat→Nat→List Int} {lo hi lo' hi':Nat} (h:Gs L T m lo hi) (h1:lo≤lo') (h2:hi'≤hi):Gs L T m lo' hi' :=
 fun q i j h3 h4=>h q i j (by omega) (by omega)
theorem Gs.next {L:Nat} {T:Nat→Nat→Nat→Bool} {m m':Nat→Nat→List Int} {lo hi lo' hi':Nat} (h:Gs L T m lo hi) (h':Gs L T m' lo' hi') (hs:Ss L m m' lo' hi'):Gs L T m' lo hi:=by
 intro q i j h1 h2 h3 h4
 by_cases h5:lo'≤q∧q < hi'
 ·exact h' q i j h5.1 h5.2 h3 h4
 ·rw [hs q i j h5 h3 h4];exact h q i j h1 h2 h3 h4
def SPost (l:Lay) (w0 W1:World) (L:Nat) (T:Nat→Nat→Nat→Bool) (m:Nat→Nat→List Int) (lo hi:Nat) (r:Value) (e:Ending) (W':World):Prop :=
 e = .returned r∧∃ m',SSt l W1 L m' W'∧Gs L T m' lo hi∧Ss L m m' lo hi∧Below w0.heap.size w0 W'
theorem bit_calls (a0:Bool) (w:World):Calls Tryz.prog 113 #[.bool a0] w fun e w'=>e = .returned (.int .i64 (if a0=true then 1 else 0))∧∃ nd,w'=w.drewN nd:=by
 cases a0
 all_goals
  go_enter Tryz.func113,Tryz.ntmps113
  go_wp2
  go_ret
  exact ⟨za42,by first|exact ⟨0,rfl⟩|exact ⟨1,rfl⟩|exact ⟨2,rfl⟩⟩
theorem getD_lt {r:List Int} {j:Nat} {v:Int} (h:j < r.length):(r.set j v).getD j 0=v:=by
 rw [List.getD_eq_getElem?_getD,List.getElem?_set_self h];rfl
theorem getD_ne {r:List Int} {i j:Nat} (v:Int) (h:i ≠ j):(r.set i v).getD j 0=r.getD j 0:=by
 rw [List.getD_eq_getElem?_getD,List.getD_eq_getElem?_getD,List.getElem?_set_ne h]
section
variable (l : Lay) (w0 W1 : World) (g : Nat) (s : ByteArray) (L : Nat) (ok : LayOk l w0 W1 g s L) (T : Nat → Nat → Nat → Bool) (lo q i j : Nat) (hlo : lo ≤ q) (hq : q < l.N) (hij : i ≤ j) (hj : j < L) (r : Bool) (hT : T q i j = r)
 (m:Nat→Nat→List Int) (W:World) (hS:SSt l W1 L m W) (hB:Below w0.heap.size w0 W)
include ok hlo hq hij hj hT hS hB
set_option maxHeartbeats 4000000 in
theorem is_known (hG:Gs L T m lo (q+1)) (hv:(m q i).getD j 0 ≠ 0) :
  Calls Tryz.prog 134 #[.pointer (some ⟨g,0,none⟩),.int .i64 (q:Int),.int .i64 (i:Int),.int .i64 (j:Int)] W (SPost l w0 W1 L T m lo (q+1) (.bool r)):=by
 have hr:(m q i).getD j 0=if r=true then 1 else 2:=by
  rcases hG q i j hlo (by omega) hij hj with h|h
  ·exact absurd h hv
  ·rw [h,hT]
 have HS:=zk hS
 have HB:=zk hB
 have HG:=zk hG
 obtain ⟨z0,z1,z2,z3,f0,f1,f2,f3⟩:=blk4 (hS.z ok)
 have c0:=hS.m0 ok hq
 have c1:=hS.m1 ok hq (show i < L by omega)
 have c2:=hS.m2 hq (show i < L by omega) hj
 have q1:=eq_true hq
 have q2:=eq_true (show i < L by omega)
 have q3:=eq_true hj
 rw [hr] at c2
 clear hS hB hG hv hr hq hj hT
 cases r
 all_goals
  simp only [if_true,Bool.false_eq_true,if_false] at c2
  go_enter Tryz.func134,Tryz.ntmps134
  go_wp2
  go_ret
  exact ⟨rfl,m,HS.out,HG.out,Ss.refl _ _ _ _,HB.out⟩
set_option maxHeartbeats 4000000 in
theorem is_find (hk:(l.kd q == 8)=false) (hG:Gs L T m lo (q+1)) (hv:(m q i).getD j 0=0)
  (hf:∀ (m:Nat→Nat→List Int) (W:World),SSt l W1 L m W→Gs L T m lo q→Below w0.heap.size w0 W→Calls Tryz.prog 142 #[.pointer (some ⟨g,0,none⟩),.int .i64 (q:Int),.int .i64 (i:Int),.int .i64 (j:Int)] W (SPost l w0 W1 L T m lo q (.bool r))) :
  Calls Tryz.prog 134 #[.pointer (some ⟨g,0,none⟩),.int .i64 (q:Int),.int .i64 (i:Int),.int .i64 (j:Int)] W (SPost l w0 W1 L T m lo (q+1) (.bool r)):=by
 have hi:i < L:=by omega
 have HS:=zk hS
 have HB:=zk hB
 have HG:=zk hG
 have HF:=zk (hf m W hS (hG.sub (Nat.le_refl _) (Nat.le_succ _)) hB)
 have HF0:=zk (fun (W':World) (hS':SSt l W1 L m W') (hB':Below w0.heap.size w0 W')=>hf m W' hS' (hG.sub (Nat.le_refl _) (Nat.le_succ _)) hB')
 have HBit:=zk (fun (W':World)=>bit_calls r W')
 have HE:Aside0 (∀ (m5:Nat→Nat→List Int),(m5 q i).length=L→Gs L T m5 lo q→Ss L m m5 lo q→Gs L T (upd m5 q i ((m5 q i).set j (if r=true then 1 else 2))) lo (q+1)∧Ss L m (upd m5 q i ((m5 q i).set j (if r=true then 1 else 2))) lo (q+1)):=⟨by
  intro m5 h5 hG5 hS5
  refine ⟨fun q' i' j' h1 h2 h3 h4=>?_,fun q' i' j' h1 h3 h4=>?_⟩
  ·by_cases e:q'=q∧i'=i
   ·obtain ⟨rfl,rfl⟩:=e
    rw [upd_self]
    by_cases e2:j=j'
    ·subst e2
     rw [getD_lt (by omega),hT]
     exact .inr rfl
    ·rw [getD_ne _ e2,hS5 q' i' j' (by omega) h3 h4]
     exact hG q' i' j' h1 h2 h3 h4
   ·rw [upd_ne _ _ e]
    by_cases e2:q' < q
    ·exact hG5 q' i' j' h1 e2 h3 h4
    ·rw [hS5 q' i' j' (by omega) h3 h4]
     exact hG q' i' j' h1 h2 h3 h4
  ·rw [upd_ne _ _ (fun e=>h1 (by omega))]
   exact hS5 q' i' j' (by omega) h3 h4⟩
 obtain ⟨z0,z1,z2,z3,f0,f1,f2,f3⟩:=blk4 (hS.z ok)
 have c0:=hS.m0 ok hq
 have c1:=hS.m1 ok hq hi
 have c2:=hS.m2 hq hi hj
 have n0:=hS.n0 ok hq
 have q1:=eq_true hq
 have q2:=eq_true hi
 have q3:=eq_true hj
 have Hq:=zk hq
 have Hi:=zk hi
 have Hj:=zk hj
 rw [hv] at c2
 clear hS hB hG hv hq hj hT hf hi
 have e0:=ok.sg.2 q i Hq.out Hi.out
 have e1:=ok.sm.2 q i Hq.out Hi.out
 have e2:=(ok.st q Hq.out).2 q i Hq.out Hi.out
 have ST:∀ W':World,SSt l W1 L m W'→SSt l W1 L m W'.drew:=fun _ h=>⟨h.st,h.rw,h.le⟩
 have HST:=zk ST
 clear ST
 cases r
 ·simp only [if_true,Bool.false_eq_true,if_false] at HBit HE
  go_enter Tryz.func134,Tryz.ntmps134
  go_upto_region 4 with (fail)
  go_cut [] (fun wc=>∃ m5,Aside0 (SSt l W1 L m5 wc)∧Aside0 (Gs L T m5 lo (q+1))∧Aside0 (Ss L m m5 lo (q+1))∧Aside0 ((m5 q i).getD j 0=2)∧Aside0 (Below w0.heap.size w0 wc))
  case first =>
   clear n0 c2
   go_region_held3 (fun w'=>w'.cell? ⟨g,3,none⟩=some (.slice (some ⟨l.bm,0,none⟩) l.N l.cm)∧w'.cell? ⟨l.bm,q,none⟩=some (.slice (some ⟨l.tb q,0,none⟩) L (l.tc q))∧w'.cell? ⟨l.tb q,i,none⟩=some (.slice (some ⟨l.rb q i,0,none⟩) L L)) (first|go_keep|exact ⟨(cell_far e0 _).trans y3,(cell_far e1 _).trans d0,(cell_far e2 _).trans d1⟩)
    (first
     | (go_at_call 142;refine (HF0.out _ (HST.out _ HS.out) (below_drew HB.out)).mono ?_;rintro e w5 ⟨rfl,m5,S5,G5,SS5,B5⟩;have M5:=zk S5;have N5:=zk G5;have P5:=zk SS5;have Q5:=zk B5;clear S5 G5 SS5 B5;obtain ⟨y0,y1,y2,y3,g0,g1,g2,g3⟩:=blk4 (M5.out.z ok);have d0:=M5.out.m0 ok Hq.out;have d1:=M5.out.m1 ok Hq.out Hi.out;have d2:=M5.out.fr Hq.out Hi.out j;have d3:=M5.out.m2 Hq.out Hi.out Hj.out;generalize (m5 q i).getD j 0=vv at d3)
     | (go_at_call 113;refine (HBit.out _).mono ?_;rintro e w6 ⟨rfl,⟨nd,rfl⟩⟩))
   try go_wp2
   go_meet
   case rel =>
    have hl5:=(M5.out.rw q i Hq.out Hi.out).2
    have he:=HE.out m5 hl5 N5.out P5.out
    rw [show IntKind.i64.wrap 2=2 by decide]
    exact ⟨_,⟨(show SSt l W1 L m5 (w5.drewN nd) from ⟨M5.out.st,M5.out.rw,M5.out.le⟩).put ok Hq.out Hi.out j _⟩,⟨he.1⟩,⟨he.2⟩,⟨by rw [upd_self,getD_lt (by have:=Hj.out;omega)]⟩,⟨(show Below w0.heap.size w0 (w5.drewN nd) from pw_below_drewN Q5.out nd).setCell (ok.lo q i Hq.out Hi.out) _⟩⟩
  case rest =>
   clear z0 z1 z2 z3 f0 f1 f2 f3 c0 c1 c2 n0
   obtain ⟨m5,M5,N5,P5,V5,Q5⟩:=hcut
   obtain ⟨z0,z1,z2,z3,f0,f1,f2,f3⟩:=blk4 (M5.out.z ok)
   have c0:=M5.out.m0 ok Hq.out
   have c1:=M5.out.m1 ok Hq.out Hi.out
   have c2:=M5.out.m2 Hq.out Hi.out Hj.out
   rw [V5.out] at c2
   go_wp2
   go_ret
   exact ⟨rfl,m5,M5.out,N5.out,P5.out,Q5.out⟩
 ·simp only [if_true,Bool.false_eq_true,if_false] at HBit HE
  go_enter Tryz.func134,Tryz.ntmps134
  go_upto_region 4 with (fail)
  go_cut [] (fun wc=>∃ m5,Aside0 (SSt l W1 L m5 wc)∧Aside0 (Gs L T m5 lo (q+1))∧Aside0 (Ss L m m5 lo (q+1))∧Aside0 ((m5 q i).getD j 0=1)∧Aside0 (Below w0.heap.size w0 wc))
  case first =>
   clear n0 c2
   go_region_held3 (fun w'=>w'.cell? ⟨g,3,none⟩=some (.slice (some ⟨l.bm,0,none⟩) l.N l.cm)∧w'.cell? ⟨l.bm,q,none⟩=some (.slice (some ⟨l.tb q,0,none⟩) L (l.tc q))∧w'.cell? ⟨l.tb q,i,none⟩=some (.slice (some ⟨l.rb q i,0,none⟩) L L)) (first|go_keep|exact ⟨(cell_far e0 _).trans y3,(cell_far e1 _).trans d0,(cell_far e2 _).trans d1⟩)
    (first
     | (go_at_call 142;refine (HF0.out _ (HST.out _ HS.out) (below_drew HB.out)).mono ?_;rintro e w5 ⟨rfl,m5,S5,G5,SS5,B5⟩;have M5:=zk S5;have N5:=zk G5;have P5:=zk SS5;have Q5:=zk B5;clear S5 G5 SS5 B5;obtain ⟨y0,y1,y2,y3,g0,g1,g2,g3⟩:=blk4 (M5.out.z ok);have d0:=M5.out.m0 ok Hq.out;have d1:=M5.out.m1 ok Hq.out Hi.out;have d2:=M5.out.fr Hq.out Hi.out j;have d3:=M5.out.m2 Hq.out Hi.out Hj.out;generalize (m5 q i).getD j 0=vv at d3)
     | (go_at_call 113;refine (HBit.out _).mono ?_;rintro e w6 ⟨rfl,⟨nd,rfl⟩⟩))
   try go_wp2
   go_meet
   case rel =>
    have hl5:=(M5.out.rw q i Hq.out Hi.out).2
    have he:=HE.out m5 hl5 N5.out P5.out
    rw [show IntKind.i64.wrap 1=1 by decide]
    exact ⟨_,⟨(show SSt l W1 L m5 (w5.drewN nd) from ⟨M5.out.st,M5.out.rw,M5.out.le⟩).put ok Hq.out Hi.out j _⟩,⟨he.1⟩,⟨he.2⟩,⟨by rw [upd_self,getD_lt (by have:=Hj.out;omega)]⟩,⟨(show Below w0.heap.size w0 (w5.drewN nd) from pw_below_drewN Q5.out nd).setCell (ok.lo q i Hq.out Hi.out) _⟩⟩
  case rest =>
   clear z0 z1 z2 z3 f0 f1 f2 f3 c0 c1 c2 n0
   obtain ⟨m5,M5,N5,P5,V5,Q5⟩:=hcut
   obtain ⟨z0,z1,z2,z3,f0,f1,f2,f3⟩:=blk4 (M5.out.z ok)
   have c0:=M5.out.m0 ok Hq.out
   have c1:=M5.out.m1 ok Hq.out Hi.out
   have c2:=M5.out.m2 Hq.out Hi.out Hj.out
   rw [V5.out] at c2
   go_wp2
   go_ret
   exact ⟨rfl,m5,M5.out,N5.out,P5.out,Q5.out⟩
set_option maxHeartbeats 4000000 in
theorem is_star (hk:(l.kd q == 8)=true) (hG:Gs L T m lo (q+1)) (hv:(m q i).getD j 0=0)
  (hf:∀ (m:Nat→Nat→List Int) (W:World),SSt l W1 L m W→Gs L T m lo (q+1)→Below w0.heap.size w0 W→Calls Tryz.prog 141 #[.pointer (some ⟨g,0,none⟩),.int .i64 (q:Int),.int .i64 (i:Int)] W fun e W'=>∃ m',e = .returned (.tuple #[])∧SSt l W1 L m' W'∧Gs L T m' lo (q+1)∧Ss L m m' lo (q+1)∧(∀ k,i≤k→k < L→(m' q i).getD k 0=if T q i k=true then 1 else 2)∧Below w0.heap.size w0 W') :
  Calls Tryz.prog 134 #[.pointer (some ⟨g,0,none⟩),.int .i64 (q:Int),.int .i64 (i:Int),.int .i64 (j:Int)] W (SPost l w0 W1 L T m lo (q+1) (.bool r)):=by
 have hi:i < L:=by omega
 have HF:=zk (hf m W hS hG hB)
 have HT:=zk hT
 obtain ⟨z0,z1,z2,z3,f0,f1,f2,f3⟩:=blk4 (hS.z ok)
 have c0:=hS.m0 ok hq
 have c1:=hS.m1 ok hq hi
 have c2:=hS.m2 hq hi hj
 have n0:=hS.n0 ok hq
 have q1:=eq_true hq
 have q2:=eq_true hi
 have q3:=eq_true hj
 have Hq:=zk hq
 have Hi:=zk hi
 have Hj:=zk hj
 rw [hv] at c2
 clear hS hB hG hv hq hj hT hf hi
 cases r
 all_goals
  go_enter Tryz.func134,Tryz.ntmps134
  go_wp2_with (go_at_call 141;(with_reducible refine HF.out.mono ?_);rintro e w5 ⟨m5,rfl,S5,G5,SS5,V5,B5⟩;have M5:=zk S5;have N5:=zk G5;have P5:=zk SS5;have Q5:=zk B5;have d2:=M5.out.m2 Hq.out Hi.out Hj.out;rw [V5 j hij Hj.out,HT.out] at d2;clear S5 G5 SS5 V5 B5 z0 z1 z2 z3 f0 f1 f2 f3 c0 c1 c2 n0;simp only [if_true,Bool.false_eq_true,if_false] at d2;obtain ⟨z0,z1,z2,z3,f0,f1,f2,f3⟩:=blk4 (M5.out.z ok);have c0:=M5.out.m0 ok Hq.out;have c1:=M5.out.m1 ok Hq.out Hi.out)
  go_ret
  exact ⟨rfl,m5,M5.out,N5.out,P5.out,Q5.out⟩
end
def IC (l:Lay) (w0 W1:World) (g:Nat) (s:ByteArray) (L:Nat) (T:Nat→Nat→Nat→Bool) (t:Rx) (p lo:Nat):Prop :=
 ∀ (i j:Nat) (pv iv jv:Int) (m:Nat→Nat→List Int) (W:World),pv=(p:Int)→iv=(i:Int)→jv=(j:Int)→i≤j→j < L→SSt l W1 L m W→Gs L T m lo (p+1)→Below w0.heap.size w0 W →
  Calls Tryz.prog 134 #[.pointer (some ⟨g,0,none⟩),.int .i64 pv,.int .i64 iv,.int .i64 jv] W (SPost l w0 W1 L T m lo (p+1) (.bool (mt s t i j)))
section
variable (l : Lay) (w0 W1 : World) (g : Nat) (s : ByteArray) (L : Nat) (ok : LayOk l w0 W1 g s L) (hsL : s.size + 1 = L) (hL : L ≤ 401) (T : Nat → Nat → Nat → Bool) (lo q i j : Nat) (hlo : lo ≤ q) (hq : q < l.N) (hij : i ≤ j) (hj : j < L)
 (m:Nat→Nat→List Int) (W:World) (hS:SSt l W1 L m W) (hB:Below w0.heap.size w0 W) (hG:Gs L T m lo q)
include ok hsL hL hlo hq hij hj hS hB hG
set_option maxHeartbeats 4000000 in
theorem sfind_leaf (r:Bool) (hk:(l.kd q=1∧r=false)∨(l.kd q=2∧r=(i == j))∨(l.kd q=4∧r=(j == i+1))∨(l.kd q=3∧r=((s.extract i j).toList == (l.lt q).toList))) :
  Calls Tryz.prog 142 #[.pointer (some ⟨g,0,none⟩),.int .i64 (q:Int),.int .i64 (i:Int),.int .i64 (j:Int)] W (SPost l w0 W1 L T m lo q (.bool r)):=by
 have HS:=zk hS
 have HB:=zk hB
 have HG:=zk hG
 obtain ⟨z0,z1,z2,z3,f0,f1,f2,f3⟩:=blk4 (hS.z ok)
 have n0:=hS.n0 ok hq
 have n1:=hS.n1 ok hq
 have c0:=hS.a0 ok hq
 have q1:=eq_true hq
 have Hq:=zk hq
 have e1:((i:Int) == (j:Int))=(i == j):=by rw [Bool.eq_iff_iff];simp;omega
 have e2:((j:Int) == (i:Int)+1)=(j == i+1):=by rw [Bool.eq_iff_iff];simp;omega
 have hi9:i≤401:=by omega
 have hjs:=eq_true (show j≤s.size by omega)
 have hij2:=eq_true hij
 clear hS hB hG hq hij hj
 rcases hk with ⟨hk,rfl⟩|⟨hk,rfl⟩|⟨hk,rfl⟩|⟨hk,rfl⟩
 all_goals
  rw [hk] at n0
  clear hk
  go_enter Tryz.func142,Tryz.ntmps142
  go_wp2
  repeat (go_quiet (fail);try go_wp2)
  go_ret
  exact ⟨za28,m,⟨HS.out.st,HS.out.rw,HS.out.le⟩,HG.out,Ss.refl _ _ _ _,by repeat (first|exact HB.out|apply pw_below_drewN)⟩
set_option maxHeartbeats 4000000 in
theorem sfind_not (t:Rx) (a:Nat) (hk:l.kd q=9) (har:l.ar q = [(a:Int)]) (h1:lo≤a) (h3:a+1=q) (hx:IC l w0 W1 g s L T t a lo) :
  Calls Tryz.prog 142 #[.pointer (some ⟨g,0,none⟩),.int .i64 (q:Int),.int .i64 (i:Int),.int .i64 (j:Int)] W (SPost l w0 W1 L T m lo q (.bool (!mt s t i j))):=by
 have HS:=zk hS
 have HB:=zk hB
 have HG:=zk hG
 obtain ⟨z0,z1,z2,z3,f0,f1,f2,f3⟩:=blk4 (hS.z ok)
 have n0:=hS.n0 ok hq
 have n1:=hS.n1 ok hq
 have c0:=hS.a0 ok hq
 have q1:=eq_true hq
 have Hq:=zk hq
 obtain ⟨ab,ha,hst,x0⟩:=ok.a1 q hq 0 (by rw [har];simp)
 rw [har] at x0 c0
 rw [ha] at c0
 simp only [List.getD_cons_zero,List.length_cons,List.length_nil,Nat.zero_add] at x0 c0
 have y0:=hS.cell_ hst x0
 have HX:=zk (hx i j (a:Int) i j m W rfl rfl rfl hij hj hS (hG.sub (Nat.le_refl _) (by omega)) hB)
 have HN:=zk (show lo≤a∧a+1=q from ⟨h1,h3⟩)
 clear hS hB hG hq hij hj x0 hst ha har hx h1 h3
 rw [hk] at n0
 clear hk
 go_enter Tryz.func142,Tryz.ntmps142
 go_wp2_with (go_at_call 134;(with_reducible refine HX.out.mono ?_);rintro e w7 ⟨rfl,m7,S7,G7,SS7,B7⟩;have M7:=zk S7;have N7:=zk (HG.out.next G7 SS7);have P7:=zk (Ss.next (Ss.refl L m lo q) SS7 za17 za17);have Q7:=zk B7;clear S7 G7 SS7 B7)
 go_ret
 exact ⟨rfl,m7,M7.out,N7.out,P7.out,Q7.out⟩
set_option maxHeartbeats 4000000 in
theorem sfind_or (t u:Rx) (a b:Nat) (hk:l.kd q=6) (har:l.ar q = [(a:Int),(b:Int)]) (h1:lo≤a) (h2:a < b) (h3:b+1=q) (hx:IC l w0 W1 g s L T t a lo) (hy:IC l w0 W1 g s L T u b (a+1)) :
  Calls Tryz.prog 142 #[.pointer (some ⟨g,0,none⟩),.int .i64 (q:Int),.int .i64 (i:Int),.int .i64 (j:Int)] W (SPost l w0 W1 L T m lo q (.bool (mt s t i j || mt s u i j))):=by
 have HS:=zk hS
 have HB:=zk hB
 have HG:=zk hG
 obtain ⟨z0,z1,z2,z3,f0,f1,f2,f3⟩:=blk4 (hS.z ok)
 have n0:=hS.n0 ok hq
 have n1:=hS.n1 ok hq
 have c0:=hS.a0 ok hq
 have q1:=eq_true hq
 have Hq:=zk hq
 obtain ⟨ab,ha,hst,x0⟩:=ok.a1 q hq 0 (by rw [har];simp)
 obtain ⟨ab',ha',_,x1⟩:=ok.a1 q hq 1 (by rw [har];simp)
 obtain rfl:ab=ab':=by rw [ha] at ha';injection ha' with h;injection h
 clear ha'
 rw [har] at x0 x1 c0
 rw [ha] at c0
 simp only [List.getD_cons_zero,List.getD_cons_succ,List.length_cons,List.length_nil,Nat.zero_add,Nat.reduceAdd] at x0 x1 c0
 have X0:=zk x0
 have X1:=zk x1
 have HST:=zk hst
 have y0:=hS.cell_ hst x0
 have y1:=hS.cell_ hst x1
 have HN:=zk (show lo≤a∧a < b∧b+1=q from ⟨h1,h2,h3⟩)
 have HX:=zk (fun (m':Nat→Nat→List Int) (W':World) (hS':SSt l W1 L m' W') (hG':Gs L T m' lo q) (hB':Below w0.heap.size w0 W')=>hx i j (a:Int) i j m' W' rfl rfl rfl hij hj hS' (hG'.sub (Nat.le_refl _) (by omega)) hB')
 have HY:=zk (fun (m':Nat→Nat→List Int) (W':World) (hS':SSt l W1 L m' W') (hG':Gs L T m' lo q) (hB':Below w0.heap.size w0 W')=>hy i j (b:Int) i j m' W' rfl rfl rfl hij hj hS' (hG'.sub (by omega) (by omega)) hB')
 clear hS hB hG hq hij hj x0 x1 hst ha har hx hy h1 h2 h3
 rw [hk] at n0
 clear hk
 cases hv:mt s t i j
 all_goals go_enter Tryz.func142,Tryz.ntmps142
 ·go_wp2_with (first|(go_at_call 134;(with_reducible refine (HX.out m _ HS.out HG.out HB.out).mono ?_);rintro e w7 ⟨he,m7,S7,G7,SS7,B7⟩;rw [hv] at he;subst he;have M7:=zk S7;have N7:=zk (HG.out.next G7 SS7);have P7:=zk (Ss.next (Ss.refl L m lo q) SS7 za17 za17);have Q7:=zk B7;clear S7 G7 SS7 B7 z0 z1 z2 z3 f0 f1 f2 f3 n0 n1 c0 y0 y1;have y1:=M7.out.cell_ HST.out X1.out)|(go_at_call 134;(with_reducible refine (HY.out m7 _ M7.out N7.out Q7.out).mono ?_);rintro e w8 ⟨rfl,m8,S8,G8,SS8,B8⟩;have M8:=zk S8;have N8:=zk (N7.out.next G8 SS8);have P8:=zk (Ss.next P7.out SS8 za17 za17);have Q8:=zk B8;clear S8 G8 SS8 B8))
  go_ret
  exact ⟨za42,m8,M8.out,N8.out,P8.out,Q8.out⟩
 ·go_wp2_with (go_at_call 134;(with_reducible refine (HX.out m _ HS.out HG.out HB.out).mono ?_);rintro e w7 ⟨he,m7,S7,G7,SS7,B7⟩;rw [hv] at he;subst he;have M7:=zk S7;have N7:=zk (HG.out.next G7 SS7);have P7:=zk (Ss.next (Ss.refl L m lo q) SS7 za17 za17);have Q7:=zk B7;clear S7 G7 SS7 B7 z0 z1 z2 z3 f0 f1 f2 f3 n0 n1 c0 y0 y1;have y1:=M7.out.cell_ HST.out X1.out)
  go_ret
  exact ⟨za42,m7,M7.out,N7.out,P7.out,Q7.out⟩
set_option maxHeartbeats 4000000 in
theorem sfind_and (t u:Rx) (a b:Nat) (hk:l.kd q=7) (har:l.ar q = [(a:Int),(b:Int)]) (h1:lo≤a) (h2:a < b) (h3:b+1=q) (hx:IC l w0 W1 g s L T t a lo) (hy:IC l w0 W1 g s L T u b (a+1)) :
  Calls Tryz.prog 142 #[.pointer (some ⟨g,0,none⟩),.int .i64 (q:Int),.int .i64 (i:Int),.int .i64 (j:Int)] W (SPost l w0 W1 L T m lo q (.bool (mt s t i j && mt s u i j))):=by
 have HS:=zk hS
 have HB:=zk hB
 have HG:=zk hG
 obtain ⟨z0,z1,z2,z3,f0,f1,f2,f3⟩:=blk4 (hS.z ok)
 have n0:=hS.n0 ok hq
 have n1:=hS.n1 ok hq
 have c0:=hS.a0 ok hq
 have q1:=eq_true hq
 have Hq:=zk hq
 obtain ⟨ab,ha,hst,x0⟩:=ok.a1 q hq 0 (by rw [har];simp)
 obtain ⟨ab',ha',_,x1⟩:=ok.a1 q hq 1 (by rw [har];simp)
 obtain rfl:ab=ab':=by rw [ha] at ha';injection ha' with h;injection h
 clear ha'
 rw [har] at x0 x1 c0
 rw [ha] at c0
 simp only [List.getD_cons_zero,List.getD_cons_succ,List.length_cons,List.length_nil,Nat.zero_add,Nat.reduceAdd] at x0 x1 c0
 have X0:=zk x0
 have X1:=zk x1
 have HST:=zk hst
 have y0:=hS.cell_ hst x0
 have y1:=hS.cell_ hst x1
 have HN:=zk (show lo≤a∧a < b∧b+1=q from ⟨h1,h2,h3⟩)
 have HX:=zk (fun (m':Nat→Nat→List Int) (W':World) (hS':SSt l W1 L m' W') (hG':Gs L T m' lo q) (hB':Below w0.heap.size w0 W')=>hx i j (a:Int) i j m' W' rfl rfl rfl hij hj hS' (hG'.sub (Nat.le_refl _) (by omega)) hB')
 have HY:=zk (fun (m':Nat→Nat→List Int) (W':World) (hS':SSt l W1 L m' W') (hG':Gs L T m' lo q) (hB':Below w0.heap.size w0 W')=>hy i j (b:Int) i j m' W' rfl rfl rfl hij hj hS' (hG'.sub (by omega) (by omega)) hB')
 clear hS hB hG hq hij hj x0 x1 hst ha har hx hy h1 h2 h3
 rw [hk] at n0
 clear hk
 cases hv:mt s t i j
 all_goals go_enter Tryz.func142,Tryz.ntmps142
 ·go_wp2_with (go_at_call 134;(with_reducible refine (HX.out m _ HS.out HG.out HB.out).mono ?_);rintro e w7 ⟨he,m7,S7,G7,SS7,B7⟩;rw [hv] at he;subst he;have M7:=zk S7;have N7:=zk (HG.out.next G7 SS7);have P7:=zk (Ss.next (Ss.refl L m lo q) SS7 za17 za17);have Q7:=zk B7;clear S7 G7 SS7 B7 z0 z1 z2 z3 f0 f1 f2 f3 n0 n1 c0 y0 y1;have y1:=M7.out.cell_ HST.out X1.out)
  go_ret
  exact ⟨za42,m7,M7.out,N7.out,P7.out,Q7.out⟩
 ·go_wp2_with (first|(go_at_call 134;(with_reducible refine (HX.out m _ HS.out HG.out HB.out).mono ?_);rintro e w7 ⟨he,m7,S7,G7,SS7,B7⟩;rw [hv] at he;subst he;have M7:=zk S7;have N7:=zk (HG.out.next G7 SS7);have P7:=zk (Ss.next (Ss.refl L m lo q) SS7 za17 za17);have Q7:=zk B7;clear S7 G7 SS7 B7 z0 z1 z2 z3 f0 f1 f2 f3 n0 n1 c0 y0 y1;have y1:=M7.out.cell_ HST.out X1.out)|(go_at_call 134;(with_reducible refine (HY.out m7 _ M7.out N7.out Q7.out).mono ?_);rintro e w8 ⟨rfl,m8,S8,G8,SS8,B8⟩;have M8:=zk S8;have N8:=zk (N7.out.next G8 SS8);have P8:=zk (Ss.next P7.out SS8 za17 za17);have Q8:=zk B8;clear S8 G8 SS8 B8))
  go_ret
  exact ⟨za42,m8,M8.out,N8.out,P8.out,Q8.out⟩
set_option maxHeartbeats 4000000 in
theorem sfind_cat (t u:Rx) (a b:Nat) (hk:l.kd q=5) (har:l.ar q = [(a:Int),(b:Int)]) (h1:lo≤a) (h2:a < b) (h3:b+1=q) (hx:IC l w0 W1 g s L T t a lo) (hy:IC l w0 W1 g s L T u b (a+1)) :
  Calls Tryz.prog 142 #[.pointer (some ⟨g,0,none⟩),.int .i64 (q:Int),.int .i64 (i:Int),.int .i64 (j:Int)] W (SPost l w0 W1 L T m lo q (.bool (exIn (fun k=>mt s t i k && mt s u k j) i j))):=by
 have HS:=zk hS
 have HB:=zk hB
 have HG:=zk hG
 obtain ⟨z0,z1,z2,z3,f0,f1,f2,f3⟩:=blk4 (hS.z ok)
 have n0:=hS.n0 ok hq
 have n1:=hS.n1 ok hq
 have c0:=hS.a0 ok hq
 have q1:=eq_true hq
 have Hq:=zk hq
 obtain ⟨ab,ha,hst,x0⟩:=ok.a1 q hq 0 (by rw [har];simp)
 obtain ⟨ab',ha',_,x1⟩:=ok.a1 q hq 1 (by rw [har];simp)
 obtain rfl:ab=ab':=by rw [ha] at ha';injection ha' with h;injection h
 clear ha'
 rw [har] at x0 x1 c0
 rw [ha] at c0
 simp only [List.getD_cons_zero,List.getD_cons_succ,List.length_cons,List.length_nil,Nat.zero_add,Nat.reduceAdd] at x0 x1 c0
 have X0:=zk x0
 have X1:=zk x1
 have HST:=zk hst
 have y0:=hS.cell_ hst x0
 have y1:=hS.cell_ hst x1
 have HN:=zk (show lo≤a∧a < b∧b+1=q from ⟨h1,h2,h3⟩)
 have HX:=zk (fun (kk:Nat) (m':Nat→Nat→List Int) (W':World) (g1:i≤kk) (g2:kk≤j) (hS':SSt l W1 L m' W') (hG':Gs L T m' lo q) (hB':Below w0.heap.size w0 W')=>hx i kk (a:Int) i kk m' W' rfl rfl rfl g1 (by omega) hS' (hG'.sub (Nat.le_refl _) (by omega)) hB')
 have HY:=zk (fun (kk:Nat) (m':Nat→Nat→List Int) (W':World) (g1:i≤kk) (g2:kk≤j) (hS':SSt l W1 L m' W') (hG':Gs L T m' lo q) (hB':Below w0.heap.size w0 W')=>hy kk j (b:Int) kk j m' W' rfl rfl rfl g2 hj hS' (hG'.sub (by omega) (by omega)) hB')
 have hj9:j≤401:=by omega
 clear hS hB hG hq x0 x1 hst ha har hx hy h1 h2 h3
 rw [hk] at n0
 clear hk
 go_enter Tryz.func142,Tryz.ntmps142
 go_wp2
 clear z0 z1 z2 z3 f0 f1 f2 f3 n0 n1 c0 y0 y1
 go_loopg [10] (j+1 - i) (fun kq v10 w'=>∃ (kk:Nat) (mm:Nat→Nat→List Int),v10 = .int .i64 (kk:Int)∧Aside0 (kk+kq=j+1)∧Aside0 (i≤kk)∧Aside0 (∀ k',i≤k'→k' < kk→(mt s t i k' && mt s u k' j)=false)∧Aside0 (SSt l W1 L mm w')∧Aside0 (Gs L T mm lo q)∧Aside0 (Ss L m mm lo q)∧Aside0 (Below w0.heap.size w0 w'))
 case atStart=>exact ⟨i,m,rfl,⟨by omega⟩,⟨Nat.le_refl _⟩,⟨fun k' h1 h2=>by omega⟩,HS,HG,⟨Ss.refl _ _ _ _⟩,HB⟩
 case round =>
  clear HS HG HB
  obtain ⟨kk,mm,rfl,HQ,HK1,HE,HS,HG,HP,HB⟩:=hrel
  have y0:=HS.out.cell_ HST.out X0.out
  have y1:=HS.out.cell_ HST.out X1.out
  by_cases hle:kk≤j
  ·have HK2:=zk hle
   have hd:decide (kk≤j)=true:=decide_eq_true hle
   clear hle
   have hk9:kk≤401:=by have:=HK2.out;omega
   cases gk with
   | zero=>exact absurd HQ.out za39
   | succ k1 =>
    cases hv:mt s t i kk
    ·go_wp2_with (go_at_call 134;(with_reducible refine (HX.out kk mm _ HK1.out HK2.out HS.out HG.out HB.out).mono ?_);rintro e w7 ⟨he,m7,S7,G7,SS7,B7⟩;rw [hv] at he;subst he;have M7:=zk S7;have N7:=zk (HG.out.next G7 SS7);have P7:=zk (Ss.next HP.out SS7 za17 za17);have Q7:=zk B7;clear S7 G7 SS7 B7 y0 y1;have y1:=M7.out.cell_ HST.out X1.out)
     go_roundg k1
     case measure=>omega
     case rel=>exact ⟨kk+1,m7,za42,⟨za36⟩,⟨za15⟩,⟨fun k' h1 h2=>by
       by_cases e:k'=kk
       ·subst e;rw [hv];rfl
       ·exact HE.out k' h1 (by omega)⟩,M7,N7,P7,Q7⟩
    ·cases hv2:mt s u kk j
     ·go_wp2_with (first|(go_at_call 134;(with_reducible refine (HX.out kk mm _ HK1.out HK2.out HS.out HG.out HB.out).mono ?_);rintro e w7 ⟨he,m7,S7,G7,SS7,B7⟩;rw [hv] at he;subst he;have M7:=zk S7;have N7:=zk (HG.out.next G7 SS7);have P7:=zk (Ss.next HP.out SS7 za17 za17);have Q7:=zk B7;clear S7 G7 SS7 B7 y0 y1;have y1:=M7.out.cell_ HST.out X1.out)|(go_at_call 134;(with_reducible refine (HY.out kk m7 _ HK1.out HK2.out M7.out N7.out Q7.out).mono ?_);rintro e w8 ⟨he,m8,S8,G8,SS8,B8⟩;rw [hv2] at he;subst he;have M8:=zk S8;have N8:=zk (N7.out.next G8 SS8);have P8:=zk (Ss.next P7.out SS8 za17 za17);have Q8:=zk B8;clear S8 G8 SS8 B8))
      go_roundg k1
      case measure=>omega
      case rel=>exact ⟨kk+1,m8,za42,⟨za36⟩,⟨za15⟩,⟨fun k' h1 h2=>by
        by_cases e:k'=kk
        ·subst e;rw [hv,hv2];rfl
        ·exact HE.out k' h1 (by omega)⟩,M8,N8,P8,Q8⟩
     ·go_wp2_with (first|(go_at_call 134;(with_reducible refine (HX.out kk mm _ HK1.out HK2.out HS.out HG.out HB.out).mono ?_);rintro e w7 ⟨he,m7,S7,G7,SS7,B7⟩;rw [hv] at he;subst he;have M7:=zk S7;have N7:=zk (HG.out.next G7 SS7);have P7:=zk (Ss.next HP.out SS7 za17 za17);have Q7:=zk B7;clear S7 G7 SS7 B7 y0 y1;have y1:=M7.out.cell_ HST.out X1.out)|(go_at_call 134;(with_reducible refine (HY.out kk m7 _ HK1.out HK2.out M7.out N7.out Q7.out).mono ?_);rintro e w8 ⟨he,m8,S8,G8,SS8,B8⟩;rw [hv2] at he;subst he;have M8:=zk S8;have N8:=zk (N7.out.next G8 SS8);have P8:=zk (Ss.next P7.out SS8 za17 za17);have Q8:=zk B8;clear S8 G8 SS8 B8))
      go_ret
      exact ⟨by rw [(exIn_iff _ _ _).2 ⟨kk,HK1.out,HK2.out,by rw [hv,hv2];rfl⟩];rfl,m8,M8.out,N8.out,P8.out,Q8.out⟩
  ·have hd:decide (kk≤j)=false:=decide_eq_false hle
   have HF:exIn (fun k=>mt s t i k && mt s u k j) i j=false:=by
    rw [Bool.eq_false_iff]
    intro h
    obtain ⟨k',h1,h2,h3⟩:=(exIn_iff _ _ _).1 h
    rw [HE.out k' h1 (by omega)] at h3
    exact absurd h3 (by simp)
   have HF2:=zk HF
   clear hle HF
   go_wp2
   go_ret
   exact ⟨by rw [HF2.out];rfl,mm,HS.out,HG.out,HP.out,HB.out⟩
end
def tv (b:Bool):Int:=if b=true then 1 else 2
theorem tv_true:tv true=1:=rfl
theorem tv_false:tv false=2:=rfl
section
variable (l : Lay) (w0 W1 : World) (g : Nat) (s : ByteArray) (L : Nat) (ok : LayOk l w0 W1 g s L) (hsL : s.size + 1 = L) (hL : L ≤ 401) (T : Nat → Nat → Nat → Bool) (lo q i : Nat) (hlo : lo ≤ q) (hq : q < l.N) (hi : i < L)
 (t:Rx) (a:Nat) (har:l.ar q = [(a:Int)]) (h1:lo≤a) (h3:a+1=q) (hx:IC l w0 W1 g s L T t a lo) (hT:∀ i j,T q i j=mt s (.star t) i j)
 (m:Nat→Nat→List Int) (W:World) (hS:SSt l W1 L m W) (hB:Below w0.heap.size w0 W) (hG:Gs L T m lo (q+1))
include ok hsL hL hlo hq hi har h1 h3 hx hT hS hB hG
theorem star_calls:Calls Tryz.prog 141 #[.pointer (some ⟨g,0,none⟩),.int .i64 (q:Int),.int .i64 (i:Int)] W fun e W'=>∃ m',e = .returned (.tuple #[])∧SSt l W1 L m' W'∧Gs L T m' lo (q+1)∧Ss L m m' lo (q+1)∧(∀ k,i≤k→k < L→(m' q i).getD k 0=if T q i k=true then 1 else 2)∧Below w0.heap.size w0 W':=by
 obtain ⟨ab,ha,hst,x0⟩:=ok.a1 q hq 0 (by rw [har];simp)
 have hac:l.aA q=some ⟨ab,0,none⟩:=ha
 have hal:(l.ar q).length=1:=by rw [har];rfl
 rw [har] at x0
 simp only [List.getD_cons_zero] at x0
 have X0:=zk x0
 have HST:=zk hst
 have HAC:Aside0 (∀ μ W',SSt l W1 L μ W'→W'.cell? ⟨l.ba,q,none⟩=some (.slice (some ⟨ab,0,none⟩) 1 (l.ac q))):=⟨fun μ W' h=>by have:=h.a0 ok hq;rwa [hac,hal] at this⟩
 have HS:=zk hS
 have HB:=zk hB
 have HG:=zk hG
 have Hq:=zk hq
 have Hi:=zk hi
 have q1:=eq_true hq
 have q2:=eq_true hi
 have HN:=zk (show lo≤a∧a+1=q from ⟨h1,h3⟩)
 have HX:=zk (fun (p kk:Nat) (m':Nat→Nat→List Int) (W':World) (g1:p≤kk) (g2:kk < L) (hS':SSt l W1 L m' W') (hG':Gs L T m' lo q) (hB':Below w0.heap.size w0 W')=>hx p kk (a:Int) p kk m' W' rfl rfl rfl g1 g2 hS' (hG'.sub (Nat.le_refl _) (by omega)) hB')
 have HT:=zk hT
 have HBt:=zk (fun (W':World)=>bit_calls true W')
 have HBf:=zk (fun (W':World)=>bit_calls false W')
 have HL:=zk hL
 have hi9:i≤401:=by omega
 clear hS hB hG hq hi x0 hst ha har hx h1 h3 hac hal hT hL
 go_enter Tryz.func141,Tryz.ntmps141
 go_wp2
 go_loopg [6] (L - i) (fun kq v6 w'=>∃ (kk:Nat) (μ:Nat→Nat→List Int),v6 = .int .i64 (kk:Int)∧Aside0 (kk+kq=L)∧Aside0 (i≤kk)∧Aside0 (∀ k,i≤k→k < kk→(μ q i).getD k 0=tv (mt s (.star t) i k))∧Aside0 (SSt l W1 L μ w')∧Aside0 (Gs L T μ lo (q+1))∧Aside0 (Ss L m μ lo (q+1))∧Aside0 (Below w0.heap.size w0 w'))
 case atStart=>exact ⟨i,m,rfl,⟨by have:=Hi.out;omega⟩,⟨Nat.le_refl _⟩,⟨fun k h1 h2=>by omega⟩,HS,HG,⟨Ss.refl _ _ _ _⟩,HB⟩
 case round =>
  clear HS HG HB
  obtain ⟨kk,μ,rfl,HQ,HK1,HE,HS,HG,HP,HB⟩:=hrel
  obtain ⟨z0,z1,z2,z3,f0,f1,f2,f3⟩:=blk4 (HS.out.z ok)
  by_cases hle:kk≤s.size
  ·have HK2:=zk (show kk < L by omega)
   have hd:decide (kk≤s.size)=true:=decide_eq_true hle
   have q3:=eq_true (show kk < L by omega)
   clear hle
   have hk9:kk≤401:=by have:=HK2.out;have:=HL.out;omega
   cases gk with
   | zero=>exact absurd HQ.out za39
   | succ k1 =>
    have c0:=HS.out.m0 ok Hq.out
    have c1:=HS.out.m1 ok Hq.out Hi.out
    have c2:=HS.out.m2 Hq.out Hi.out HK2.out
    generalize (μ q i).getD kk 0=vv at c2
    have d2:=HS.out.fr Hq.out Hi.out kk
    have e0:=ok.sg.2 q i Hq.out Hi.out
    have e1:=ok.sm.2 q i Hq.out Hi.out
    have e2:=(ok.st q Hq.out).2 q i Hq.out Hi.out
    go_upto_region 3 with (fail)
    go_cut [] (fun wc=>∃ μ2,Aside0 (SSt l W1 L μ2 wc)∧Aside0 (∀ q' i' j',¬ (q'=q∧i'=i∧j'=kk)→(μ2 q' i').getD j' 0=(μ q' i').getD j' 0)∧Aside0 ((μ2 q i).getD kk 0=if kk=i then 1 else 2)∧Aside0 (Below w0.heap.size w0 wc))
    case first =>
     by_cases hki:kk=i
     ·have hb1:((kk:Int) == (i:Int))=true:=by simp;omega
      have hb2:(kk == i)=true:=by simpa using hki
      have HKI:=zk hki
      clear hki
      go_region_held3 (fun w'=>w'.cell? ⟨g,3,none⟩=some (.slice (some ⟨l.bm,0,none⟩) l.N l.cm)∧w'.cell? ⟨l.bm,q,none⟩=some (.slice (some ⟨l.tb q,0,none⟩) L (l.tc q))∧w'.cell? ⟨l.tb q,i,none⟩=some (.slice (some ⟨l.rb q i,0,none⟩) L L)) (first|go_keep|exact ⟨(cell_far e0 _).trans z3,(cell_far e1 _).trans c0,(cell_far e2 _).trans c1⟩)
       (first|(go_at_call 113;refine (HBt.out _).mono ?_;rintro e w6 ⟨rfl,⟨nd,rfl⟩⟩))
      try go_wp2
      go_meet
      case rel =>
       have hl5:=(HS.out.rw q i Hq.out Hi.out).2
       rw [show IntKind.i64.wrap 1=1 by decide]
       exact ⟨_,⟨(show SSt l W1 L μ (wr.drewN (1+nd)) from ⟨HS.out.st,HS.out.rw,HS.out.le⟩).put ok Hq.out Hi.out kk _⟩,⟨fun q' i' j' h=>by
        by_cases e:q'=q∧i'=i
        ·rw [e.1,e.2,upd_self,getD_ne _ (fun e'=>h ⟨e.1,e.2,e'.symm⟩)]
        ·rw [upd_ne _ _ e]⟩,⟨by rw [upd_self,getD_lt za39,if_pos HKI.out]⟩,⟨(show Below w0.heap.size w0 (wr.drewN (1+nd)) from pw_below_drewN HB.out _).setCell (ok.lo q i Hq.out Hi.out) _⟩⟩
     ·have hb1:((kk:Int) == (i:Int))=false:=by simp;omega
      have hb2:(kk == i)=false:=by simpa using hki
      have HKI:=zk hki
      clear hki
      go_region_held3 (fun w'=>w'.cell? ⟨g,3,none⟩=some (.slice (some ⟨l.bm,0,none⟩) l.N l.cm)∧w'.cell? ⟨l.bm,q,none⟩=some (.slice (some ⟨l.tb q,0,none⟩) L (l.tc q))∧w'.cell? ⟨l.tb q,i,none⟩=some (.slice (some ⟨l.rb q i,0,none⟩) L L)) (first|go_keep|exact ⟨(cell_far e0 _).trans z3,(cell_far e1 _).trans c0,(cell_far e2 _).trans c1⟩)
       (first|(go_at_call 113;refine (HBf.out _).mono ?_;rintro e w6 ⟨rfl,⟨nd,rfl⟩⟩))
      try go_wp2
      go_meet
      case rel =>
       have hl5:=(HS.out.rw q i Hq.out Hi.out).2
       rw [show IntKind.i64.wrap 2=2 by decide]
       exact ⟨_,⟨(show SSt l W1 L μ (wr.drewN (1+nd)) from ⟨HS.out.st,HS.out.rw,HS.out.le⟩).put ok Hq.out Hi.out kk _⟩,⟨fun q' i' j' h=>by
        by_cases e:q'=q∧i'=i
        ·rw [e.1,e.2,upd_self,getD_ne _ (fun e'=>h ⟨e.1,e.2,e'.symm⟩)]
        ·rw [upd_ne _ _ e]⟩,⟨by rw [upd_self,getD_lt za39,if_neg HKI.out]⟩,⟨(show Below w0.heap.size w0 (wr.drewN (1+nd)) from pw_below_drewN HB.out _).setCell (ok.lo q i Hq.out Hi.out) _⟩⟩
    case rest =>
     clear z0 z1 z2 z3 f0 f1 f2 f3 c0 c1 c2 d2 e0 e1 e2
     obtain ⟨μ2,HS2,HD2,HV2,HB2⟩:=hcut
     have HP2:Aside0 (Ss L m μ2 lo (q+1)):=⟨fun q' i' j' h h1 h2=>by rw [HD2.out q' i' j' (fun e=>h za17)];exact HP.out q' i' j' h h1 h2⟩
     have HG2:Aside0 (∀ q' i' j',lo≤q'→q' < q+1→i'≤j'→j' < L→¬ (q'=q∧i'=i∧j'=kk)→(μ2 q' i').getD j' 0=0∨(μ2 q' i').getD j' 0=if T q' i' j'=true then 1 else 2):=⟨fun q' i' j' h1 h2 h3 h4 h5=>by rw [HD2.out q' i' j' h5];exact HG.out q' i' j' h1 h2 h3 h4⟩
     have HE2:Aside0 (∀ k,i≤k→k < kk→(μ2 q i).getD k 0=tv (mt s (.star t) i k)):=⟨fun k h1 h2=>by rw [HD2.out q i k (fun e=>by omega)];exact HE.out k h1 h2⟩
     have HV3:Aside0 (((μ2 q i).getD kk 0=1∧mt s (.star t) i kk=true)∨((μ2 q i).getD kk 0=2∧i < kk)):=⟨by
      by_cases e:kk=i
      ·left;refine ⟨by rw [HV2.out,if_pos e],by rw [e];exact star_self _ _ _⟩
      ·right;exact ⟨by rw [HV2.out,if_neg e],za15⟩⟩
     clear HS HG HP HE HB HD2 HV2
     go_wp2
     go_loopg [7] (kk+1 - i) (fun kq v7 w'=>∃ (p:Nat) (ν:Nat→Nat→List Int),v7 = .int .i64 (p:Int)∧Aside0 (p+kq=kk+1)∧Aside0 (i≤p∧p≤kk)∧Aside0 (∀ k,i≤k→k < kk→(ν q i).getD k 0=tv (mt s (.star t) i k))∧Aside0 (SSt l W1 L ν w')∧Aside0 (∀ q' i' j',lo≤q'→q' < q+1→i'≤j'→j' < L→¬ (q'=q∧i'=i∧j'=kk)→(ν q' i').getD j' 0=0∨(ν q' i').getD j' 0=if T q' i' j'=true then 1 else 2)∧Aside0 (Ss L m ν lo (q+1))∧Aside0 (((ν q i).getD kk 0=1∧mt s (.star t) i kk=true)∨((ν q i).getD kk 0=2∧i < kk∧∀ p',i≤p'→p' < p→(mt s (.star t) i p' && mt s t p' kk)=false))∧Aside0 (Below w0.heap.size w0 w'))
     case atStart=>exact ⟨i,μ2,rfl,⟨za15⟩,⟨Nat.le_refl _,HK1.out⟩,HE2,HS2,HG2,HP2,⟨by
      rcases HV3.out with h|h
      ·exact .inl h
      ·exact .inr ⟨h.1,h.2,fun p' h1 h2=>by omega⟩⟩,HB2⟩
     case round =>
      clear HS2 HG2 HE2 HP2 HV3 HB2
      obtain ⟨p,ν,rfl,HQ2,HR,HE,HS,HG,HP,HV,HB⟩:=hrel
      obtain ⟨z0,z1,z2,z3,f0,f1,f2,f3⟩:=blk4 (HS.out.z ok)
      have c0:=HS.out.m0 ok Hq.out
      have c1:=HS.out.m1 ok Hq.out Hi.out
      have c2:=HS.out.m2 Hq.out Hi.out HK2.out
      have DONE:Aside0 (∀ b,(ν q i).getD kk 0=tv b→mt s (.star t) i kk=b→Gs L T ν lo (q+1)∧∀ k,i≤k→k < kk+1→(ν q i).getD k 0=tv (mt s (.star t) i k)):=⟨fun b hb hb2=>⟨fun q' i' j' h1 h2 h3 h4=>by
        by_cases e:q'=q∧i'=i∧j'=kk
        ·rw [e.1,e.2.1,e.2.2,hb,HT.out,hb2];exact .inr rfl
        ·exact HG.out q' i' j' h1 h2 h3 h4 e,fun k h1 h2=>by
        by_cases e:k=kk
        ·subst e;rw [hb,hb2]
        ·exact HE.out k h1 (by omega)⟩⟩
      rcases HV.out with ⟨hv,hst⟩|⟨hv,hik,hno⟩
      ·rw [hv] at c2
       have DN:=zk (DONE.out true (by rw [hv];rfl) hst)
       clear hv hst DONE
       by_cases hpk:p < kk
       ·have hd2:decide (p < kk)=true:=decide_eq_true hpk
        clear hpk
        go_wp2
        go_roundg k1
        case measure=>omega
        case rel=>exact ⟨kk+1,ν,za42,⟨za36⟩,⟨za15⟩,⟨DN.out.2⟩,HS,⟨DN.out.1⟩,HP,HB⟩
       ·have hd2:decide (p < kk)=false:=decide_eq_false hpk
        clear hpk
        go_wp2
        go_roundg k1
        case measure=>omega
        case rel=>exact ⟨kk+1,ν,za42,⟨za36⟩,⟨za15⟩,⟨DN.out.2⟩,HS,⟨DN.out.1⟩,HP,HB⟩
      ·by_cases hpk:p < kk
       ·have hd2:decide (p < kk)=true:=decide_eq_true hpk
        have HPK:=zk hpk
        have hp9:p≤401:=by omega
        have HGq:Aside0 (Gs L T ν lo q):=⟨fun q' i' j' h1 h2 h3 h4=>HG.out q' i' j' h1 (by omega) h3 h4 (fun e=>by omega)⟩
        have HNO:=zk hno
        have HIK:=zk hik
        have HV2:=zk hv
        have c3:=HS.out.m2 Hq.out Hi.out (show p < L by have:=HPK.out;have:=HK2.out;omega)
        have q4:=eq_true (show p < L by have:=HPK.out;have:=HK2.out;omega)
        rw [HE.out p HR.out.1 hpk] at c3
        rw [hv] at c2
        clear hv hno hik hpk DONE
        obtain ⟨k2,rfl⟩:∃ k2,gk=k2+1:=⟨gk - 1,by have:=HQ2.out;have:=HPK.out;omega⟩
        cases hv1:mt s (.star t) i p
        ·rw [hv1,tv_false] at c3
         go_wp2
         go_roundg k2
         case measure=>omega
         case rel=>exact ⟨p+1,ν,za42,⟨by have:=HQ2.out;omega⟩,⟨by have:=HR.out;omega,by have:=HPK.out;omega⟩,HE,HS,HG,HP,⟨.inr ⟨HV2.out,HIK.out,fun p' h1 h2=>by
           by_cases e:p'=p
           ·rw [e,hv1];rfl
           ·exact HNO.out p' h1 (by omega)⟩⟩,HB⟩
        ·rw [hv1,tv_true] at c3
         have y0:=HS.out.cell_ HST.out X0.out
         have a0:=HAC.out _ _ HS.out
         cases hv2:mt s t p kk
         ·go_wp2_with (go_at_call 134;(with_reducible refine (HX.out p kk ν _ HR.out.2 HK2.out HS.out HGq.out HB.out).mono ?_);rintro e w7 ⟨he,m7,S7,G7,SS7,B7⟩;rw [hv2] at he;subst he;have M7:=zk S7;have Q7:=zk B7;have V7:=zk (show (m7 q i).getD kk 0=2 by rw [SS7 q i kk za17 HK1.out HK2.out,HV2.out]);have E7:Aside0 (∀ k,i≤k→k < kk→(m7 q i).getD k 0=tv (mt s (.star t) i k)):=⟨fun k h1 h2=>by rw [SS7 q i k za17 h1 za39];exact HE.out k h1 h2⟩;have N7:Aside0 (∀ q' i' j',lo≤q'→q' < q+1→i'≤j'→j' < L→¬ (q'=q∧i'=i∧j'=kk)→(m7 q' i').getD j' 0=0∨(m7 q' i').getD j' 0=if T q' i' j'=true then 1 else 2):=⟨fun q' i' j' h1 h2 h3 h4 h5=>by by_cases e:q' < a+1;exact G7 q' i' j' h1 e h3 h4;rw [SS7 q' i' j' (by omega) h3 h4];exact HG.out q' i' j' h1 h2 h3 h4 h5⟩;have P7:=zk (Ss.next HP.out SS7 za17 za17);clear S7 G7 SS7 B7 z0 z1 z2 z3 f0 f1 f2 f3 c0 c1 c2 c3 y0 a0)
          go_roundg k2
          case measure=>omega
          case rel=>exact ⟨p+1,m7,za42,⟨by have:=HQ2.out;omega⟩,⟨by have:=HR.out;omega,by have:=HPK.out;omega⟩,E7,M7,N7,P7,⟨.inr ⟨V7.out,HIK.out,fun p' h1 h2=>by
            by_cases e:p'=p
            ·rw [e,hv1,hv2];rfl
            ·exact HNO.out p' h1 (by omega)⟩⟩,Q7⟩
         ·go_wp2_with (go_at_call 134;(with_reducible refine (HX.out p kk ν _ HR.out.2 HK2.out HS.out HGq.out HB.out).mono ?_);rintro e w7 ⟨he,m7,S7,G7,SS7,B7⟩;rw [hv2] at he;subst he;have M7:=zk S7;have Q7:=zk B7;have V7:=zk (show (m7 q i).getD kk 0=2 by rw [SS7 q i kk za17 HK1.out HK2.out,HV2.out]);have E7:Aside0 (∀ k,i≤k→k < kk→(m7 q i).getD k 0=tv (mt s (.star t) i k)):=⟨fun k h1 h2=>by rw [SS7 q i k za17 h1 za39];exact HE.out k h1 h2⟩;have N7:Aside0 (∀ q' i' j',lo≤q'→q' < q+1→i'≤j'→j' < L→¬ (q'=q∧i'=i∧j'=kk)→(m7 q' i').getD j' 0=0∨(m7 q' i').getD j' 0=if T q' i' j'=true then 1 else 2):=⟨fun q' i' j' h1 h2 h3 h4 h5=>by by_cases e:q' < a+1;exact G7 q' i' j' h1 e h3 h4;rw [SS7 q' i' j' (by omega) h3 h4];exact HG.out q' i' j' h1 h2 h3 h4 h5⟩;have P7:=zk (Ss.next HP.out SS7 za17 za17);clear S7 G7 SS7 B7 z0 z1 z2 z3 f0 f1 f2 f3 c0 c1 c2 c3 y0 a0;obtain ⟨z0,z1,z2,z3,f0,f1,f2,f3⟩:=blk4 (M7.out.z ok);have c0:=M7.out.m0 ok Hq.out;have c1:=M7.out.m1 ok Hq.out Hi.out;have c2:=M7.out.m2 Hq.out Hi.out HK2.out;rw [V7.out] at c2;have d2:=M7.out.fr Hq.out Hi.out kk)
          go_roundg k2
          case measure=>omega
          case rel =>
           have hlk:kk < (m7 q i).length:=by rw [(M7.out.rw q i Hq.out Hi.out).2];exact HK2.out
           exact ⟨p+1,upd m7 q i ((m7 q i).set kk 1),za42,⟨by have:=HQ2.out;omega⟩,⟨by have:=HR.out;omega,by have:=HPK.out;omega⟩,⟨fun k h1 h2=>by rw [upd_self,getD_ne _ (by omega)];exact E7.out k h1 h2⟩,⟨M7.out.put ok Hq.out Hi.out kk 1⟩,⟨fun q' i' j' h1 h2 h3 h4 h5=>by
            by_cases e:q'=q∧i'=i
            ·rw [e.1,e.2,upd_self,getD_ne _ (fun e'=>h5 ⟨e.1,e.2,e'.symm⟩)]
             have:=N7.out q' i' j' h1 h2 h3 h4 h5
             rw [e.1,e.2] at this
             exact this
            ·rw [upd_ne _ _ e];exact N7.out q' i' j' h1 h2 h3 h4 h5⟩,⟨fun q' i' j' h1 h2 h3=>by
            rw [upd_ne _ _ (fun e=>h1 za17)];exact P7.out q' i' j' h1 h2 h3⟩,⟨.inl ⟨by rw [upd_self,getD_lt hlk],by
            rw [star_last s t i kk HIK.out]
            exact (exIn_iff _ _ _).2 ⟨p,HR.out.1,by have:=HPK.out;omega,by rw [hv1,hv2];rfl⟩⟩⟩,⟨Q7.out.setCell (ok.lo q i Hq.out Hi.out) _⟩⟩
       ·have hpe:p=kk:=by have:=HR.out;omega
        have hd2:decide (p < kk)=false:=decide_eq_false hpk
        have DN:=zk (DONE.out false (by rw [hv];rfl) (by
         rw [star_last s t i kk hik,Bool.eq_false_iff]
         intro h
         obtain ⟨p',h1,h2,h3⟩:=(exIn_iff _ _ _).1 h
         rw [hno p' h1 (by omega)] at h3
         exact absurd h3 (by simp)))
        clear hv hno hpk DONE c2 hpe
        go_wp2
        go_roundg k1
        case measure=>omega
        case rel=>exact ⟨kk+1,ν,za42,⟨za36⟩,⟨za15⟩,⟨DN.out.2⟩,HS,⟨DN.out.1⟩,HP,HB⟩
  ·have hd:decide (kk≤s.size)=false:=decide_eq_false hle
   have hkL:kk=L:=by have:=HQ.out;omega
   have HKL:=zk hkL
   clear hle hkL
   go_wp2
   go_end0
   refine ⟨μ,rfl,HS.out,HG.out,HP.out,fun k h1 h2=>?_,HB.out⟩
   rw [HE.out k h1 (by have:=HKL.out;omega),HT.out]
   rfl
end
def FT (l:Lay) (s:ByteArray) (T:Nat→Nat→Nat→Bool):Rx→Nat→Nat→Prop
 | .none,p,lo=>lo=p∧(∀ i j,T p i j=mt s .none i j)∧l.kd p=1
 | .empty,p,lo=>lo=p∧(∀ i j,T p i j=mt s .empty i j)∧l.kd p=2
 | .any,p,lo=>lo=p∧(∀ i j,T p i j=mt s .any i j)∧l.kd p=4
 | .letter x,p,lo=>lo=p∧(∀ i j,T p i j=mt s (.letter x) i j)∧l.kd p=3∧l.lt p=x
 | .not t,p,lo=>lo≤p∧(∀ i j,T p i j=mt s (.not t) i j)∧l.kd p=9∧∃ a:Nat,l.ar p = [(a:Int)]∧a+1=p∧FT l s T t a lo
 | .star t,p,lo=>lo≤p∧(∀ i j,T p i j=mt s (.star t) i j)∧l.kd p=8∧∃ a:Nat,l.ar p = [(a:Int)]∧a+1=p∧FT l s T t a lo
 | .cat t u,p,lo=>lo≤p∧(∀ i j,T p i j=mt s (.cat t u) i j)∧l.kd p=5∧∃ a b:Nat,l.ar p = [(a:Int),(b:Int)]∧b+1=p∧FT l s T t a lo∧FT l s T u b (a+1)
 | .or t u,p,lo=>lo≤p∧(∀ i j,T p i j=mt s (.or t u) i j)∧l.kd p=6∧∃ a b:Nat,l.ar p = [(a:Int),(b:Int)]∧b+1=p∧FT l s T t a lo∧FT l s T u b (a+1)
 | .and t u,p,lo=>lo≤p∧(∀ i j,T p i j=mt s (.and t u) i j)∧l.kd p=7∧∃ a b:Nat,l.ar p = [(a:Int),(b:Int)]∧b+1=p∧FT l s T t a lo∧FT l s T u b (a+1)
theorem FT.le {l:Lay} {s:ByteArray} {T:Nat→Nat→Nat→Bool} {t:Rx} {p lo:Nat} (h:FT l s T t p lo):lo≤p:=by
 cases t <;> first|exact Nat.le_of_eq h.1|exact h.1
theorem FT.here {l:Lay} {s:ByteArray} {T:Nat→Nat→Nat→Bool} {t:Rx} {p lo:Nat} (h:FT l s T t p lo):∀ i j,T p i j=mt s t i j:=by
 cases t <;> exact h.2.1
section
variable (l : Lay) (w0 W1 : World) (g : Nat) (s : ByteArray) (L : Nat) (ok : LayOk l w0 W1 g s L) (hsL : s.size + 1 = L) (hL : L ≤ 401) (T : Nat → Nat → Nat → Bool)
include ok hsL hL
theorem ic_of (t:Rx) (p lo:Nat) (hp:p < l.N) (hlo:lo≤p) (hT:∀ i j,T p i j=mt s t i j) (hk:(l.kd p == 8)=false)
  (hf:∀ (i j:Nat) (m:Nat→Nat→List Int) (W:World),i≤j→j < L→SSt l W1 L m W→Gs L T m lo p→Below w0.heap.size w0 W→Calls Tryz.prog 142 #[.pointer (some ⟨g,0,none⟩),.int .i64 (p:Int),.int .i64 (i:Int),.int .i64 (j:Int)] W (SPost l w0 W1 L T m lo p (.bool (mt s t i j)))) :
  IC l w0 W1 g s L T t p lo:=by
 intro i j pv iv jv m W e1 e2 e3 hij hj hS hG hB
 subst e1 e2 e3
 by_cases hv:(m p i).getD j 0=0
 ·exact is_find l w0 W1 g s L ok T lo p i j hlo hp hij hj _ (hT i j) m W hS hB hk hG hv fun m' W' h1 h2 h3=>hf i j m' W' hij hj h1 h2 h3
 ·exact is_known l w0 W1 g s L ok T lo p i j hlo hp hij hj _ (hT i j) m W hS hB hG hv
theorem is_all (t:Rx):∀ p lo,p < l.N→FT l s T t p lo→IC l w0 W1 g s L T t p lo:=by
 induction t with
 | none =>
  intro p lo hp h
  exact ic_of l w0 W1 g s L ok hsL hL T .none p lo hp h.le h.here (by rw [h.2.2];rfl) fun i j m W hij hj hS hG hB=>sfind_leaf l w0 W1 g s L ok hsL hL T lo p i j h.le hp hij hj m W hS hB hG _ (.inl ⟨h.2.2,rfl⟩)
 | empty =>
  intro p lo hp h
  exact ic_of l w0 W1 g s L ok hsL hL T .empty p lo hp h.le h.here (by rw [h.2.2];rfl) fun i j m W hij hj hS hG hB=>sfind_leaf l w0 W1 g s L ok hsL hL T lo p i j h.le hp hij hj m W hS hB hG _ (.inr (.inl ⟨h.2.2,rfl⟩))
 | any =>
  intro p lo hp h
  exact ic_of l w0 W1 g s L ok hsL hL T .any p lo hp h.le h.here (by rw [h.2.2];rfl) fun i j m W hij hj hS hG hB=>sfind_leaf l w0 W1 g s L ok hsL hL T lo p i j h.le hp hij hj m W hS hB hG _ (.inr (.inr (.inl ⟨h.2.2,rfl⟩)))
 | letter x =>
  intro p lo hp h
  exact ic_of l w0 W1 g s L ok hsL hL T (.letter x) p lo hp h.le h.here (by rw [h.2.2.1];rfl) fun i j m W hij hj hS hG hB=>sfind_leaf l w0 W1 g s L ok hsL hL T lo p i j h.le hp hij hj m W hS hB hG _ (.inr (.inr (.inr ⟨h.2.2.1,by rw [h.2.2.2];rfl⟩)))
 | cat t u iht ihu =>
  intro p lo hp h
  obtain ⟨h1,h2,h3,a,b,har,hb,ht,hu⟩:=id h
  have l1:=ht.le
  have l2:=hu.le
  exact ic_of l w0 W1 g s L ok hsL hL T (.cat t u) p lo hp h1 h2 (by rw [h3];rfl) fun i j m W hij hj hS hG hB=>sfind_cat l w0 W1 g s L ok hsL hL T lo p i j h1 hp hij hj m W hS hB hG t u a b h3 har l1 (by omega) hb (iht a lo (by omega) ht) (ihu b (a+1) (by omega) hu)
 | or t u iht ihu =>
  intro p lo hp h
  obtain ⟨h1,h2,h3,a,b,har,hb,ht,hu⟩:=id h
  have l1:=ht.le
  have l2:=hu.le
  exact ic_of l w0 W1 g s L ok hsL hL T (.or t u) p lo hp h1 h2 (by rw [h3];rfl) fun i j m W hij hj hS hG hB=>sfind_or l w0 W1 g s L ok hsL hL T lo p i j h1 hp hij hj m W hS hB hG t u a b h3 har l1 (by omega) hb (iht a lo (by omega) ht) (ihu b (a+1) (by omega) hu)
 | and t u iht ihu =>
  intro p lo hp h
  obtain ⟨h1,h2,h3,a,b,har,hb,ht,hu⟩:=id h
  have l1:=ht.le
  have l2:=hu.le
  exact ic_of l w0 W1 g s L ok hsL hL T (.and t u) p lo hp h1 h2 (by rw [h3];rfl) fun i j m W hij hj hS hG hB=>sfind_and l w0 W1 g s L ok hsL hL T lo p i j h1 hp hij hj m W hS hB hG t u a b h3 har l1 (by omega) hb (iht a lo (by omega) ht) (ihu b (a+1) (by omega) hu)
 | not t iht =>
  intro p lo hp h
  obtain ⟨h1,h2,h3,a,har,hb,ht⟩:=id h
  exact ic_of l w0 W1 g s L ok hsL hL T (.not t) p lo hp h1 h2 (by rw [h3];rfl) fun i j m W hij hj hS hG hB=>sfind_not l w0 W1 g s L ok hsL hL T lo p i j h1 hp hij hj m W hS hB hG t a h3 har ht.le hb (iht a lo (by omega) ht)
 | star t iht =>
  intro p lo hp h
  obtain ⟨h1,h2,h3,a,har,hb,ht⟩:=id h
  intro i j pv iv jv m W e1 e2 e3 hij hj hS hG hB
  subst e1 e2 e3
  by_cases hv:(m p i).getD j 0=0
  ·exact is_star l w0 W1 g s L ok T lo p i j h1 hp hij hj _ (h2 i j) m W hS hB (by rw [h3];rfl) hG hv fun m' W' h4 h5 h6=>star_calls l w0 W1 g s L ok hsL hL T lo p i h1 hp (by omega) t a har ht.le hb (iht a lo (by omega) ht) h2 m' W' h4 h6 h5
  ·exact is_known l w0 W1 g s L ok T lo p i j h1 hp hij hj _ (h2 i j) m W hS hB hG hv
end
structure Nd where
 k:Int
 l:ByteArray
 sv:Value
 ars:List Int
 aA:Option Addr
 ac:Nat
 tb:Nat
 tc:Nat
 rows:List Nat
def Nd.av (x:Nd):Value:=.slice x.aA x.ars.length x.ac
def Nd.mv (L:Nat) (x:Nd):Value:=.slice (some ⟨x.tb,0,none⟩) L x.tc
def Nd.cells (x:Nd):List Value:=[.int .i64 x.k,.string x.l,x.sv]
def Nd.blks (x:Nd):List Nat:=x.av.ownBlock.toList ++ (x.tb :: x.rows)
structure NOk (W : World) (base L : Nat) (x : Nd) : Prop where
 a:W.ownsRow base 3 1 x.av x.ars.length (nums .i64 x.ars)
 t:W.ownsRow base 59 1 (x.mv L) L (x.rows.map fun b => .slice (some ⟨b,0,none⟩) L L)
 len:x.rows.length=L
 r:∀ b ∈ x.rows,base≤b∧W.heap[b]? = some (.cells (nums .i64 (List.replicate L 0)).toArray 3 (0,0))
theorem NOk.lt {W:World} {base L:Nat} {x:Nd} (h:NOk W base L x):∀ b ∈ x.blks,b < W.heap.size:=by
 intro b hb
 simp only [Nd.blks,List.mem_append,List.mem_cons,Option.mem_toList] at hb
 rcases hb with hb|rfl|hb
 ·exact (h.a.lt b hb).2
 ·exact (h.t.lt _ rfl).2
 ·exact blk_lt (h.r b hb).2
theorem NOk.move {W W':World} {base L:Nat} {x:Nd} (h:NOk W base L x) (hm:∀ b ∈ x.blks,W'.heap[b]? = W.heap[b]?):NOk W' base L x:=by
 refine ⟨own_move h.a fun k hk=>hm k ?_,own_move h.t fun k hk=>hm k ?_,h.len,fun b hb=>⟨(h.r b hb).1,(hm b ?_).trans (h.r b hb).2⟩⟩
 ·simp only [Nd.blks,List.mem_append,Option.mem_toList];exact .inl hk
 ·have:x.tb=k:=by simpa [Nd.mv,Value.ownBlock] using hk
  subst this
  simp [Nd.blks]
 ·simp [Nd.blks,hb]
def Apt (g:Nat) (vn va vm:Value) (b:Nat):Prop:=b ≠ g∧vn.ownBlock ≠ some b∧va.ownBlock ≠ some b∧vm.ownBlock ≠ some b
structure P3 (W : World) (base g : Nat) (s : ByteArray) (L : Nat) (nl al ml nodes : List Nd) (vn va vm : Value) : Prop where
 z:W.heap[g]? = some (.cells #[.string s,vn,va,vm] 142 (0,0))
 n:W.ownsRow base 65 3 vn nl.length (nl.flatMap Nd.cells)
 a:W.ownsRow base 59 1 va al.length (al.map Nd.av)
 m:W.ownsRow base 139 1 vm ml.length (ml.map (Nd.mv L))
 ok:∀ x ∈ nodes,NOk W base L x
 nd:(nodes.flatMap Nd.blks).Nodup
 sep:∀ b ∈ nodes.flatMap Nd.blks,Apt g vn va vm b
theorem P3.lt {W:World} {base g:Nat} {s:ByteArray} {L:Nat} {nl al ml nodes:List Nd} {vn va vm:Value} (h:P3 W base g s L nl al ml nodes vn va vm):∀ b ∈ nodes.flatMap Nd.blks,b < W.heap.size:=by
 intro b hb
 obtain ⟨x,hx,hb⟩:=List.mem_flatMap.1 hb
 exact (h.ok x hx).lt b hb
structure Step (g : Nat) (W : World) (vn va vm : Value) (W' : World) (vn' va' vm' : Value) : Prop where
 sz:W.heap.size≤W'.heap.size
 fr:∀ k,k < W.heap.size→Apt g vn va vm k→W'.heap[k]? = W.heap[k]?
 n:∀ k,vn'.ownBlock=some k→vn.ownBlock=some k∨W.heap.size≤k
 a:∀ k,va'.ownBlock=some k→va.ownBlock=some k∨W.heap.size≤k
 m:∀ k,vm'.ownBlock=some k→vm.ownBlock=some k∨W.heap.size≤k
section
variable {g : Nat} {W W' W2 : World} {vn va vm vn' va' vm' vn2 va2 vm2 : Value}
theorem Step.refl (g:Nat) (W:World) (vn va vm:Value):Step g W vn va vm W vn va vm:=⟨Nat.le_refl _,fun _ _ _=>rfl,fun _ h => .inl h,fun _ h => .inl h,fun _ h => .inl h⟩
theorem Step.apt (h:Step g W vn va vm W' vn' va' vm') {k:Nat} (hk:k < W.heap.size) (ha:Apt g vn va vm k):Apt g vn' va' vm' k :=
 ⟨ha.1,fun e=>by rcases h.n k e with h|h;exact ha.2.1 h;omega,fun e=>by rcases h.a k e with h|h;exact ha.2.2.1 h;omega,fun e=>by rcases h.m k e with h|h;exact ha.2.2.2 h;omega⟩
theorem Step.trans (h:Step g W vn va vm W' vn' va' vm') (h':Step g W' vn' va' vm' W2 vn2 va2 vm2):Step g W vn va vm W2 vn2 va2 vm2:=by
 refine ⟨Nat.le_trans h.sz h'.sz,fun k hk ha=>(h'.fr k (Nat.lt_of_lt_of_le hk h.sz) (h.apt hk ha)).trans (h.fr k hk ha),fun k e=>?_,fun k e=>?_,fun k e=>?_⟩
 ·rcases h'.n k e with h1|h1
  ·exact h.n k h1
  ·exact .inr (Nat.le_trans h.sz h1)
 ·rcases h'.a k e with h1|h1
  ·exact h.a k h1
  ·exact .inr (Nat.le_trans h.sz h1)
 ·rcases h'.m k e with h1|h1
  ·exact h.m k h1
  ·exact .inr (Nat.le_trans h.sz h1)
theorem Step.below (hb:Below W.heap.size W W'):Step g W vn va vm W' vn va vm:=⟨hb.size,fun k hk _=>hb.block k hk,fun _ h => .inl h,fun _ h => .inl h,fun _ h => .inl h⟩
theorem Step.row {v:Value} (hg:W.grownBy W' v.ownBlock) (hv:∀ k,v.ownBlock=some k→W2.heap.size≤k) (h:Step g W2 vn va vm W vn' va' vm'):Step g W2 vn va vm W' vn' va' vm' :=
 ⟨Nat.le_trans h.sz hg.size,fun k hk ha=>(hg.block k (Nat.lt_of_lt_of_le hk h.sz) (fun e=>by have:=hv k e.symm;omega)).trans (h.fr k hk ha),h.n,h.a,h.m⟩
theorem P3.move {base:Nat} {s:ByteArray} {L:Nat} {nl al ml nodes:List Nd} (h:P3 W base g s L nl al ml nodes vn va vm) (hg:W'.heap[g]? = W.heap[g]?) (hn:∀ k,vn.ownBlock=some k→W'.heap[k]? = W.heap[k]?) (ha:∀ k,va.ownBlock=some k→W'.heap[k]? = W.heap[k]?) (hm:∀ k,vm.ownBlock=some k→W'.heap[k]? = W.heap[k]?)
  (hb:∀ b ∈ nodes.flatMap Nd.blks,W'.heap[b]? = W.heap[b]?):P3 W' base g s L nl al ml nodes vn va vm :=
 ⟨hg.trans h.z,own_move h.n hn,own_move h.a ha,own_move h.m hm,fun x hx=>(h.ok x hx).move fun b hb'=>hb b (List.mem_flatMap.2 ⟨x,hx,hb'⟩),h.nd,h.sep⟩
theorem P3.below {base:Nat} {s:ByteArray} {L:Nat} {nl al ml nodes:List Nd} (h:P3 W base g s L nl al ml nodes vn va vm) (hb:Below W.heap.size W W'):P3 W' base g s L nl al ml nodes vn va vm :=
 h.move (hb.block _ (blk_lt h.z)) (fun k e=>hb.block k (h.n.lt k e).2) (fun k e=>hb.block k (h.a.lt k e).2) (fun k e=>hb.block k (h.m.lt k e).2) (fun b e=>hb.block b (h.lt b e))
theorem P3.row {base:Nat} {s:ByteArray} {L:Nat} {nl al ml nodes:List Nd} {v:Value} (h:P3 W base g s L nl al ml nodes vn va vm) (hg:W.grownBy W' v.ownBlock) (hv:∀ k,v.ownBlock=some k→Apt g vn va vm k∧k ∉ nodes.flatMap Nd.blks):P3 W' base g s L nl al ml nodes vn va vm :=
 h.move (hg.block _ (blk_lt h.z) (fun e=>(hv g e.symm).1.1 rfl)) (fun k e=>hg.block k (h.n.lt k e).2 (fun e'=>(hv k e'.symm).1.2.1 e)) (fun k e=>hg.block k (h.a.lt k e).2 (fun e'=>(hv k e'.symm).1.2.2.1 e)) (fun k e=>hg.block k (h.m.lt k e).2 (fun e'=>(hv k e'.symm).1.2.2.2 e)) (fun b e=>hg.block b (h.lt b e) (fun e'=>(hv b e'.symm).2 e))
theorem P3.add {base:Nat} {s:ByteArray} {L:Nat} {nl al ml nodes:List Nd} (h:P3 W base g s L nl al ml nodes vn va vm) (x:Nd) (hx:NOk W base L x) (hnd:x.blks.Nodup) (hdis:∀ b ∈ x.blks,b ∉ nodes.flatMap Nd.blks) (hsep:∀ b ∈ x.blks,Apt g vn va vm b):P3 W base g s L nl al ml (nodes ++ [x]) vn va vm:=by
 refine ⟨h.z,h.n,h.a,h.m,fun y hy=>?_,?_,fun b hb=>?_⟩
 ·rcases List.mem_append.1 hy with hy|hy
  ·exact h.ok y hy
  ·rw [List.mem_singleton.1 hy];exact hx
 ·rw [List.flatMap_append,List.nodup_append]
  refine ⟨h.nd,by simpa using hnd,fun b hb c hc e=>?_⟩
  subst e
  exact hdis b (by simpa using hc) hb
 ·rw [List.flatMap_append] at hb
  rcases List.mem_append.1 hb with hb|hb
  ·exact h.sep b hb
  ·exact hsep b (by simpa using hb)
theorem ne_of_own {v v':Value} (h:v.ownBlock=none∨v.ownBlock ≠ v'.ownBlock) {k:Nat} (hk:v.ownBlock=some k):v'.ownBlock ≠ some k:=by
 rcases h with h|h
 ·rw [h] at hk;cases hk
 ·rw [hk] at h;exact fun e=>h e.symm
theorem P3.grow_n {base:Nat} {s:ByteArray} {L:Nat} {nl al ml nodes:List Nd} (h:P3 W base g s L nl al ml nodes vn va vm) (x:Nd) (hown:W'.ownsRow base 65 3 vn' (nl.length+1) (nl.flatMap Nd.cells ++ x.cells)) (hg:W.grownBy W' vn.ownBlock) (hat:vn'.ownBlock=vn.ownBlock∨∃ b,vn'.ownBlock=some b∧W.heap.size≤b) :
  P3 (W'.setCell ⟨g,1,none⟩ vn') base g s L (nl ++ [x]) al ml nodes vn' va vm∧Step g W vn va vm (W'.setCell ⟨g,1,none⟩ vn') vn' va vm:=by
 have hgn:some g ≠ vn.ownBlock:=own_ne h.n h.z (by decide)
 have hz':W'.heap[g]? = _:=(hg.block g (blk_lt h.z) hgn).trans h.z
 have hgn':some g ≠ vn'.ownBlock:=own_ne hown hz' (by decide)
 have ha:W'.ownsRow base 59 1 va al.length _:=h.a.kept hg (own_type_ne h.a h.n (by decide))
 have ha':some g ≠ va.ownBlock:=own_ne h.a h.z (by decide)
 have hm:W'.ownsRow base 139 1 vm ml.length _:=h.m.kept hg (own_type_ne h.m h.n (by decide))
 have hm':some g ≠ vm.ownBlock:=own_ne h.m h.z (by decide)
 have hsep:∀ b,b < W.heap.size→Apt g vn va vm b→Apt g vn' va vm b:=fun b hlt hb'=>by
  refine ⟨hb'.1,?_,hb'.2.2.1,hb'.2.2.2⟩
  intro e
  rcases hat with h1|⟨b1,h1,h2⟩
  ·exact hb'.2.1 (h1.symm.trans e)
  ·rw [h1] at e;injection e with e;omega
 refine ⟨⟨blk_put hz' 1 _ (by simp),(by simpa [List.flatMap_append] using own_setCell hown hgn' vn'),own_setCell ha ha' _,own_setCell hm hm' _,fun y hy=>(h.ok y hy).move fun b hb=>?_,h.nd,fun b hb=>hsep b (h.lt b hb) (h.sep b hb)⟩,⟨by simpa using hg.size,fun k hk ha' => ?_,fun k e=>?_,fun k e => .inl e,fun k e => .inl e⟩⟩
 ·have hb2:=List.mem_flatMap.2 ⟨y,hy,hb⟩
  have hb':=h.sep b hb2
  exact (Below.heap_setCell W' _ _ b hb'.1).trans (hg.block b (h.lt b hb2) (fun e=>hb'.2.1 e.symm))
 ·have hb':=ha'
  exact (Below.heap_setCell W' _ _ k hb'.1).trans (hg.block k hk (fun e=>hb'.2.1 e.symm))
 ·rcases hat with h1|⟨b1,h1,h2⟩
  ·exact .inl (h1.symm.trans e)
  ·rw [h1] at e;injection e with e;exact .inr (by omega)
theorem P3.grow_a {base:Nat} {s:ByteArray} {L:Nat} {nl al ml nodes:List Nd} (h:P3 W base g s L nl al ml nodes vn va vm) (x:Nd) (hown:W'.ownsRow base 59 1 va' (al.length+1) (al.map Nd.av ++ [x.av])) (hg:W.grownBy W' va.ownBlock) (hat:va'.ownBlock=va.ownBlock∨∃ b,va'.ownBlock=some b∧W.heap.size≤b) :
  P3 (W'.setCell ⟨g,2,none⟩ va') base g s L nl (al ++ [x]) ml nodes vn va' vm∧Step g W vn va vm (W'.setCell ⟨g,2,none⟩ va') vn va' vm:=by
 have hgn:some g ≠ va.ownBlock:=own_ne h.a h.z (by decide)
 have hz':W'.heap[g]? = _:=(hg.block g (blk_lt h.z) hgn).trans h.z
 have hgn':some g ≠ va'.ownBlock:=own_ne hown hz' (by decide)
 have hn:W'.ownsRow base 65 3 vn nl.length _:=h.n.kept hg (own_type_ne h.n h.a (by decide))
 have hn':some g ≠ vn.ownBlock:=own_ne h.n h.z (by decide)
 have hm:W'.ownsRow base 139 1 vm ml.length _:=h.m.kept hg (own_type_ne h.m h.a (by decide))
 have hm':some g ≠ vm.ownBlock:=own_ne h.m h.z (by decide)
 have hsep:∀ b,b < W.heap.size→Apt g vn va vm b→Apt g vn va' vm b:=fun b hlt hb'=>by
  refine ⟨hb'.1,hb'.2.1,?_,hb'.2.2.2⟩
  intro e
  rcases hat with h1|⟨b1,h1,h2⟩
  ·exact hb'.2.2.1 (h1.symm.trans e)
  ·rw [h1] at e;injection e with e;omega
 refine ⟨⟨blk_put hz' 2 _ (by simp),own_setCell hn hn' _,(by simpa [List.map_append] using own_setCell hown hgn' va'),own_setCell hm hm' _,fun y hy=>(h.ok y hy).move fun b hb=>?_,h.nd,fun b hb=>hsep b (h.lt b hb) (h.sep b hb)⟩,⟨by simpa using hg.size,fun k hk ha' => ?_,fun k e => .inl e,fun k e=>?_,fun k e => .inl e⟩⟩
 ·have hb2:=List.mem_flatMap.2 ⟨y,hy,hb⟩
  have hb':=h.sep b hb2
  exact (Below.heap_setCell W' _ _ b hb'.1).trans (hg.block b (h.lt b hb2) (fun e=>hb'.2.2.1 e.symm))
 ·have hb':=ha'
  exact (Below.heap_setCell W' _ _ k hb'.1).trans (hg.block k hk (fun e=>hb'.2.2.1 e.symm))
 ·rcases hat with h1|⟨b1,h1,h2⟩
  ·exact .inl (h1.symm.trans e)
  ·rw [h1] at e;injection e with e;exact .inr (by omega)
theorem P3.grow_m {base:Nat} {s:ByteArray} {L:Nat} {nl al ml nodes:List Nd} (h:P3 W base g s L nl al ml nodes vn va vm) (x:Nd) (hown:W'.ownsRow base 139 1 vm' (ml.length+1) (ml.map (Nd.mv L) ++ [x.mv L])) (hg:W.grownBy W' vm.ownBlock) (hat:vm'.ownBlock=vm.ownBlock∨∃ b,vm'.ownBlock=some b∧W.heap.size≤b) :
  P3 (W'.setCell ⟨g,3,none⟩ vm') base g s L nl al (ml ++ [x]) nodes vn va vm'∧Step g W vn va vm (W'.setCell ⟨g,3,none⟩ vm') vn va vm':=by
 have hgn:some g ≠ vm.ownBlock:=own_ne h.m h.z (by decide)
 have hz':W'.heap[g]? = _:=(hg.block g (blk_lt h.z) hgn).trans h.z
 have hgn':some g ≠ vm'.ownBlock:=own_ne hown hz' (by decide)
 have hn:W'.ownsRow base 65 3 vn nl.length _:=h.n.kept hg (own_type_ne h.n h.m (by decide))
 have hn':some g ≠ vn.ownBlock:=own_ne h.n h.z (by decide)
 have ha:W'.ownsRow base 59 1 va al.length _:=h.a.kept hg (own_type_ne h.a h.m (by decide))
 have ha':some g ≠ va.ownBlock:=own_ne h.a h.z (by decide)
 have hsep:∀ b,b < W.heap.size→Apt g vn va vm b→Apt g vn va vm' b:=fun b hlt hb'=>by
  refine ⟨hb'.1,hb'.2.1,hb'.2.2.1,?_⟩
  intro e
  rcases hat with h1|⟨b1,h1,h2⟩
  ·exact hb'.2.2.2 (h1.symm.trans e)
  ·rw [h1] at e;injection e with e;omega
 refine ⟨⟨blk_put hz' 3 _ (by simp),own_setCell hn hn' _,own_setCell ha ha' _,(by simpa [List.map_append] using own_setCell hown hgn' vm'),fun y hy=>(h.ok y hy).move fun b hb=>?_,h.nd,fun b hb=>hsep b (h.lt b hb) (h.sep b hb)⟩,⟨by simpa using hg.size,fun k hk ha' => ?_,fun k e => .inl e,fun k e => .inl e,fun k e=>?_⟩⟩
 ·have hb2:=List.mem_flatMap.2 ⟨y,hy,hb⟩
  have hb':=h.sep b hb2
  exact (Below.heap_setCell W' _ _ b hb'.1).trans (hg.block b (h.lt b hb2) (fun e=>hb'.2.2.2 e.symm))
 ·have hb':=ha'
  exact (Below.heap_setCell W' _ _ k hb'.1).trans (hg.block k hk (fun e=>hb'.2.2.2 e.symm))
 ·rcases hat with h1|⟨b1,h1,h2⟩
  ·exact .inl (h1.symm.trans e)
  ·rw [h1] at e;injection e with e;exact .inr (by omega)
end
end Go.Proofs.YtffjfdoghofkdaaGreat.Ext
namespace Go.Proofs.YtffjfdoghofkdaaGreat.Ext
open Go Go.RowKit YtffjfdoghofkdaaGreatW.PrintWords YtffjfdoghofkdaaGreatW.PrintLast YtffjfdoghofkdaaGreat.A
def APost (w0 W:World) (g:Nat) (s:ByteArray) (L:Nat) (nodes:List Nd) (vn va vm:Value) (Q:Int→List Nd→Prop) (e:Ending) (W':World):Prop :=
 ∃ num n2 vn' va' vm',e = .returned (.int .i64 num)∧P3 W' w0.heap.size g s L (nodes ++ n2) (nodes ++ n2) (nodes ++ n2) (nodes ++ n2) vn' va' vm'∧Step g W vn va vm W' vn' va' vm'∧(∀ b ∈ n2.flatMap Nd.blks,W.heap.size≤b)∧Q num n2∧Below w0.heap.size w0 W'
theorem P3.fresh {W:World} {base g:Nat} {s:ByteArray} {L:Nat} {nl al ml nodes:List Nd} {vn va vm:Value} (h:P3 W base g s L nl al ml nodes vn va vm) {b:Nat} (hb:W.heap.size≤b):Apt g vn va vm b∧b ∉ nodes.flatMap Nd.blks :=
 ⟨⟨fun e=>by have:=blk_lt h.z;omega,fun e=>by have:=(h.n.lt b e).2;omega,fun e=>by have:=(h.a.lt b e).2;omega,fun e=>by have:=(h.m.lt b e).2;omega⟩,fun e=>by have:=h.lt b e;omega⟩
theorem own_empty {W:World} {base e:Nat} (hb:base≤W.heap.size):(W.alloc (.cells #[] e)).ownsRow base e 1 (.slice (some ⟨W.heap.size,0,none⟩) 0 0) 0 []:=World.ownsRow_made W #[] 0 hb (by decide) rfl
theorem inf3:(Tryz.prog.info? 3).map (fun i=>(i.zero,i.size,i.bytes))=some (some (.int .i64 0),1,8):=by kernel_rfl
theorem inf25:(Tryz.prog.info? 59).map (fun i=>(i.zero,i.size,i.bytes))=some (some (.slice none 0 0),1,24):=by kernel_rfl
theorem inf92:(Tryz.prog.info? 139).map (fun i=>(i.zero,i.size,i.bytes))=some (some (.slice none 0 0),1,24):=by kernel_rfl
theorem inf35:(Tryz.prog.info? 65).map (fun i=>(i.zero,i.size,i.bytes))=some (some (.agg #[.int .i64 0,.string ⟨#[]⟩,.slice none 0 0]),3,48):=by kernel_rfl
section
variable {P : Program} {ops : Array Oper} {rest : List Oper} {o : Oper} {a : Act} {Q : Exit → Act → World → Prop}
theorem make_event {W:World} (hgd:o.guard=none) {n:Nat} {cs:Array Value} {t:TypeId}
  (hrun:(execOp a.eval o).run P W = .ok (.value (.slice (some ⟨W.heap.size,0,none⟩) n n)) (W.alloc (.cells cs t (0,0))))
  (h:∀ b,b=W.heap.size→∀ w1,w1.heap[b]? = some (.cells cs t (0,0))→Below W.heap.size W w1→wpList P ops Q rest (a.put o.dst (.slice (some ⟨b,0,none⟩) n n)) w1):wpList P ops Q (o :: rest) a W :=
 Kd.event_run hgd hrun (h _ rfl _ (blk_new W _) (below_alloc (Below.refl _ _) _))
end
theorem made64 (m:Nat):madeCells #[Value.int .i64 0] m=(nums .i64 (List.replicate m 0)).toArray:=by
 simp only [madeCells,nums]
 apply Array.ext
 ·simp
 ·intro i h1 h2;simp [Nat.mod_one]
theorem last3 {W:World} {base e g n cap:Nat} {xs:List Value} {a b c:Value} (h:W.ownsRow base e 3 (.slice (some ⟨g,0,none⟩) (n+1) cap) (n+1) (xs ++ [a,b,c])) (hx:xs.length=n * 3) :
  W.cell? ⟨g,n * 3,none⟩=some a∧W.cell? ⟨g,n * 3+1,none⟩=some b∧W.cell? ⟨g,n * 3+2,none⟩=some c∧(∃ cur,W.heap[g]? = some (.cells cur e (0,0))) ∧
  ∀ a' b' c':Value,(((W.setCell ⟨g,n * 3,none⟩ a').setCell ⟨g,n * 3+1,none⟩ b').setCell ⟨g,n * 3+2,none⟩ c').ownsRow base e 3 (.slice (some ⟨g,0,none⟩) (n+1) cap) (n+1) (xs ++ [a',b',c']):=by
 have c_:∀ j u,(xs ++ [a,b,c])[j]? = some u→W.cell? ⟨g,j,none⟩=some u:=fun j u hu=>by
  have:=h.cells (g:=g) rfl j u hu
  rwa [add_plain] at this
 refine ⟨c_ _ _ (by simp [← hx]),c_ _ _ (by simp [← hx]),c_ _ _ (by simp [← hx]),own_typed h g rfl,fun a' b' c' => ?_⟩
 have h1:=(h.stored (n * 3) a').1
 have h2:=(h1.stored (n * 3+1) b').1
 have h3:=(h2.stored (n * 3+2) c').1
 have e1:(((xs ++ [a,b,c]).set (n * 3) a').set (n * 3+1) b').set (n * 3+2) c'=xs ++ [a',b',c']:=by
  rw [← hx]
  apply List.ext_getElem?
  intro j
  simp only [List.getElem?_set,List.getElem?_append,List.length_set,List.length_append,List.length_cons,List.length_nil]
  rcases Nat.lt_or_ge j xs.length with hj|hj
  ·simp [hj,show ¬ xs.length+2=j by omega,show ¬ xs.length+1=j by omega,show ¬ xs.length=j by omega]
  ·obtain ⟨d,rfl⟩:∃ d,j=xs.length+d:=⟨j - xs.length,by omega⟩
   match d with
   | 0=>simp
   | 1=>simp
   | 2=>simp
   | d+3=>simp
 rw [e1] at h3
 exact h3
theorem swap4 {W:World} {g g8:Nat} (hne:g ≠ g8) {cs:Array Value} {T:TypeId} (hg:W.heap[g]? = some (.cells cs T (0,0))) {cur:Array Value} {e:TypeId} (h8:W.heap[g8]? = some (.cells cur e (0,0))) (o o1 o2 o3:Nat) (u1 u2 u3 v:Value) (k:Nat) :
  ((((W.setCell ⟨g,o,none⟩ v).setCell ⟨g8,o1,none⟩ u1).setCell ⟨g8,o2,none⟩ u2).setCell ⟨g8,o3,none⟩ u3).heap[k]? = ((((W.setCell ⟨g8,o1,none⟩ u1).setCell ⟨g8,o2,none⟩ u2).setCell ⟨g8,o3,none⟩ u3).setCell ⟨g,o,none⟩ v).heap[k]?:=by
 by_cases h1:k=g
 ·subst h1
  rw [blk_far (blk_far (blk_far (blk_set hg o v) hne u1) hne u2) hne u3,blk_set (blk_far (blk_far (blk_far hg hne u1) hne u2) hne u3) o v]
 ·by_cases h2:k=g8
  ·subst h2
   have hne':=fun h=>hne (Eq.symm h)
   rw [blk_set (blk_set (blk_set (blk_far h8 hne' v) o1 u1) o2 u2) o3 u3,blk_far (blk_set (blk_set (blk_set h8 o1 u1) o2 u2) o3 u3) hne' v]
  ·have e1:∀ (w:World) (p:Addr) (u:Value),k ≠ p.block→(w.setCell p u).heap[k]? = w.heap[k]?:=fun w p u h=>Below.heap_setCell w p u k h
   rw [e1 _ _ _ h2,e1 _ _ _ h2,e1 _ _ _ h2,e1 _ _ _ h1,e1 _ _ _ h1,e1 _ _ _ h2,e1 _ _ _ h2,e1 _ _ _ h2]
theorem P3.congr {W W':World} {base g:Nat} {s:ByteArray} {L:Nat} {nl al ml nodes:List Nd} {vn va vm:Value} (h:P3 W base g s L nl al ml nodes vn va vm) (e:∀ k:Nat,W'.heap[k]? = W.heap[k]?):P3 W' base g s L nl al ml nodes vn va vm :=
 h.move (e _) (fun k _=>e k) (fun k _=>e k) (fun k _=>e k) (fun k _=>e k)
theorem grow_put3 {W W8:World} {un v8:Value} {g8:Nat} (hv:v8.ownBlock=some g8) (G8:W.grownBy W8 un.ownBlock) (T8:v8.ownBlock=un.ownBlock∨∃ b,v8.ownBlock=some b∧W.heap.size≤b) (o1 o2 o3:Nat) (u1 u2 u3:Value) :
  W.grownBy (((W8.setCell ⟨g8,o1,none⟩ u1).setCell ⟨g8,o2,none⟩ u2).setCell ⟨g8,o3,none⟩ u3) un.ownBlock:=by
 have h0:∀ k,k < W.heap.size→some k ≠ un.ownBlock→k ≠ g8:=fun k hk he e=>by
  subst e
  rcases T8 with h|⟨b,h,h2⟩
  ·exact he (hv.symm.trans h)
  ·rw [hv] at h;injection h with h;omega
 refine ⟨G8.os,G8.tape,G8.output,by simpa using G8.size,fun k hk he=>?_⟩
 have hne:=h0 k hk he
 rw [Below.heap_setCell _ _ _ k hne,Below.heap_setCell _ _ _ k hne,Below.heap_setCell _ _ _ k hne]
 exact G8.block k hk he
theorem Step.congr {g:Nat} {W W' W2:World} {vn va vm vn' va' vm':Value} (h:Step g W vn va vm W' vn' va' vm') (e:∀ k:Nat,W2.heap[k]? = W'.heap[k]?) (hs:W2.heap.size=W'.heap.size):Step g W vn va vm W2 vn' va' vm' :=
 ⟨hs ▸ h.sz,fun k hk ha=>(e k).trans (h.fr k hk ha),h.n,h.a,h.m⟩
theorem leaf_n {W W8 w0:World} {g:Nat} {s:ByteArray} {L:Nat} {nl al ml nodes:List Nd} {un ua um:Value} {g8 cap8 N:Nat} (x:Nd) (PA:P3 W w0.heap.size g s L nl al ml nodes un ua um) (hN:nl.length=N) (hb8:w0.heap.size≤g8) (hgb:w0.heap.size≤g) (u1 u2 u3:Value)
  (own:(((W8.setCell ⟨g8,N * 3,none⟩ u1).setCell ⟨g8,N * 3+1,none⟩ u2).setCell ⟨g8,N * 3+2,none⟩ u3).ownsRow w0.heap.size 65 3 (.slice (some ⟨g8,0,none⟩) (N+1) cap8) (N+1) (nl.flatMap Nd.cells ++ [u1,u2,u3])) (hx:x.cells = [u1,u2,u3]) (hne:g ≠ g8) {cur8:Array Value} (C8:W8.heap[g8]? = some (.cells cur8 65 (0,0))) {cs:Array Value} {T:TypeId} (H8:W8.heap[g]? = some (.cells cs T (0,0)))
  (G8:W.drew.grownBy W8 un.ownBlock) (T8:(Value.slice (some ⟨g8,0,none⟩) (N+1) cap8).ownBlock=un.ownBlock∨∃ b,(Value.slice (some ⟨g8,0,none⟩) (N+1) cap8).ownBlock=some b∧W.drew.heap.size≤b) (B8:Below w0.heap.size w0 W8) :
  (P3 ((((W8.setCell ⟨g8,N * 3,none⟩ u1).setCell ⟨g8,N * 3+1,none⟩ u2).setCell ⟨g8,N * 3+2,none⟩ u3).setCell ⟨g,1,none⟩ (.slice (some ⟨g8,0,none⟩) (N+1) cap8)) w0.heap.size g s L (nl ++ [x]) al ml nodes (.slice (some ⟨g8,0,none⟩) (N+1) cap8) ua um∧Step g W un ua um ((((W8.setCell ⟨g8,N * 3,none⟩ u1).setCell ⟨g8,N * 3+1,none⟩ u2).setCell ⟨g8,N * 3+2,none⟩ u3).setCell ⟨g,1,none⟩ (.slice (some ⟨g8,0,none⟩) (N+1) cap8)) (.slice (some ⟨g8,0,none⟩) (N+1) cap8) ua um∧Below w0.heap.size w0 ((((W8.setCell ⟨g8,N * 3,none⟩ u1).setCell ⟨g8,N * 3+1,none⟩ u2).setCell ⟨g8,N * 3+2,none⟩ u3).setCell ⟨g,1,none⟩ (.slice (some ⟨g8,0,none⟩) (N+1) cap8))) ∧
  (P3 ((((W8.setCell ⟨g,1,none⟩ (.slice (some ⟨g8,0,none⟩) (N+1) cap8)).setCell ⟨g8,N * 3,none⟩ u1).setCell ⟨g8,N * 3+1,none⟩ u2).setCell ⟨g8,N * 3+2,none⟩ u3) w0.heap.size g s L (nl ++ [x]) al ml nodes (.slice (some ⟨g8,0,none⟩) (N+1) cap8) ua um∧Step g W un ua um ((((W8.setCell ⟨g,1,none⟩ (.slice (some ⟨g8,0,none⟩) (N+1) cap8)).setCell ⟨g8,N * 3,none⟩ u1).setCell ⟨g8,N * 3+1,none⟩ u2).setCell ⟨g8,N * 3+2,none⟩ u3) (.slice (some ⟨g8,0,none⟩) (N+1) cap8) ua um∧Below w0.heap.size w0 ((((W8.setCell ⟨g,1,none⟩ (.slice (some ⟨g8,0,none⟩) (N+1) cap8)).setCell ⟨g8,N * 3,none⟩ u1).setCell ⟨g8,N * 3+1,none⟩ u2).setCell ⟨g8,N * 3+2,none⟩ u3)):=by
 have g1:=grow_put3 (v8:=.slice (some ⟨g8,0,none⟩) (N+1) cap8) rfl G8 T8 (N * 3) (N * 3+1) (N * 3+2) u1 u2 u3
 have r0:=(PA.congr (W':=W.drew) fun _=>rfl).grow_n x (by rw [hN,hx];exact own) g1 T8
 have r:=And.intro r0.1 (show Step g W un ua um _ _ ua um from ⟨r0.2.sz,r0.2.fr,r0.2.n,r0.2.a,r0.2.m⟩)
 have sw:=swap4 hne H8 C8 1 (N * 3) (N * 3+1) (N * 3+2) u1 u2 u3 (.slice (some ⟨g8,0,none⟩) (N+1) cap8)
 exact ⟨⟨r.1,r.2,(((B8.setCell hb8 _).setCell hb8 _).setCell hb8 _).setCell hgb _⟩,⟨r.1.congr sw,r.2.congr sw (by simp),(((B8.setCell hgb _).setCell hb8 _).setCell hb8 _).setCell hb8 _⟩⟩
theorem add_walk (w0:World) (g:Nat) (s:ByteArray) (L:Nat) (hsL:s.size+1=L) (hL:L≤401) (k:Int) (bs:ByteArray) (xs:List S65) (A:Option Addr) (c:Nat) (hC:Kd.C k65 w0 A xs.length xs) (hc:xs.length≤c) (hx2:xs.length≤2)
  (nodes:List Nd) (vn va vm:Value) (W:World) (hP:P3 W w0.heap.size g s L nodes nodes nodes nodes vn va vm) (hgb:w0.heap.size≤g) (hB:Below w0.heap.size w0 W)
  (E:Nat→List Int→List Nd→Prop) (hE0:E 0 [] []) (hEn:∀ kk ars nn,E kk ars nn→ars.length=kk∧nodes.length+nn.length≤1000)
  (hch:∀ (kk:Nat) (h:kk < xs.length) (ars:List Int) (nn:List Nd),E kk ars nn→∀ (A2:Option Addr) (c2:Nat) (un ua um:Value) (W':World),xs[kk].f2.length≤c2→Kd.C k65 w0 A2 xs[kk].f2.length xs[kk].f2→P3 W' w0.heap.size g s L (nodes ++ nn) (nodes ++ nn) (nodes ++ nn) (nodes ++ nn) un ua um→Below w0.heap.size w0 W' →
   Calls Tryz.prog 133 #[.pointer (some ⟨g,0,none⟩),.agg #[.int .i64 xs[kk].f0,.string xs[kk].f1,.slice A2 xs[kk].f2.length c2]] W' (APost w0 W' g s L (nodes ++ nn) un ua um (fun num n2=>E (kk+1) (ars ++ [num]) (nn ++ n2)))) :
  Calls Tryz.prog 133 #[.pointer (some ⟨g,0,none⟩),.agg #[.int .i64 k,.string bs,.slice A xs.length c]] W (APost w0 W g s L nodes vn va vm (fun num n2=>∃ ars nn x,n2=nn ++ [x]∧num=((nodes.length+nn.length:Nat):Int)∧E xs.length ars nn∧x.k=k∧x.l=bs∧x.ars=ars)):=by
 subst hsL
 have HC:=zk hC
 have HP:=zk hP
 have HB:=zk hB
 have HE0:=zk hE0
 have HB0:=zk hB
 have HEn:=zk hEn
 have HCH:=zk hch
 clear hC hP hB hE0 hEn hch
 go_enter Tryz.func133,Tryz.ntmps133
 go_wp2_with (first
  | ((with_reducible refine gate_dst (N:=3) rfl ?_);refine zE (N:=3) (cs:=#[.int .i64 k,.string bs,.slice A xs.length c]) (t:=65) ?_;intro gx hgx w3 hbox hb3;have X3:=zk hbox;have P3':=zk (HP.out.below hb3);have B3:=zk (below_step HB.out hb3);have S3:=zk (Step.below (g:=g) (vn:=vn) (va:=va) (vm:=vm) hb3);have G3:=zk (show W.heap.size≤gx by omega);clear hb3 hbox hgx))
 have R3:=zk (own_empty (W:=w3) (base:=w0.heap.size) (e:=3) B3.out.size)
 have Q3:Aside0 (∀ b,(Value.slice (some ⟨w3.heap.size,0,none⟩) 0 0).ownBlock=some b→W.heap.size≤b∧Apt g vn va vm b∧b ∉ (nodes ++ []).flatMap Nd.blks):=⟨fun b hb=>by
  obtain rfl:w3.heap.size=b:=by simpa [Value.ownBlock] using hb
  have:=P3'.out.fresh (Nat.le_refl w3.heap.size)
  exact ⟨S3.out.sz,this.1,by simpa using this.2⟩⟩
 have hb4:=below_alloc (Below.refl w3.heap.size w3) (.cells #[] 3)
 have P4:=zk (P3'.out.below hb4)
 have B4:=zk (below_step B3.out hb4)
 have S4:=zk (S3.out.trans (Step.below hb4))
 have X4:=zk (blk_below X3.out hb4)
 have A4:=zk (HP.out.fresh G3.out).1
 clear X3 P3' B3 S3 hb4
 generalize w3.alloc (.cells #[] 3)=w4 at *
 generalize (Value.slice (some ⟨w3.heap.size,0,none⟩) 0 0)=v4 at *
 go_loopg [5,6] xs.length (fun kq v5 v6 w'=>∃ (kk:Nat) (ars:List Int) (nn:List Nd) (un ua um:Value),v6 = .int .i64 (kk:Int)∧Aside0 (kk+kq=xs.length)∧Aside0 (E kk ars nn)∧Aside0 (w'.ownsRow w0.heap.size 3 1 v5 ars.length (nums .i64 ars))∧Aside0 (∀ b,v5.ownBlock=some b→W.heap.size≤b∧Apt g un ua um b∧b ∉ (nodes ++ nn).flatMap Nd.blks)∧Aside0 (P3 w' w0.heap.size g s (s.size+1) (nodes ++ nn) (nodes ++ nn) (nodes ++ nn) (nodes ++ nn) un ua um)∧Aside0 (Step g W vn va vm w' un ua um)∧Aside0 (∀ b ∈ nn.flatMap Nd.blks,W.heap.size≤b)∧Aside0 (w'.heap[gx]? = some (.cells #[.int .i64 k,.string bs,.slice A xs.length c] 65 (0,0)))∧Aside0 (Apt g un ua um gx)∧Aside0 (Below w0.heap.size w0 w'))
 case atStart=>exact ⟨0,[],[],vn,va,vm,rfl,⟨by omega⟩,HE0,R3,Q3,by simpa using P4,S4,⟨by simp⟩,X4,A4,B4⟩
 case round =>
  clear R3 Q3 P4 S4 X4 A4 B4 HP HB HE0
  obtain ⟨kk,ars,nn,un,ua,um,rfl,HK,HE,HR,HQ,HP,HS,HF,HX,HA,HB⟩:=hrel
  obtain ⟨y0,y1,y2,g0,g1,g2⟩:=blk3 HX.out
  by_cases hlt:kk < xs.length
  ·obtain ⟨ad,A2,c2,hA,e0,e1,e2,h3,h4⟩:=arg_at HC.out HB.out kk hlt
   have CH:=zk (HCH.out kk hlt ars nn HE.out A2 c2 un ua um wr h3 h4 HP.out HB.out)
   have hl9:=HEn.out kk ars nn HE.out
   have HL9:=zk hl9
   have HLT:=zk hlt
   have hd:decide (kk < xs.length)=true:=decide_eq_true hlt
   have q1:=eq_true hlt
   have hk9:kk≤2:=by omega
   generalize hxk:xs[kk]=xk at *
   subst hA
   clear hlt h3 h4 hl9 hxk
   cases gk with
   | zero=>exact absurd HK.out (by have:=HLT.out;omega)
   | succ k1 =>
    go_wp2_with (first
     | (go_at_call 133;(with_reducible refine CH.out.mono ?_);rintro e w7 ⟨num,n2,un2,ua2,um2,rfl,P7,S7,F7,E7,B7⟩;have P7':=zk P7;have F7':=zk F7;have E7':=zk E7;have S7':=zk (HS.out.trans S7);have R7:=zk (own_move HR.out fun b hb=>S7.fr b (HR.out.lt b hb).2 (HQ.out b hb).2.1);have Q7:Aside0 (∀ b,u5.ownBlock=some b→W.heap.size≤b∧Apt g un2 ua2 um2 b∧b ∉ (nodes ++ nn ++ n2).flatMap Nd.blks):=⟨fun b hb=>⟨(HQ.out b hb).1,S7.apt (HR.out.lt b hb).2 (HQ.out b hb).2.1,fun h=>by rw [List.flatMap_append] at h;rcases List.mem_append.1 h with h|h;exact (HQ.out b hb).2.2 h;have:=F7 b h;have:=(HR.out.lt b hb).2;omega⟩⟩;have X7:=zk ((S7.fr gx (blk_lt HX.out) HA.out).trans HX.out);have A7:=zk (S7.apt (blk_lt HX.out) HA.out);have B7':=zk B7;have Z7:=zk S7.sz;clear P7 S7 F7 E7 B7 y0 y1 y2 g0 g1 g2 e0 e1 e2)
     | (at_builtin;refine print_append_cells (w0:=w0) w0.heap.size rfl (.tmp 17) (.tmp 25) 59 3 (.int .i64 0) 1 8 rfl Tryz.underlying59 inf3 rfl (by decide) (by decide) u5 ars.length (nums .i64 ars) [.int .i64 num] rfl rfl rfl (by intro u hu;rw [List.mem_singleton.1 hu];rfl) R7.out B7'.out (B7'.out.size) (by have:=HL9.out;omega) ?_;intro v8 w8 hown8 hb8 hg8 hat8;have R8:Aside0 (w8.ownsRow w0.heap.size 3 1 v8 (ars ++ [num]).length (nums .i64 (ars ++ [num]))):=⟨by rw [nums_append,List.length_append];exact hown8⟩;have P8:=zk (P7'.out.row hg8 fun b hb=>(Q7.out b hb).2);have S8:=zk (Step.row hg8 (fun b hb=>(Q7.out b hb).1) S7'.out);have Q8:Aside0 (∀ b,v8.ownBlock=some b→W.heap.size≤b∧Apt g un2 ua2 um2 b∧b ∉ (nodes ++ nn ++ n2).flatMap Nd.blks):=⟨fun b hb=>by rcases hat8 with h|⟨b1,h,h2⟩;exact Q7.out b (h.symm.trans hb);rw [h] at hb;injection hb with hb;subst hb;exact ⟨Nat.le_trans S7'.out.sz h2,P7'.out.fresh h2⟩⟩;have X8:=zk (blk_grown X7.out hg8 (own_ne R7.out X7.out (by decide)));have B8:=zk hb8;clear hown8 hb8 hg8 hat8))
    go_roundg k1
    case measure=>omega
    case rel=>exact ⟨kk+1,ars ++ [num],nn ++ n2,un2,ua2,um2,za42,⟨by have:=HK.out;omega⟩,E7',R8,⟨by rw [← List.append_assoc];exact Q8.out⟩,⟨by rw [← List.append_assoc];exact P8.out⟩,S8,⟨fun b hb=>by
     rw [List.flatMap_append] at hb
     rcases List.mem_append.1 hb with hb|hb
     ·exact HF.out b hb
     ·exact Nat.le_trans HS.out.sz (F7'.out b hb)⟩,X8,A7,B8⟩
  ·have hkk:kk=xs.length:=by have:=HK.out;omega
   subst hkk
   have hd:decide (xs.length < xs.length)=false:=by simp
   clear hlt HCH
   go_wp2
   have hb4:=below_alloc (Below.refl wr.heap.size wr) (.cells #[] 59)
   have R4:=zk (own_empty (W:=wr) (base:=w0.heap.size) (e:=59) HB.out.size)
   have Q4:Aside0 (∀ b,(Value.slice (some ⟨wr.heap.size,0,none⟩) 0 0).ownBlock=some b→W.heap.size≤b∧Apt g un ua um b∧b ∉ (nodes ++ nn).flatMap Nd.blks∧u5.ownBlock ≠ some b):=⟨fun b hb=>by
    obtain rfl:wr.heap.size=b:=by simpa [Value.ownBlock] using hb
    have:=HP.out.fresh (Nat.le_refl wr.heap.size)
    exact ⟨HS.out.sz,this.1,this.2,fun e=>by have:=(HR.out.lt _ e).2;omega⟩⟩
   have P4:=zk (HP.out.below hb4)
   have B4:=zk (below_step HB.out hb4)
   have S4:=zk (HS.out.trans (Step.below hb4))
   have X4:=zk (blk_below HX.out hb4)
   have R5:=zk (HR.out.alloc (.cells #[] 59))
   clear HP HB HS HX HR hb4 y0 y1 y2 g0 g1 g2
   generalize wr.alloc (.cells #[] 59)=w4 at *
   generalize (Value.slice (some ⟨wr.heap.size,0,none⟩) 0 0)=v4 at *
   go_loopg [7,8] (s.size+1) (fun kq v7 v8 w'=>∃ (ii:Nat) (rows:List Nat),v8 = .int .i64 (ii:Int)∧Aside0 (ii+kq=s.size+1)∧Aside0 (rows.length=ii)∧Aside0 (w'.ownsRow w0.heap.size 59 1 v7 ii (rows.map fun b => .slice (some ⟨b,0,none⟩) (s.size+1) (s.size+1)))∧Aside0 (∀ b,v7.ownBlock=some b→W.heap.size≤b∧Apt g un ua um b∧b ∉ (nodes ++ nn).flatMap Nd.blks∧u5.ownBlock ≠ some b)∧Aside0 (∀ b ∈ rows,(W.heap.size≤b∧Apt g un ua um b∧b ∉ (nodes ++ nn).flatMap Nd.blks∧u5.ownBlock ≠ some b)∧w'.heap[b]? = some (.cells (nums .i64 (List.replicate (s.size+1) 0)).toArray 3 (0,0)))∧Aside0 rows.Nodup∧Aside0 (P3 w' w0.heap.size g s (s.size+1) (nodes ++ nn) (nodes ++ nn) (nodes ++ nn) (nodes ++ nn) un ua um)∧Aside0 (Step g W vn va vm w' un ua um)∧Aside0 (w'.ownsRow w0.heap.size 3 1 u5 ars.length (nums .i64 ars))∧Aside0 (w'.heap[gx]? = some (.cells #[.int .i64 k,.string bs,.slice A xs.length c] 65 (0,0)))∧Aside0 (Below w0.heap.size w0 w'))
   case atStart=>exact ⟨0,[],rfl,⟨by omega⟩,⟨rfl⟩,R4,Q4,⟨by simp⟩,⟨by simp⟩,P4,S4,R5,X4,B4⟩
   case round =>
    clear R4 Q4 P4 S4 R5 X4 B4
    obtain ⟨ii,rows,rfl,HI,HL,HR,HQ2,HW,HD,HP,HS,HR5,HX,HB⟩:=hrel
    obtain ⟨z0,z1,z2,z3,f0,f1,f2,f3⟩:=blk4 HP.out.z
    by_cases hle:ii≤s.size
    ·have hd2:decide (ii≤s.size)=true:=decide_eq_true hle
     have HLE:=zk hle
     have hi9:ii≤401:=by omega
     clear hle
     have hs9:s.size≤400:=by omega
     have hmk:∀ W:World,(Instr.makeSlice 59 (.int .i64 ((s.size:Int)+1)) (.int .i64 ((s.size:Int)+1))).run Tryz.prog W = .ok (.slice (some ⟨W.heap.size,0,none⟩) (s.size+1) (s.size+1)) (W.alloc (.cells (nums .i64 (List.replicate (s.size+1) 0)).toArray 3)):=fun W=>by
      have:=print_make_int (P:=Tryz.prog) 59 3 (.int .i64 0) 8 Tryz.underlying59 inf3 rfl (by decide) ((s.size+1:Nat):Int) (by omega) (by simp only [Int.toNat_natCast];omega) W
      rw [made64] at this
      simp only [Int.toNat_natCast] at this
      rw [show ((s.size+1:Nat):Int)=(s.size:Int)+1 by omega] at this
      exact this
     cases gk with
     | zero=>exact absurd HI.out (by have:=HLE.out;omega)
     | succ k2 =>
      go_wp2_with (first
       | ((with_reducible refine gate_dst (N:=44) rfl ?_);refine make_event ?hg (n:=s.size+1) (cs:=(nums .i64 (List.replicate (s.size+1) 0)).toArray) (t:=3) ?hr ?_;(case hg=>rfl);(case hr=>first|(go_simp;done)|(go_simp;rfl));intro b hbe w7 hb7 hbb;have N7:=zk hb7;have R7:=zk (pw_own_below HR.out hbb);have M7:Aside0 (W.heap.size≤b∧Apt g un ua um b∧b ∉ (nodes ++ nn).flatMap Nd.blks∧u5.ownBlock ≠ some b):=⟨by rw [hbe];exact ⟨HS.out.sz,(HP.out.fresh (Nat.le_refl _)).1,(HP.out.fresh (Nat.le_refl _)).2,fun e=>by have:=(HR5.out.lt _ e).2;omega⟩⟩;have NN:Aside0 (b ∉ rows):=⟨fun h=>by have:=blk_lt (HW.out b h).2;omega⟩;have W7:Aside0 (∀ b ∈ rows,(W.heap.size≤b∧Apt g un ua um b∧b ∉ (nodes ++ nn).flatMap Nd.blks∧u5.ownBlock ≠ some b)∧w7.heap[b]? = some (.cells (nums .i64 (List.replicate (s.size+1) 0)).toArray 3 (0,0))):=⟨fun q hq=>⟨(HW.out q hq).1,blk_below (HW.out q hq).2 hbb⟩⟩;have P7:=zk (HP.out.below hbb);have S7:=zk (HS.out.trans (Step.below hbb));have RR7:=zk (pw_own_below HR5.out hbb);have X7:=zk (blk_below HX.out hbb);have B7:=zk (below_step HB.out hbb);clear hbe hb7 hbb z0 z1 z2 z3 f0 f1 f2 f3)
       | (at_builtin;refine print_append_cells (w0:=w0) w0.heap.size rfl (.tmp 37) (.tmp 45) 139 59 (.slice none 0 0) 1 24 rfl Tryz.underlying139 inf25 rfl (by decide) (by decide) u7 ii (rows.map fun b => .slice (some ⟨b,0,none⟩) (s.size+1) (s.size+1)) [.slice (some ⟨b,0,none⟩) (s.size+1) (s.size+1)] rfl rfl rfl (by intro u hu;rw [List.mem_singleton.1 hu];rfl) R7.out B7.out B7.out.size (by have:=HLE.out;omega) ?_;intro v8 w8 hown8 hb8 hg8 hat8;have hne:∀ q e n' vv ys,w7.ownsRow w0.heap.size e n' vv q ys→e ≠ 59→vv.ownBlock=none∨vv.ownBlock ≠ u7.ownBlock:=fun q e n' vv ys h he=>own_type_ne h R7.out he;have R8:=zk hown8;have P8:=zk (P7.out.row hg8 fun q hq=>⟨(HQ2.out q hq).2.1,(HQ2.out q hq).2.2.1⟩);have S8:=zk (Step.row hg8 (fun q hq=>(HQ2.out q hq).1) S7.out);have RR8:=zk (RR7.out.kept hg8 (hne _ _ _ _ _ RR7.out (by decide)));have X8:=zk (blk_grown X7.out hg8 (own_ne R7.out X7.out (by decide)));have B8:=zk hb8;have Q8:Aside0 (∀ b,v8.ownBlock=some b→W.heap.size≤b∧Apt g un ua um b∧b ∉ (nodes ++ nn).flatMap Nd.blks∧u5.ownBlock ≠ some b):=⟨fun q hq=>by rcases hat8 with h|⟨b1,h,h2⟩;exact HQ2.out q (h.symm.trans hq);rw [h] at hq;injection hq with hq;subst hq;exact ⟨Nat.le_trans S7.out.sz h2,(P7.out.fresh h2).1,(P7.out.fresh h2).2,fun e=>by have:=(RR7.out.lt _ e).2;omega⟩⟩;have W8:Aside0 (∀ q ∈ rows ++ [b],(W.heap.size≤q∧Apt g un ua um q∧q ∉ (nodes ++ nn).flatMap Nd.blks∧u5.ownBlock ≠ some q)∧w8.heap[q]? = some (.cells (nums .i64 (List.replicate (s.size+1) 0)).toArray 3 (0,0))):=⟨fun q hq=>by rcases List.mem_append.1 hq with hq|hq;exact ⟨(W7.out q hq).1,blk_grown (W7.out q hq).2 hg8 (own_ne R7.out (W7.out q hq).2 (by decide))⟩;rw [List.mem_singleton.1 hq];exact ⟨M7.out,blk_grown N7.out hg8 (own_ne R7.out N7.out (by decide))⟩⟩;clear hown8 hb8 hg8 hat8 hne))
      clear hmk
      go_roundg k2
      case measure=>omega
      case rel=>exact ⟨ii+1,rows ++ [b],za42,⟨by have:=HI.out;omega⟩,⟨by rw [List.length_append,HL.out];rfl⟩,⟨by rw [List.map_append];exact R8.out⟩,Q8,W8,⟨by
       rw [List.nodup_append]
       refine ⟨HD.out,by simp,fun x hx y hy e=>?_⟩
       rw [List.mem_singleton.1 hy] at e
       subst e
       exact NN.out hx⟩,P8,S8,RR8,X8,B8⟩
    ·have hie:ii=s.size+1:=by have:=HI.out;omega
     have hd2:decide (ii≤s.size)=false:=decide_eq_false hle
     subst hie
     clear hle
     obtain ⟨aA,ac,hu5⟩:=own_slice HR5.out
     obtain ⟨tb,tc,hu7,_,_⟩:=HR.out.form (by omega)
     subst hu5 hu7
     have hsep:∀ b,W.heap.size≤b∧Apt g un ua um b∧b ∉ (nodes ++ nn).flatMap Nd.blks∧(Value.slice aA ars.length ac).ownBlock ≠ some b→Apt g un ua um b∧b ∉ (nodes ++ nn).flatMap Nd.blks∧W.heap.size≤b:=fun b h=>⟨h.2.1,h.2.2.1,h.1⟩
     obtain ⟨x,hx⟩:∃ x:Nd,x=⟨k,bs,.slice A xs.length c,ars,aA,ac,tb,tc,rows⟩:=⟨_,rfl⟩
     have hxb:∀ b ∈ x.blks,Apt g un ua um b∧b ∉ (nodes ++ nn).flatMap Nd.blks∧W.heap.size≤b:=fun b hb=>by
      subst hx
      simp only [Nd.blks,List.mem_append,List.mem_cons,Option.mem_toList] at hb
      rcases hb with hb|rfl|hb
      ·have:=HQ.out b hb;exact ⟨this.2.1,this.2.2,this.1⟩
      ·exact hsep _ (HQ2.out _ rfl)
      ·exact hsep _ (HW.out _ hb).1
     have hxn:x.blks.Nodup:=by
      subst hx
      simp only [Nd.blks]
      rw [List.nodup_append]
      refine ⟨by cases aA <;> simp [Nd.av,Value.ownBlock],?_,?_⟩
      ·rw [List.nodup_cons]
       exact ⟨fun h=>own_ne HR.out (HW.out _ h).2 (by decide) rfl,HD.out⟩
      ·intro p hp q hq e
       subst e
       have hp':(Value.slice aA ars.length ac).ownBlock=some p:=by simpa [Nd.av] using hp
       rcases List.mem_cons.1 hq with h|h
       ·subst h;exact (HQ2.out _ rfl).2.2.2 hp'
       ·exact (HW.out _ h).1.2.2.2 hp'
     have hxo:NOk wr w0.heap.size (s.size+1) x:=by
      subst hx
      exact ⟨HR5.out,HR.out,HL.out,fun b hb=>⟨Nat.le_trans (Nat.le_trans HB0.out.size (Nat.le_refl _)) (HW.out b hb).1.1,(HW.out b hb).2⟩⟩
     have PA:=zk (HP.out.add x hxo hxn (fun b hb=>(hxb b hb).2.1) (fun b hb=>(hxb b hb).1))
     have HXB:=zk (fun b (hb:b ∈ x.blks)=>(hxb b hb).2.2)
     have HXE:=zk hx
     clear hsep hxb hxn hxo hx HQ2 HW HD HQ HP HR HR5 HL
     have hl9:=(HEn.out xs.length ars nn HE.out).2
     go_upto_region 11 with (fail)
     go_cut [] (fun wc=>∃ un2,Aside0 (P3 wc w0.heap.size g s (s.size+1) (nodes ++ nn ++ [x]) (nodes ++ nn) (nodes ++ nn) (nodes ++ nn ++ [x]) un2 ua um)∧Aside0 (Step g W vn va vm wc un2 ua um)∧Aside0 (Below w0.heap.size w0 wc))
     case first =>
      obtain ⟨y0,y1,y2,g0,g1,g2⟩:=blk3 HX.out
      obtain ⟨N,hN⟩:∃ N,(nodes ++ nn).length=N:=⟨_,rfl⟩
      have PN:wr.ownsRow w0.heap.size 65 3 un N ((nodes ++ nn).flatMap Nd.cells):=by rw [← hN];exact PA.out.n
      have hN9:N≤1000:=by rw [← hN,List.length_append];omega
      have HNN:=zk hN
      clear hN hl9
      obtain ⟨Aun,cun,hun⟩:=own_slice PN
      subst hun
      obtain ⟨z0,z1,z2,z3,f0,f1,f2,f3⟩:=blk4 PA.out.z
      have l1:gx < wr.heap.size:=blk_lt HX.out
      have l2:g < wr.heap.size:=blk_lt PA.out.z
      have HN11:=zk PN
      have qN:((N:Int) < (N:Int)+1)=True:=eq_true (by omega)
      clear PN
      go_region_law (refine step_append_cells (W:=wr.drew) (w0:=w0) w0.heap.size rfl (.tmp 50) (.tmp 53) 63 65 (.agg #[.int .i64 0,.string ⟨#[]⟩,.slice none 0 0]) 3 48 rfl Tryz.underlying63 inf35 rfl (by decide) (by decide) (.slice Aun N cun) N ((nodes ++ nn).flatMap Nd.cells) [.int .i64 0,.string ⟨#[]⟩,.slice none 0 0] rfl rfl rfl (by intro u hu;simp at hu;rcases hu with rfl|rfl|rfl <;> rfl) HN11.out (below_drew HB.out) HB.out.size (by omega) ?_;intro v8 w8 hown8 hb8 hg8 hat8;obtain ⟨g8,cap8,hv8,L8,_⟩:=hown8.form (by omega);subst hv8;obtain ⟨p0,p1,p2,⟨cur8,hc8⟩,hst8⟩:=last3 hown8 HN11.out.1;have hg8':w8.heap[g]? = _:=(hg8.block g l2 (own_ne HN11.out PA.out.z (by decide))).trans PA.out.z;have hne8:g ≠ g8:=blk_ne hg8' hc8 (by decide);have r0:=blk_frozen hc8 (N * 3);have r1:=blk_frozen hc8 (N * 3+1);have r2:=blk_frozen hc8 (N * 3+2);clear z0 z1 z2 z3 f0 f1 f2 f3 y0 y1 y2 g0 g1 g2;obtain ⟨z0,z1,z2,z3,f0,f1,f2,f3⟩:=blk4 hg8';have O8:=zk hown8;have B8:=zk hb8;have G8:=zk hg8;have T8:=zk hat8;have C8:=zk hc8;have H8:=zk hg8';have S8:=zk hst8;clear hown8 hb8 hg8 hat8 hc8 hg8' hst8)
      all_goals (
       try go_wp2
       go_meet
       case rel =>
        have r:=leaf_n x PA.out HNN.out L8 hgb _ _ _ (S8.out (.int .i64 k) (.string bs) (.slice A xs.length c)) (by rw [HXE.out];rfl) hne8 C8.out H8.out G8.out T8.out B8.out
        first
         | exact ⟨_,⟨r.1.1⟩,⟨HS.out.trans r.1.2.1⟩,⟨r.1.2.2⟩⟩
         | exact ⟨_,⟨r.2.1⟩,⟨HS.out.trans r.2.2.1⟩,⟨r.2.2.2⟩⟩)
     case rest =>
      clear z0 z1 z2 z3 f0 f1 f2 f3 PA HS HB
      obtain ⟨un2,PB,SB,BB⟩:=hcut
      obtain ⟨N,hN⟩:∃ N,(nodes ++ nn).length=N:=⟨_,rfl⟩
      have hN9:N≤1000:=by rw [← hN,List.length_append];omega
      have HNN:=zk hN
      have PBA:wc.ownsRow w0.heap.size 59 1 ua N ((nodes ++ nn).map Nd.av):=by rw [← hN];exact PB.out.a
      replace PBA:=zk PBA
      clear hN hl9
      obtain ⟨Aua,cua,hua⟩:=own_slice PBA.out
      subst hua
      obtain ⟨z0,z1,z2,z3,f0,f1,f2,f3⟩:=blk4 PB.out.z
      go_upto_region 13 with (first
       | (at_builtin;refine print_append_cells (w0:=w0) w0.heap.size rfl (.tmp 62) (.tmp 64) 139 59 (.slice none 0 0) 1 24 rfl Tryz.underlying139 inf25 rfl (by decide) (by decide) (.slice Aua N cua) N ((nodes ++ nn).map Nd.av) [(.slice aA ars.length ac)] rfl rfl rfl (by intro u hu;rw [List.mem_singleton.1 hu];rfl) PBA.out BB.out BB.out.size (by omega) ?_;intro va8 w8 hown8 hb8 hg8 hat8;obtain ⟨Ava8,cva8,hv8⟩:=own_slice hown8;subst hv8;have G8:=zk (PB.out.grow_a x (by rw [HNN.out,HXE.out];exact hown8) hg8 hat8);have B8:=zk hb8;have hg8':=(hg8.block g (blk_lt PB.out.z) (own_ne PBA.out PB.out.z (by decide))).trans PB.out.z;clear z0 z1 z2 z3 f0 f1 f2 f3;obtain ⟨z0,z1,z2,z3,f0,f1,f2,f3⟩:=blk4 hg8';clear hg8' hown8 hb8 hg8 hat8))
      have PC:=zk G8.out.1
      have SC:=zk (SB.out.trans G8.out.2)
      have BC:=zk (show Below w0.heap.size w0 (w8.setCell ⟨g,2,none⟩ (.slice Ava8 (N+1) cva8)) from B8.out.setCell hgb _)
      clear z0 z1 z2 z3 f0 f1 f2 f3 G8 B8 PB SB BB PBA
      generalize w8.setCell ⟨g,2,none⟩ (.slice Ava8 (N+1) cva8)=w9 at *
      have PCM:w9.ownsRow w0.heap.size 139 1 um N ((nodes ++ nn).map (Nd.mv (s.size+1))):=by rw [← HNN.out];exact PC.out.m
      replace PCM:=zk PCM
      obtain ⟨Aum,cum,hum⟩:=own_slice PCM.out
      subst hum
      obtain ⟨z0,z1,z2,z3,f0,f1,f2,f3⟩:=blk4 PC.out.z
      go_upto_region 14 with (first
       | (at_builtin;refine print_append_cells (w0:=w0) w0.heap.size rfl (.tmp 72) (.tmp 74) 140 139 (.slice none 0 0) 1 24 rfl Tryz.underlying140 inf92 rfl (by decide) (by decide) (.slice Aum N cum) N ((nodes ++ nn).map (Nd.mv (s.size+1))) [(.slice (some ⟨tb,0,none⟩) (s.size+1) tc)] rfl rfl rfl (by intro u hu;rw [List.mem_singleton.1 hu];rfl) PCM.out BC.out BC.out.size (by omega) ?_;intro vm8 w8 hown8 hb8 hg8 hat8;obtain ⟨Avm8,cvm8,hv8⟩:=own_slice hown8;subst hv8;have G8:=zk (PC.out.grow_m x (by rw [HNN.out,HXE.out];exact hown8) hg8 hat8);have B8:=zk hb8;have hg8':=(hg8.block g (blk_lt PC.out.z) (own_ne PCM.out PC.out.z (by decide))).trans PC.out.z;clear z0 z1 z2 z3 f0 f1 f2 f3;obtain ⟨z0,z1,z2,z3,f0,f1,f2,f3⟩:=blk4 hg8';clear hg8' hown8 hb8 hg8 hat8))
      have PD:=zk G8.out.1
      have SD:=zk (SC.out.trans G8.out.2)
      have BD:=zk (show Below w0.heap.size w0 (w8.setCell ⟨g,3,none⟩ (.slice Avm8 (N+1) cvm8)) from B8.out.setCell hgb _)
      clear z0 z1 z2 z3 f0 f1 f2 f3 G8 B8 PC SC BC PCM
      generalize w8.setCell ⟨g,3,none⟩ (.slice Avm8 (N+1) cvm8)=w9 at *
      have PDN:w9.ownsRow w0.heap.size 65 3 un2 (N+1) ((nodes ++ nn ++ [x]).flatMap Nd.cells):=by rw [show N+1=(nodes ++ nn ++ [x]).length by rw [List.length_append,HNN.out];rfl];exact PD.out.n
      replace PDN:=zk PDN
      obtain ⟨Aun,cun,hun⟩:=own_slice PDN.out
      subst hun
      obtain ⟨z0,z1,z2,z3,f0,f1,f2,f3⟩:=blk4 PD.out.z
      go_wp2
      go_ret
      refine ⟨(N:Int),nn ++ [x],_,_,_,za42,by rw [← List.append_assoc];exact PD.out,SD.out,?_,⟨ars,nn,x,rfl,by rw [← HNN.out,List.length_append],HE.out,?_,?_,?_⟩,BD.out⟩
      ·intro b hb
       rw [List.flatMap_append] at hb
       rcases List.mem_append.1 hb with hb|hb
       ·exact HF.out b hb
       ·exact HXB.out b (by simpa using hb)
      all_goals rw [HXE.out]
def Nf:Rx→Nat→List Nd→Prop
 | .none,_,nn=>∃ x:Nd,nn = [x]∧x.k=1∧x.ars = []
 | .empty,_,nn=>∃ x:Nd,nn = [x]∧x.k=2∧x.ars = []
 | .any,_,nn=>∃ x:Nd,nn = [x]∧x.k=4∧x.ars = []
 | .letter b,_,nn=>∃ x:Nd,nn = [x]∧x.k=3∧x.l=b∧x.ars = []
 | .not t,p,nn=>∃ (n1:List Nd) (x:Nd),nn=n1 ++ [x]∧Nf t p n1∧x.k=9∧x.ars = [((p+t.size - 1:Nat):Int)]
 | .star t,p,nn=>∃ (n1:List Nd) (x:Nd),nn=n1 ++ [x]∧Nf t p n1∧x.k=8∧x.ars = [((p+t.size - 1:Nat):Int)]
 | .cat t u,p,nn=>∃ (n1 n2:List Nd) (x:Nd),nn=n1 ++ n2 ++ [x]∧Nf t p n1∧Nf u (p+t.size) n2∧x.k=5∧x.ars = [((p+t.size - 1:Nat):Int),((p+t.size+u.size - 1:Nat):Int)]
 | .or t u,p,nn=>∃ (n1 n2:List Nd) (x:Nd),nn=n1 ++ n2 ++ [x]∧Nf t p n1∧Nf u (p+t.size) n2∧x.k=6∧x.ars = [((p+t.size - 1:Nat):Int),((p+t.size+u.size - 1:Nat):Int)]
 | .and t u,p,nn=>∃ (n1 n2:List Nd) (x:Nd),nn=n1 ++ n2 ++ [x]∧Nf t p n1∧Nf u (p+t.size) n2∧x.k=7∧x.ars = [((p+t.size - 1:Nat):Int),((p+t.size+u.size - 1:Nat):Int)]
theorem Nf.len:∀ {t:Rx} {p:Nat} {nn:List Nd},Nf t p nn→nn.length=t.size:=by
 intro t
 induction t with
 | none=>rintro p nn ⟨x,rfl,_⟩;rfl
 | empty=>rintro p nn ⟨x,rfl,_⟩;rfl
 | any=>rintro p nn ⟨x,rfl,_⟩;rfl
 | letter b=>rintro p nn ⟨x,rfl,_⟩;rfl
 | not t ih=>rintro p nn ⟨n1,x,rfl,h,_⟩;simp only [List.length_append,List.length_cons,List.length_nil,Rx.size,ih h];omega
 | star t ih=>rintro p nn ⟨n1,x,rfl,h,_⟩;simp only [List.length_append,List.length_cons,List.length_nil,Rx.size,ih h];omega
 | cat t u iht ihu=>rintro p nn ⟨n1,n2,x,rfl,h,h',_⟩;simp only [List.length_append,List.length_cons,List.length_nil,Rx.size,iht h,ihu h'];omega
 | or t u iht ihu=>rintro p nn ⟨n1,n2,x,rfl,h,h',_⟩;simp only [List.length_append,List.length_cons,List.length_nil,Rx.size,iht h,ihu h'];omega
 | and t u iht ihu=>rintro p nn ⟨n1,n2,x,rfl,h,h',_⟩;simp only [List.length_append,List.length_cons,List.length_nil,Rx.size,iht h,ihu h'];omega
theorem APost.imp {w0 W:World} {g:Nat} {s:ByteArray} {L:Nat} {nodes:List Nd} {vn va vm:Value} {Q Q':Int→List Nd→Prop} {e:Ending} {W':World} (h:APost w0 W g s L nodes vn va vm Q e W') (hq:∀ num n2,Q num n2→Q' num n2):APost w0 W g s L nodes vn va vm Q' e W':=by
 obtain ⟨num,n2,vn',va',vm',h1,h2,h3,h4,h5,h6⟩:=h
 exact ⟨num,n2,vn',va',vm',h1,h2,h3,h4,hq _ _ h5,h6⟩
def AddAt (w0:World) (g:Nat) (s:ByteArray) (L:Nat) (x:S65) (t:Rx):Prop :=
 ∀ (A:Option Addr) (c:Nat) (nodes:List Nd) (vn va vm:Value) (W:World),x.f2.length≤c→Kd.C k65 w0 A x.f2.length x.f2→nodes.length+t.size≤1000→P3 W w0.heap.size g s L nodes nodes nodes nodes vn va vm→Below w0.heap.size w0 W →
  Calls Tryz.prog 133 #[.pointer (some ⟨g,0,none⟩),.agg #[.int .i64 x.f0,.string x.f1,.slice A x.f2.length c]] W (APost w0 W g s L nodes vn va vm fun num n2=>Nf t nodes.length n2∧num=((nodes.length+t.size - 1:Nat):Int))
section
variable (w0 : World) (g : Nat) (s : ByteArray) (L : Nat) (hsL : s.size + 1 = L) (hL : L ≤ 401) (hgb : w0.heap.size ≤ g)
include hsL hL hgb
theorem add_leaf (k:Int) (bs:ByteArray) (t:Rx) (hsz:t.size=1) (hN:∀ (p:Nat) (y:Nd),y.k=k→y.l=bs→y.ars = []→Nf t p [y]):AddAt w0 g s L ⟨k,bs,[]⟩ t:=by
 intro A c nodes vn va vm W hc hC h1 hP hB
 refine (add_walk w0 g s L hsL hL k bs [] A c hC hc (by simp) nodes vn va vm W hP hgb hB (fun kk ars nn=>kk=0∧ars = []∧nn = []) ⟨rfl,rfl,rfl⟩ ?_ ?_).mono ?_
 ·rintro kk ars nn ⟨rfl,rfl,rfl⟩
  exact ⟨rfl,by simp;omega⟩
 ·intro kk h
  exact absurd h (by simp)
 ·intro e W' h
  refine h.imp ?_
  rintro num n2 ⟨ars,nn,x,rfl,rfl,⟨_,rfl,rfl⟩,h1,h2,h3⟩
  exact ⟨hN _ _ h1 h2 h3,by rw [hsz];simp⟩
theorem add_one (k:Int) (bs:ByteArray) (y:S65) (t u:Rx) (hy:AddAt w0 g s L y u) (hsz:t.size=1+u.size) (hN:∀ (p:Nat) (n1:List Nd) (z:Nd),Nf u p n1→z.k=k→z.l=bs→z.ars = [((p+u.size - 1:Nat):Int)]→Nf t p (n1 ++ [z])):AddAt w0 g s L ⟨k,bs,[y]⟩ t:=by
 intro A c nodes vn va vm W hc hC h1 hP hB
 have hu:=u.size_pos
 refine (add_walk w0 g s L hsL hL k bs [y] A c hC hc (by simp) nodes vn va vm W hP hgb hB (fun kk ars nn=>(kk=0∧ars = []∧nn = [])∨(kk=1∧ars = [((nodes.length+u.size - 1:Nat):Int)]∧Nf u nodes.length nn)) (.inl ⟨rfl,rfl,rfl⟩) ?_ ?_).mono ?_
 ·rintro kk ars nn (⟨rfl,rfl,rfl⟩|⟨rfl,rfl,h⟩)
  ·exact ⟨rfl,by simp;omega⟩
  ·exact ⟨rfl,by rw [h.len];omega⟩
 ·intro kk h ars nn hE A2 c2 un ua um W' hc2 hC2 hP2 hB2
  obtain rfl:kk=0:=by simp at h;omega
  rcases hE with ⟨_,rfl,rfl⟩|⟨h,_⟩
  ·refine (hy A2 c2 (nodes ++ []) un ua um W' hc2 hC2 (by simp;omega) hP2 hB2).mono fun e W2 h=>h.imp ?_
   rintro num n2 ⟨h1,h2⟩
   exact .inr ⟨rfl,by simp [h2],by simpa using h1⟩
  ·exact absurd h (by decide)
 ·intro e W' h
  refine h.imp ?_
  rintro num n2 ⟨ars,nn,x,rfl,rfl,hE,h1,h2,h3⟩
  rcases hE with ⟨h,_⟩|⟨_,rfl,h⟩
  ·exact absurd h (by simp)
  ·exact ⟨hN _ _ _ h h1 h2 h3,by rw [hsz,h.len];congr 1;omega⟩
theorem add_two (k:Int) (bs:ByteArray) (y z:S65) (t u v:Rx) (hy:AddAt w0 g s L y u) (hz:AddAt w0 g s L z v) (hsz:t.size=1+u.size+v.size) (hN:∀ (p:Nat) (n1 n2:List Nd) (x:Nd),Nf u p n1→Nf v (p+u.size) n2→x.k=k→x.l=bs→x.ars = [((p+u.size - 1:Nat):Int),((p+u.size+v.size - 1:Nat):Int)]→Nf t p (n1 ++ n2 ++ [x])):AddAt w0 g s L ⟨k,bs,[y,z]⟩ t:=by
 intro A c nodes vn va vm W hc hC h1 hP hB
 have hu:=u.size_pos
 have hv:=v.size_pos
 refine (add_walk w0 g s L hsL hL k bs [y,z] A c hC hc (by simp) nodes vn va vm W hP hgb hB (fun kk ars nn=>(kk=0∧ars = []∧nn = [])∨(kk=1∧ars = [((nodes.length+u.size - 1:Nat):Int)]∧Nf u nodes.length nn)∨(kk=2∧ars = [((nodes.length+u.size - 1:Nat):Int),((nodes.length+u.size+v.size - 1:Nat):Int)]∧∃ n1 n2,nn=n1 ++ n2∧Nf u nodes.length n1∧Nf v (nodes.length+u.size) n2)) (.inl ⟨rfl,rfl,rfl⟩) ?_ ?_).mono ?_
 ·rintro kk ars nn (⟨rfl,rfl,rfl⟩|⟨rfl,rfl,h⟩|⟨rfl,rfl,n1,n2,rfl,h,h'⟩)
  ·exact ⟨rfl,by simp;omega⟩
  ·exact ⟨rfl,by rw [h.len];omega⟩
  ·exact ⟨rfl,by rw [List.length_append,h.len,h'.len];omega⟩
 ·intro kk h ars nn hE A2 c2 un ua um W' hc2 hC2 hP2 hB2
  match kk,h with
  | 0,h =>
   rcases hE with ⟨_,rfl,rfl⟩|⟨h,_⟩|⟨h,_⟩
   ·refine (hy A2 c2 (nodes ++ []) un ua um W' hc2 hC2 (by simp;omega) hP2 hB2).mono fun e W2 h=>h.imp ?_
    rintro num n2 ⟨h1,h2⟩
    exact .inr (.inl ⟨rfl,by simp [h2],by simpa using h1⟩)
   ·exact absurd h (by decide)
   ·exact absurd h (by decide)
  | 1,h =>
   rcases hE with ⟨h,_⟩|⟨_,rfl,hn⟩|⟨h,_⟩
   ·exact absurd h (by decide)
   ·have hl:(nodes ++ nn).length=nodes.length+u.size:=by rw [List.length_append,hn.len]
    refine (hz A2 c2 (nodes ++ nn) un ua um W' hc2 hC2 (by omega) hP2 hB2).mono fun e W2 h=>h.imp ?_
    rintro num n2 ⟨h1,h2⟩
    rw [hl] at h1 h2
    exact .inr (.inr ⟨rfl,by rw [h2];rfl,nn,n2,rfl,hn,h1⟩)
   ·exact absurd h (by decide)
  | kk+2,h=>exact absurd h (by simp)
 ·intro e W' h
  refine h.imp ?_
  rintro num n2 ⟨ars,nn,x,rfl,rfl,hE,h1,h2,h3⟩
  rcases hE with ⟨h,_⟩|⟨h,_⟩|⟨_,rfl,n1,n2,rfl,h,h'⟩
  ·exact absurd h (by simp)
  ·exact absurd h (by simp)
  ·exact ⟨hN _ _ _ _ h h' h1 h2 h3,by rw [hsz,List.length_append,h.len,h'.len];congr 1;omega⟩
theorem add_all {x:S65} {t:Rx} (h:IsRx x t):AddAt w0 g s L x t:=by
 induction h with
 | none b=>exact add_leaf w0 g s L hsL hL hgb 1 b _ rfl fun p y h1 h2 h3=>⟨y,rfl,h1,h3⟩
 | empty b=>exact add_leaf w0 g s L hsL hL hgb 2 b _ rfl fun p y h1 h2 h3=>⟨y,rfl,h1,h3⟩
 | any b=>exact add_leaf w0 g s L hsL hL hgb 4 b _ rfl fun p y h1 h2 h3=>⟨y,rfl,h1,h3⟩
 | letter b=>exact add_leaf w0 g s L hsL hL hgb 3 b _ rfl fun p y h1 h2 h3=>⟨y,rfl,h1,h2,h3⟩
 | cat b hx hy ihx ihy=>exact add_two w0 g s L hsL hL hgb 5 b _ _ _ _ _ ihx ihy rfl fun p n1 n2 x h h' h1 h2 h3=>⟨n1,n2,x,rfl,h,h',h1,h3⟩
 | or b hx hy ihx ihy=>exact add_two w0 g s L hsL hL hgb 6 b _ _ _ _ _ ihx ihy rfl fun p n1 n2 x h h' h1 h2 h3=>⟨n1,n2,x,rfl,h,h',h1,h3⟩
 | and b hx hy ihx ihy=>exact add_two w0 g s L hsL hL hgb 7 b _ _ _ _ _ ihx ihy rfl fun p n1 n2 x h h' h1 h2 h3=>⟨n1,n2,x,rfl,h,h',h1,h3⟩
 | star b hx ih=>exact add_one w0 g s L hsL hL hgb 8 b _ _ _ ih rfl fun p n1 z h h1 h2 h3=>⟨n1,z,rfl,h,h1,h3⟩
 | not b hx ih=>exact add_one w0 g s L hsL hL hgb 9 b _ _ _ ih rfl fun p n1 z h h1 h2 h3=>⟨n1,z,rfl,h,h1,h3⟩
end
def subs:Rx→List Rx
 | .cat a b=>subs a ++ subs b ++ [.cat a b]
 | .or a b=>subs a ++ subs b ++ [.or a b]
 | .and a b=>subs a ++ subs b ++ [.and a b]
 | .star a=>subs a ++ [.star a]
 | .not a=>subs a ++ [.not a]
 | t => [t]
theorem subs_len (t:Rx):(subs t).length=t.size:=by
 induction t with
 | cat t u iht ihu=>simp only [subs,List.length_append,List.length_cons,List.length_nil,Rx.size,iht,ihu];omega
 | or t u iht ihu=>simp only [subs,List.length_append,List.length_cons,List.length_nil,Rx.size,iht,ihu];omega
 | and t u iht ihu=>simp only [subs,List.length_append,List.length_cons,List.length_nil,Rx.size,iht,ihu];omega
 | star t ih=>simp only [subs,List.length_append,List.length_cons,List.length_nil,Rx.size,ih];omega
 | not t ih=>simp only [subs,List.length_append,List.length_cons,List.length_nil,Rx.size,ih];omega
 | _=>rfl
def nd0:Nd:=⟨0,⟨#[]⟩,.slice none 0 0,[],none,0,0,0,[]⟩
def At {α:Type} (big:List α) (p:Nat) (xs:List α):Prop:=∀ (i:Nat) (x:α),xs[i]? = some x→big[p+i]? = some x
theorem At.left {α:Type} {big xs ys:List α} {p:Nat} (h:At big p (xs ++ ys)):At big p xs:=fun i x hx=>h i x (by
 have:i < xs.length:=by
  rcases Nat.lt_or_ge i xs.length with h|h
  ·exact h
  ·rw [List.getElem?_eq_none h] at hx;cases hx
 rw [List.getElem?_append_left this];exact hx)
theorem At.right {α:Type} {big xs ys:List α} {p:Nat} (h:At big p (xs ++ ys)):At big (p+xs.length) ys:=fun i x hx=>by
 have:=h (xs.length+i) x (by rw [List.getElem?_append_right (by omega)];simpa using hx)
 rwa [← Nat.add_assoc] at this
theorem At.one {α:Type} {big:List α} {p:Nat} {x:α} (h:At big p [x]):big[p]? = some x:=h 0 x rfl
theorem ft_of (l:Lay) (s:ByteArray) (S:List Rx) (nodes:List Nd) (hk:∀ q,l.kd q=((nodes[q]?).getD nd0).k) (hl:∀ q,l.lt q=((nodes[q]?).getD nd0).l) (ha:∀ q,l.ar q=((nodes[q]?).getD nd0).ars) :
  ∀ (t:Rx) (p:Nat) (nn:List Nd),Nf t p nn→At nodes p nn→At S p (subs t)→FT l s (fun q i j=>mt s ((S[q]?).getD .none) i j) t (p+t.size - 1) p:=by
 have rk:∀ q x,nodes[q]? = some x→l.kd q=x.k:=fun q x h=>by rw [hk,h];rfl
 have rl:∀ q x,nodes[q]? = some x→l.lt q=x.l:=fun q x h=>by rw [hl,h];rfl
 have ra:∀ q x,nodes[q]? = some x→l.ar q=x.ars:=fun q x h=>by rw [ha,h];rfl
 have rT:∀ (q:Nat) (u:Rx),S[q]? = some u→∀ i j,(fun q i j=>mt s ((S[q]?).getD .none) i j) q i j=mt s u i j:=fun q u h i j=>by simp only [h];rfl
 intro t
 induction t with
 | none=>rintro p nn ⟨x,rfl,h1,h2⟩ hn hS;exact ⟨rfl,rT _ _ hS.one,(rk _ _ hn.one).trans h1⟩
 | empty=>rintro p nn ⟨x,rfl,h1,h2⟩ hn hS;exact ⟨rfl,rT _ _ hS.one,(rk _ _ hn.one).trans h1⟩
 | any=>rintro p nn ⟨x,rfl,h1,h2⟩ hn hS;exact ⟨rfl,rT _ _ hS.one,(rk _ _ hn.one).trans h1⟩
 | letter b=>rintro p nn ⟨x,rfl,h1,h2,h3⟩ hn hS;exact ⟨rfl,rT _ _ hS.one,(rk _ _ hn.one).trans h1,(rl _ _ hn.one).trans h2⟩
 | not t ih =>
  rintro p nn ⟨n1,x,rfl,h,h1,h2⟩ hn hS
  have hp:=t.size_pos
  have e:p+(Rx.not t).size - 1=p+t.size:=by simp only [Rx.size];omega
  have hx:=hn.right.one
  have hs:=At.one (At.right (xs:=subs t) hS)
  rw [h.len] at hx
  rw [subs_len] at hs
  rw [e]
  exact ⟨by omega,rT _ _ hs,(rk _ _ hx).trans h1,p+t.size - 1,(ra _ _ hx).trans h2,by omega,ih p n1 h hn.left (At.left hS)⟩
 | star t ih =>
  rintro p nn ⟨n1,x,rfl,h,h1,h2⟩ hn hS
  have hp:=t.size_pos
  have e:p+(Rx.star t).size - 1=p+t.size:=by simp only [Rx.size];omega
  have hx:=hn.right.one
  have hs:=At.one (At.right (xs:=subs t) hS)
  rw [h.len] at hx
  rw [subs_len] at hs
  rw [e]
  exact ⟨by omega,rT _ _ hs,(rk _ _ hx).trans h1,p+t.size - 1,(ra _ _ hx).trans h2,by omega,ih p n1 h hn.left (At.left hS)⟩
 | cat t u iht ihu =>
  rintro p nn ⟨n1,n2,x,rfl,h,h',h1,h2⟩ hn hS
  have hp:=t.size_pos
  have hp':=u.size_pos
  have e:p+(Rx.cat t u).size - 1=p+t.size+u.size:=by simp only [Rx.size];omega
  have hx:=hn.right.one
  have hs:=At.one (At.right (xs:=subs t ++ subs u) hS)
  have hn2:=hn.left.right
  have hS2:=At.right (xs:=subs t) (At.left (xs:=subs t ++ subs u) hS)
  rw [List.length_append,h.len,h'.len,← Nat.add_assoc] at hx
  rw [List.length_append,subs_len,subs_len,← Nat.add_assoc] at hs
  rw [h.len] at hn2
  rw [subs_len] at hS2
  rw [e]
  refine ⟨by omega,rT _ _ hs,(rk _ _ hx).trans h1,p+t.size - 1,p+t.size+u.size - 1,(ra _ _ hx).trans h2,by omega,iht p n1 h hn.left.left (At.left (At.left (xs:=subs t ++ subs u) hS)),?_⟩
  rw [show p+t.size - 1+1=p+t.size by omega]
  exact ihu (p+t.size) n2 h' hn2 hS2
 | or t u iht ihu =>
  rintro p nn ⟨n1,n2,x,rfl,h,h',h1,h2⟩ hn hS
  have hp:=t.size_pos
  have hp':=u.size_pos
  have e:p+(Rx.or t u).size - 1=p+t.size+u.size:=by simp only [Rx.size];omega
  have hx:=hn.right.one
  have hs:=At.one (At.right (xs:=subs t ++ subs u) hS)
  have hn2:=hn.left.right
  have hS2:=At.right (xs:=subs t) (At.left (xs:=subs t ++ subs u) hS)
  rw [List.length_append,h.len,h'.len,← Nat.add_assoc] at hx
  rw [List.length_append,subs_len,subs_len,← Nat.add_assoc] at hs
  rw [h.len] at hn2
  rw [subs_len] at hS2
  rw [e]
  refine ⟨by omega,rT _ _ hs,(rk _ _ hx).trans h1,p+t.size - 1,p+t.size+u.size - 1,(ra _ _ hx).trans h2,by omega,iht p n1 h hn.left.left (At.left (At.left (xs:=subs t ++ subs u) hS)),?_⟩
  rw [show p+t.size - 1+1=p+t.size by omega]
  exact ihu (p+t.size) n2 h' hn2 hS2
 | and t u iht ihu =>
  rintro p nn ⟨n1,n2,x,rfl,h,h',h1,h2⟩ hn hS
  have hp:=t.size_pos
  have hp':=u.size_pos
  have e:p+(Rx.and t u).size - 1=p+t.size+u.size:=by simp only [Rx.size];omega
  have hx:=hn.right.one
  have hs:=At.one (At.right (xs:=subs t ++ subs u) hS)
  have hn2:=hn.left.right
  have hS2:=At.right (xs:=subs t) (At.left (xs:=subs t ++ subs u) hS)
  rw [List.length_append,h.len,h'.len,← Nat.add_assoc] at hx
  rw [List.length_append,subs_len,subs_len,← Nat.add_assoc] at hs
  rw [h.len] at hn2
  rw [subs_len] at hS2
  rw [e]
  refine ⟨by omega,rT _ _ hs,(rk _ _ hx).trans h1,p+t.size - 1,p+t.size+u.size - 1,(ra _ _ hx).trans h2,by omega,iht p n1 h hn.left.left (At.left (At.left (xs:=subs t ++ subs u) hS)),?_⟩
  rw [show p+t.size - 1+1=p+t.size by omega]
  exact ihu (p+t.size) n2 h' hn2 hS2
theorem blks_apart:∀ {nodes:List Nd},(nodes.flatMap Nd.blks).Nodup→(∀ (q:Nat) (x:Nd),nodes[q]? = some x→x.blks.Nodup)∧∀ (q q':Nat) (x x':Nd),nodes[q]? = some x→nodes[q']? = some x'→q ≠ q'→∀ b,b ∈ x.blks→b ∈ x'.blks→False:=by
 intro nodes
 induction nodes with
 | nil=>intro _;exact ⟨fun q x h=>by simp at h,fun q q' x x' h=>by simp at h⟩
 | cons y ys ih =>
  intro h
  rw [List.flatMap_cons,List.nodup_append] at h
  obtain ⟨h1,h2,h3⟩:=h
  obtain ⟨i1,i2⟩:=ih h2
  have hin:∀ (q:Nat) (x:Nd),ys[q]? = some x→∀ b,b ∈ x.blks→b ∈ ys.flatMap Nd.blks:=fun q x hx b hb=>List.mem_flatMap.2 ⟨x,List.mem_of_getElem? hx,hb⟩
  refine ⟨fun q x hx=>?_,fun q q' x x' hx hx' hne b hb hb' => ?_⟩
  ·match q,hx with
   | 0,hx=>simp at hx;subst hx;exact h1
   | q+1,hx=>exact i1 q x (by simpa using hx)
  ·match q,q',hx,hx',hne with
   | 0,0,_,_,hne=>exact hne rfl
   | 0,q'+1,hx,hx',_=>simp at hx;subst hx;exact h3 b hb b (hin q' x' (by simpa using hx') b hb') rfl
   | q+1,0,hx,hx',_=>simp at hx';subst hx';exact h3 b hb' b (hin q x (by simpa using hx) b hb) rfl
   | q+1,q'+1,hx,hx',hne=>exact i2 q q' x x' (by simpa using hx) (by simpa using hx') (by omega) b hb hb'
theorem cells_at {nodes:List Nd} : ∀ (q:Nat) (x:Nd),nodes[q]? = some x→(nodes.flatMap Nd.cells)[q * 3]? = some (.int .i64 x.k)∧(nodes.flatMap Nd.cells)[q * 3+1]? = some (.string x.l):=by
 induction nodes with
 | nil=>intro q x h;simp at h
 | cons y ys ih =>
  intro q x h
  match q,h with
  | 0,h=>simp at h;subst h;exact ⟨rfl,rfl⟩
  | q+1,h =>
   have:=ih q x (by simpa using h)
   have e:(y :: ys).flatMap Nd.cells = [.int .i64 y.k,.string y.l,y.sv] ++ ys.flatMap Nd.cells:=rfl
   rw [e,show (q+1) * 3=q * 3+3 by omega,List.getElem?_append_right (by simp),List.getElem?_append_right (by simp)]
   exact ⟨by simpa using this.1,by simpa using this.2⟩
def layOf (nodes:List Nd) (bn cn ba ca bm cm:Nat):Lay :=
 { N:=nodes.length,bn:=bn,ba:=ba,bm:=bm,cn:=cn,ca:=ca,cm:=cm,kd:=fun q=>((nodes[q]?).getD nd0).k,lt:=fun q=>((nodes[q]?).getD nd0).l,ar:=fun q=>((nodes[q]?).getD nd0).ars,aA:=fun q=>((nodes[q]?).getD nd0).aA,ac:=fun q=>((nodes[q]?).getD nd0).ac,tb:=fun q=>((nodes[q]?).getD nd0).tb,tc:=fun q=>((nodes[q]?).getD nd0).tc,rb:=fun q i=>((nodes[q]?).getD nd0).rows.getD i 0 }
theorem lay_ok {w0 W:World} {g:Nat} {s:ByteArray} {L:Nat} {nodes:List Nd} {vn va vm:Value} (h:P3 W w0.heap.size g s L nodes nodes nodes nodes vn va vm) (hN:0 < nodes.length) :
  ∃ bn cn ba ca bm cm,LayOk (layOf nodes bn cn ba ca bm cm) w0 W g s L∧SSt (layOf nodes bn cn ba ca bm cm) W L (fun _ _=>List.replicate L 0) W:=by
 obtain ⟨bn,cn,rfl,_,ln⟩:=h.n.form hN
 obtain ⟨ba,ca,rfl,_,la⟩:=h.a.form hN
 obtain ⟨bm,cm,rfl,_,lm⟩:=h.m.form hN
 obtain ⟨nd1,nd2⟩:=blks_apart h.nd
 have nth:∀ q,q < nodes.length→∃ x,nodes[q]? = some x∧NOk W w0.heap.size L x∧x.blks.Nodup∧∀ b ∈ x.blks,Apt g (.slice (some ⟨bn,0,none⟩) nodes.length cn) (.slice (some ⟨ba,0,none⟩) nodes.length ca) (.slice (some ⟨bm,0,none⟩) nodes.length cm) b:=fun q hq =>
  ⟨nodes[q],List.getElem?_eq_getElem hq,h.ok _ (List.getElem_mem hq),nd1 q _ (List.getElem?_eq_getElem hq),fun b hb=>h.sep b (List.mem_flatMap.2 ⟨_,List.getElem_mem hq,hb⟩)⟩
 have rowmem:∀ q i x,nodes[q]? = some x→x.rows.length=L→i < L→(layOf nodes bn cn ba ca bm cm).rb q i ∈ x.rows∧x.rows[i]? = some ((layOf nodes bn cn ba ca bm cm).rb q i):=fun q i x hx hl hi=>by
  have e:(layOf nodes bn cn ba ca bm cm).rb q i=x.rows.getD i 0:=by simp only [layOf,hx,Option.getD_some]
  rw [e,List.getD_eq_getElem?_getD,List.getElem?_eq_getElem (by omega)]
  exact ⟨List.getElem_mem _,rfl⟩
 have ne_row:∀ k,(∀ b ∈ nodes.flatMap Nd.blks,k ≠ b)→∀ q i,q < nodes.length→i < L→k ≠ (layOf nodes bn cn ba ca bm cm).rb q i:=fun k hk q i hq hi=>by
  obtain ⟨x,hx,ok,_,_⟩:=nth q hq
  exact hk _ (List.mem_flatMap.2 ⟨x,List.mem_of_getElem? hx,by simp [Nd.blks,(rowmem q i x hx ok.len hi).1]⟩)
 have st_blk:∀ q x k,nodes[q]? = some x→q < nodes.length→NOk W w0.heap.size L x→k ∈ x.blks→k ∉ x.rows→(layOf nodes bn cn ba ca bm cm).St W L k:=fun q x k hx hq ok hk hkr=>⟨ok.lt k hk,fun q' i hq' hi e=>by
  obtain ⟨x',hx',ok',_,_⟩:=nth q' hq'
  have hm:=(rowmem q' i x' hx' ok'.len hi).1
  rw [← e] at hm
  by_cases hqq:q=q'
  ·subst hqq
   rw [hx] at hx'
   injection hx' with hx'
   subst hx'
   exact hkr hm
  ·exact nd2 q q' x x' hx hx' hqq k hk (by simp [Nd.blks,hm])⟩
 refine ⟨bn,cn,ba,ca,bm,cm,⟨h.z,fun q hq=>?_,fun q hq=>?_,fun q hq=>?_,fun q hq p hp=>?_,fun q hq=>?_,fun q i hq hi=>?_,⟨blk_lt h.z,ne_row _ fun b hb e=>(h.sep b hb).1 e.symm⟩,⟨ln,ne_row _ fun b hb e=>(h.sep b hb).2.1 (by rw [← e];rfl)⟩,⟨la,ne_row _ fun b hb e=>(h.sep b hb).2.2.1 (by rw [← e];rfl)⟩,⟨lm,ne_row _ fun b hb e=>(h.sep b hb).2.2.2 (by rw [← e];rfl)⟩,fun q hq=>?_,fun q i q' i' hq hi hq' hi' e=>?_,fun q i hq hi=>?_⟩,⟨fun _ _=>rfl,fun q i hq hi=>?_,Nat.le_refl _⟩⟩
 ·obtain ⟨x,hx,ok,_,_⟩:=nth q hq
  have:=h.n.cells (g:=bn) rfl (q * 3) _ (cells_at q x hx).1
  rw [add_plain] at this
  simpa only [layOf,hx,Option.getD_some] using this
 ·obtain ⟨x,hx,ok,_,_⟩:=nth q hq
  have:=h.n.cells (g:=bn) rfl (q * 3+1) _ (cells_at q x hx).2
  rw [add_plain] at this
  simpa only [layOf,hx,Option.getD_some] using this
 ·obtain ⟨x,hx,ok,_,_⟩:=nth q hq
  have:=h.a.cells (g:=ba) rfl q x.av (by rw [List.getElem?_map,hx];rfl)
  rw [add_plain] at this
  simp only [layOf,hx,Option.getD_some]
  exact this
 ·obtain ⟨x,hx,ok,hnd,_⟩:=nth q hq
  simp only [layOf,hx,Option.getD_some] at hp ⊢
  obtain ⟨ab,ac',e,_,l2⟩:=ok.a.form (by omega)
  have eA:x.aA=some ⟨ab,0,none⟩:=by simp only [Nd.av,Value.slice.injEq] at e;exact e.1
  refine ⟨ab,eA,?_,?_⟩
  ·have hin:ab ∈ x.av.ownBlock.toList:=by rw [e];simp [Value.ownBlock]
   refine st_blk q x ab hx hq ok (by simp [Nd.blks,hin]) fun hr=>?_
   simp only [Nd.blks,List.nodup_append] at hnd
   exact hnd.2.2 ab hin ab (List.mem_cons_of_mem _ hr) rfl
  ·have:=ok.a.cells (g:=ab) (by rw [e];rfl) p (.int .i64 (x.ars.getD p 0)) (by simp only [nums,List.getElem?_map,List.getD_eq_getElem?_getD,List.getElem?_eq_getElem hp];rfl)
   rw [add_plain] at this
   exact this
 ·obtain ⟨x,hx,ok,_,_⟩:=nth q hq
  have:=h.m.cells (g:=bm) rfl q (x.mv L) (by rw [List.getElem?_map,hx];rfl)
  rw [add_plain] at this
  simp only [layOf,hx,Option.getD_some]
  exact this
 ·obtain ⟨x,hx,ok,_,_⟩:=nth q hq
  have:=ok.t.cells (g:=x.tb) rfl i (.slice (some ⟨(layOf nodes bn cn ba ca bm cm).rb q i,0,none⟩) L L) (by rw [List.getElem?_map,(rowmem q i x hx ok.len hi).2];rfl)
  rw [add_plain] at this
  have et:(layOf nodes bn cn ba ca bm cm).tb q=x.tb:=by simp only [layOf,hx,Option.getD_some]
  rw [et]
  exact this
 ·obtain ⟨x,hx,ok,hnd,_⟩:=nth q hq
  have et:(layOf nodes bn cn ba ca bm cm).tb q=x.tb:=by simp only [layOf,hx,Option.getD_some]
  rw [et]
  refine st_blk q x x.tb hx hq ok (by simp [Nd.blks]) fun hr=>?_
  simp only [Nd.blks,List.nodup_append,List.nodup_cons] at hnd
  exact hnd.2.1.1 hr
 ·obtain ⟨x,hx,ok,hnd,_⟩:=nth q hq
  obtain ⟨x',hx',ok',_,_⟩:=nth q' hq'
  have m1:=rowmem q i x hx ok.len hi
  have m2:=rowmem q' i' x' hx' ok'.len hi'
  by_cases hqq:q=q'
  ·subst hqq
   refine ⟨rfl,?_⟩
   rw [hx] at hx'
   injection hx' with hx'
   subst hx'
   simp only [Nd.blks,List.nodup_append,List.nodup_cons] at hnd
   have hr:=hnd.2.1.2
   rw [← e] at m2
   obtain ⟨l1,e1⟩:=List.getElem?_eq_some_iff.1 m1.2
   obtain ⟨l2,e2⟩:=List.getElem?_eq_some_iff.1 m2.2
   have hpw:=List.pairwise_iff_getElem.1 hr
   rcases Nat.lt_trichotomy i i' with h|h|h
   ·exact absurd (e1.trans e2.symm) (hpw i i' l1 l2 h)
   ·exact h
   ·exact absurd (e2.trans e1.symm) (hpw i' i l2 l1 h)
  ·exact (nd2 q q' x x' hx hx' hqq ((layOf nodes bn cn ba ca bm cm).rb q i) (by simp [Nd.blks,m1.1]) (by rw [e];simp [Nd.blks,m2.1])).elim
 ·obtain ⟨x,hx,ok,_,_⟩:=nth q hq
  exact (ok.r _ (rowmem q i x hx ok.len hi).1).1
 ·obtain ⟨x,hx,ok,_,_⟩:=nth q hq
  exact ⟨(ok.r _ (rowmem q i x hx ok.len hi).1).2,List.length_replicate⟩
-- EXT loop.example/g00582/spec.l4Match making
def spec_l4Match.f (a0_0:Int) (a0_1:ByteArray) (l0_2:List S65) (a1:ByteArray):Option Bool:=rxMatch a0_0 a0_1 l0_2 a1
set_option maxHeartbeats 4000000 in
theorem spec_l4Match.calls (a0_0:Int) (a0_1:ByteArray) (A0_2:Option Addr) (c0_2:Nat) (l0_2:List S65) (a1:ByteArray) (r:Bool) (w:World) (hr0_2:Kd.C k65 w A0_2 l0_2.length l0_2) (hc0_2:l0_2.length≤c0_2) (h:spec_l4Match.f a0_0 a0_1 l0_2 a1=some r) :
  Calls Tryz.prog 115 #[.agg #[.int .i64 a0_0,.string a0_1,.slice A0_2 l0_2.length c0_2],.string a1] w fun e w'=>e = .returned (.bool r)∧Below w.heap.size w w':=by
 obtain ⟨t,hx,h16,h400,hr⟩:=rxMatch_some h
 subst hr
 have ht0:=t.size_pos
 obtain ⟨p,hp⟩:∃ p,t.size=p+1:=⟨t.size - 1,by omega⟩
 have HP:=zk hp
 have HR:=zk hr0_2
 have HC:=zk hc0_2
 have HX:=zk hx
 have H16:=zk h16
 have H400:=zk h400
 clear hr0_2 hc0_2 h hx hp h16
 have HB:=zk (Below.refl w.heap.size w)
 go_enter Tryz.func115,Tryz.ntmps115
 go_upto_region 2 with (first
  | ((with_reducible refine gate_dst (N:=2) rfl ?_);refine zE (N:=2) (cs:=#[.int .i64 a0_0,.string a0_1,.slice A0_2 l0_2.length c0_2]) (t:=65) ?_;intro gr hgr w3 hbox hb3;have X3:=zk hbox;have B3:=zk (below_step HB.out hb3);have G3:=zk (show w.heap.size≤gr by omega);clear hb3 hbox hgr)
  | ((with_reducible refine gate_dst (N:=9) rfl ?_);refine zE (N:=9) (cs:=#[.string a1,.slice none 0 0,.slice none 0 0,.slice none 0 0]) (t:=142) ?_;intro gz hgz w4 hbox hb4;have X4:=zk hbox;have Y4:=zk (blk_below X3.out hb4);have B4:=zk (below_step B3.out hb4);have G4:=zk (show w.heap.size≤gz by have:=B3.out.size;omega);clear hb4 hbox hgz))
 have P4:P3 w4 w.heap.size gz a1 (a1.size+1) [] [] [] [] (.slice none 0 0) (.slice none 0 0) (.slice none 0 0) :=
  ⟨X4.out,⟨rfl,.inl ⟨rfl,rfl⟩⟩,⟨rfl,.inl ⟨rfl,rfl⟩⟩,⟨rfl,.inl ⟨rfl,rfl⟩⟩,fun x hx=>absurd hx (by simp),List.nodup_nil,fun b hb=>absurd hb (by simp)⟩
 obtain ⟨y0,y1,y2,g0,g1,g2⟩:=blk3 Y4.out
 have CA:=zk (add_all w gz a1 (a1.size+1) rfl (by omega) G4.out HX.out A0_2 c0_2 [] _ _ _ w4 HC.out HR.out (by have:=H16.out;simp;omega) P4 B4.out)
 clear P4
 go_upto_region 3 with (go_at_call 133;(with_reducible refine CA.out.mono ?_);rintro e w9 ⟨num,n2,vn,va,vm,rfl,P9',S9,F9,⟨Q9',hnum⟩,B9'⟩;obtain rfl:num=(p:Int):=hnum.trans (by have:=HP.out;simp;omega);have P9:=zk P9';have Q9:=zk Q9';have B9:=zk B9';clear P9' Q9' B9' S9 F9 hnum)
 clear CA y0 y1 y2 g0 g1 g2
 have hl:n2.length=p+1:=Q9.out.len.trans HP.out
 obtain ⟨bn,cn,ba,ca,bm,cm,ok,st⟩:=lay_ok P9.out (by simp;omega)
 have hft:=ft_of (layOf ([] ++ n2) bn cn ba ca bm cm) a1 (subs t) ([] ++ n2) (fun _=>rfl) (fun _=>rfl) (fun _=>rfl) t 0 n2 Q9.out (fun i x hx=>by simpa using hx) (fun i x hx=>by simpa using hx)
 rw [show 0+t.size - 1=p by have:=HP.out;omega] at hft
 have CI:=zk (is_all (layOf ([] ++ n2) bn cn ba ca bm cm) w w9 gz a1 (a1.size+1) ok rfl (by omega) _ t p 0 (by show p < ([] ++ n2).length;simp;omega) hft 0 a1.size (p:Int) 0 (a1.size:Int) _ w9 rfl rfl rfl (Nat.zero_le _) (by omega) st (fun q i j _ _ _ hj => .inl (by rw [List.getD_eq_getElem?_getD,List.getElem?_replicate];split <;> rfl)) B9.out)
 clear ok st hft hl
 go_wp2_with (go_at_call 134;(with_reducible refine CI.out.mono ?_);rintro e w10 ⟨rfl,m9,S9,G9,SS9,B10⟩)
 go_ret
 exact ⟨rfl,B10⟩
end Go.Proofs.YtffjfdoghofkdaaGreat.Ext
namespace Go.Proofs.YtffjfdoghofkdaaGreat.A
open Go.RowKit YtffjfdoghofkdaaGreat.Ext YtffjfdoghofkdaaGreatW.PrintWords YtffjfdoghofkdaaGreatW.PrintLast YtffjfdoghofkdaaGreatW.PrintMore
attribute [local go_sem] max2_int min2_int max_two min_two max_three min_three max_four min_four
def spec_l9Zero.f (a0_0:Int) (a0_1:ByteArray) (l0_2:List (S65)):Option (Bool):=if a0_0=0 then (if a0_1.toList=([]:List UInt8) then (some ((l0_2.length:Int) == 0)) else (some false)) else (some false)
theorem spec_l9Zero.calls (a0_0:Int) (a0_1:ByteArray) (A0_2:Option Addr) (c0_2:Nat) (l0_2:List (S65)) (r:Bool) (w:World) (hr0_2:Kd.C k65 w A0_2 l0_2.length l0_2) (hc0_2:l0_2.length≤c0_2) (h:spec_l9Zero.f a0_0 a0_1 l0_2=some r) :
   Calls Tryz.prog 98 #[.agg #[.int .i64 a0_0,.string a0_1,.slice A0_2 l0_2.length c0_2]] w fun e w'=>e = .returned (.bool r)∧Below w.heap.size w w':=by
 have hu65:=Tryz.underlying65
 have HR0_2:=zk hr0_2
 have HC0_2:=zk hc0_2
 clear hr0_2 hc0_2
 have HB:=zk (Below.refl w.heap.size w)
 have H:(if a0_0=0 then (if a0_1.toList=([]:List UInt8) then (some ((l0_2.length:Int) == 0)) else (some false)) else (some false))=some r:=h
 clear h
 by_cases c2:a0_0=0
 rw [if_pos c2] at H
 have c2b0:(a0_0 == 0)=true:=beq_iff_eq.mpr c2
 have c2b1:(a0_0 != 0)=false:=bne_eq_false_iff_eq.mpr c2
 clear c2
 by_cases c3:a0_1.toList=([]:List UInt8)
 rw [if_pos c3] at H
 have c3b0:(a0_1.toList == ([]:List UInt8))=true:=beq_iff_eq.mpr c3
 have c3b1:(a0_1.toList != ([]:List UInt8))=false:=bne_eq_false_iff_eq.mpr c3
 clear c3
 rotate_left
 rw [if_neg c3] at H
 have c3b0:(a0_1.toList == ([]:List UInt8))=false:=beq_eq_false_iff_ne.mpr c3
 have c3b1:(a0_1.toList != ([]:List UInt8))=true:=bne_iff_ne.mpr c3
 rotate_left
 rw [if_neg c2] at H
 have c2b0:(a0_0 == 0)=false:=beq_eq_false_iff_ne.mpr c2
 have c2b1:(a0_0 != 0)=true:=bne_iff_ne.mpr c2
 rotate_left
 all_goals
  obtain rfl:=zi H
  go_enter Tryz.func98,Tryz.ntmps98
  go_wp2_with (((with_reducible refine gate_dst (N:=1) rfl ?_);(try (refine gate_guard (by rfl) ?_;dsimp only));refine zE (N:=1) (cs:=#[.int .i64 a0_0,.string a0_1,.slice A0_2 l0_2.length c0_2]) (t:=65) ?_;intro gb98001 hg w4 hbox hb;have n0_:=zk (below_step za3 hb);have n1_:=zk (hbox);have n2_:=zk (zs (w:=w) hg za3);have n3_:=zk (zs (w:=w) hg za3);clear HB;have HB:=n0_;have BK98001:=n1_;have GW98001:=n2_;have GE98001:=n3_;clear n0_ n1_ n2_ n3_;clear hb hbox hg;obtain ⟨hcz5_0,hcz5_1,hcz5_2,hfz5_0,hfz5_1,hfz5_2⟩:=blk3 BK98001.out))
  go_ret
  exact ⟨za6,za3⟩
def spec_l9Coeffs.l0:Nat→List Int→Int→Option (Bool)
 | 0,_,_=>none
 | k+1,x0,x3=>if x3 < (x0.length:Int) then (if 0≤x3 then ((spec_l1In.f (rd x0 x3) (-9) 9).bind fun t100002=>(if t100002=true then (spec_l9Coeffs.l0 k x0 (wrap64 (x3+1))) else (some false))) else (none)) else (some ((x0.length:Int) == 3))
def spec_l9Coeffs.f (k:Nat) (l0:List Int):Option (Bool):=spec_l9Coeffs.l0 k l0 0
theorem spec_l9Coeffs.mono_l:∀ k,(∀ y0 y1,LeO (spec_l9Coeffs.l0 k y0 y1) (spec_l9Coeffs.l0 (k+1) y0 y1))
 | 0=>fun _ _ r h=>by simp [spec_l9Coeffs.l0] at h
 | k+1=>by
  have ih0:=spec_l9Coeffs.mono_l k
  ·intro y0 y1
   unfold spec_l9Coeffs.l0
   repeat' first
   | with_reducible first|exact ih0 _ _|exact LeO.refl _|exact LeO.none _|refine LeO.ite ?_ ?_|refine LeO.bind ?_ (fun _=>?_)
theorem spec_l9Coeffs.mono:∀ a0 k,LeO (spec_l9Coeffs.f k a0) (spec_l9Coeffs.f (k+1) a0):=by
 intro a0 k
 have ih0:=spec_l9Coeffs.mono_l k
 unfold spec_l9Coeffs.f
 repeat' first
  | with_reducible first|exact ih0 _ _|exact LeO.refl _|exact LeO.none _|refine LeO.ite ?_ ?_|refine LeO.bind ?_ (fun _=>?_)
theorem spec_l9Coeffs.calls (k:Nat) (A0:Option Addr) (c0:Nat) (l0:List Int) (r:Bool) (w:World) (hr0:Kd.C (Kd.int .i64) w A0 l0.length l0) (hc0:l0.length≤c0) (h:spec_l9Coeffs.f k l0=some r) :
   Calls Tryz.prog 100 #[.slice A0 l0.length c0] w fun e w'=>e = .returned (.bool r)∧Drawn0 w w':=by
 have HR0:=zk hr0
 have HC0:=zk hc0
 clear hr0 hc0
 have H:(spec_l9Coeffs.l0 k l0 0)=some r:=h
 clear h
 have H':=zk H
 clear H
 go_enter Tryz.func100,Tryz.ntmps100
 go_wp2
 first|go_loopg [3] k (fun kq v3 w'=>∃ (x3_1:Int),v3 = .int .i64 x3_1∧Aside0 (spec_l9Coeffs.l0 kq l0 x3_1=some r)∧Aside0 (kq≤k)∧Drawn0 w w')|(simp only [Act.put,zt,zv,zu];go_loopg [3] k (fun kq v3 w'=>∃ (x3_1:Int),v3 = .int .i64 x3_1∧Aside0 (spec_l9Coeffs.l0 kq l0 x3_1=some r)∧Aside0 (kq≤k)∧Drawn0 w w'))
 case atStart=>exact ⟨(0),za7,H',⟨Nat.le_refl _⟩,za10⟩
 case round =>
  clear H'
  obtain ⟨x3_1,rfl,HA,HK1,⟨m1,rfl⟩⟩:=hrel
  cases gk with
  | zero=>exact absurd HA.out (by simp [spec_l9Coeffs.l0])
  | succ k1 =>
   have H:=HA.out
   clear HA
   simp only [spec_l9Coeffs.l0] at H
   by_cases c2:x3_1 < (l0.length:Int)
   rw [if_pos c2] at H
   have c2b0:decide (x3_1 < (l0.length:Int))=true:=decide_eq_true c2
   clear c2
   by_cases c3:0≤x3_1
   rw [if_pos c3] at H
   have c3b0:decide (0≤x3_1)=true:=decide_eq_true c3
   clear c3
   replace H:=zo H
   obtain ⟨t100002,A40,H⟩:=H
   replace H:(if t100002=true then (spec_l9Coeffs.l0 k1 l0 (wrap64 (x3_1+1))) else (some false))=some r:=H
   have A4:=zk A40
   clear A40
   by_cases c5:t100002=true
   subst c5
   have H1:(spec_l9Coeffs.l0 k1 l0 (wrap64 (x3_1+1)))=some r:=by rw [if_pos rfl] at H;exact H
   clear H
   have H:=H1
   clear H1
   have H':=zk H
   clear H
   have fin0_:=zk trivial
   rotate_left
   replace c5:=Bool.eq_false_iff.mpr c5
   subst c5
   have H1:(some false)=some r:=by rw [if_neg (show ¬ (false=true) by decide)] at H;exact H
   clear H
   have H:=H1
   clear H1
   obtain rfl:=zi H
   have fin1_:=zk trivial
   rotate_left
   · rw [if_neg c3] at H
     exact absurd H (by simp)
   · rw [if_neg c2] at H
     have c2b0:decide (x3_1 < (l0.length:Int))=false:=decide_eq_false c2
     clear c2
     obtain rfl:=zi H
     go_wp2
     go_ret
     exact ⟨za7,za10⟩
   all_goals
    have p100001:0≤(x3_1:Int):=of_decide_eq_true za8
    have q100001:x3_1 < (l0.length:Int):=of_decide_eq_true za8
    obtain ⟨ad100001,e100001,hx100001_0⟩:=Kd.at_int HR0.out x3_1 p100001 q100001
    cases e100001
    replace p100001:=eq_true p100001
    replace q100001:=eq_true q100001
    go_wp2_with (((with_reducible refine gate_callee (f:=101) rfl ?_);refine goesL_ (some 14) rfl rfl Tryz.func101 (by kernel_rfl) rfl #[.int .i64 (rd l0 x3_1),.int .i64 (-9),.int .i64 9] rfl za4 ?_;(with_reducible refine (spec_l1In.calls (rd l0 x3_1) (-9) 9 _ _ A4.out).mono ?_);rintro e w' ⟨rfl,⟨nd,rfl⟩⟩;refine ⟨_,rfl,?_⟩))
    first
    | (
      clear fin0_
      go_roundg k1
      case measure=>have:=HK1.out;omega
      case rel=>exact ⟨(wrap64 (x3_1+1)),za7,H',⟨za15⟩,za10⟩)
    | (
      clear fin1_
      go_ret
      exact ⟨za7,za10⟩)
mutual
def spec_IsValidConstraint.j0:Nat→Bool→Int→ByteArray→ByteArray→Int→ByteArray→List (S65)→List Int→Int→Option (Bool)
 | 0,_,_,_,_,_,_,_,_,_=>none
 | k+1,x3,x69002000,x69002001,x69002002,x69002003,x69002004,x69002005,x69002006,x69002007=>if x69002000=1 then (spec_IsValidConstraint.j1 k x3 x69002000 (x69002000 == 1) x69002000 x69002001 x69002002 x69002003 x69002004 x69002005 x69002006 x69002007) else (spec_IsValidConstraint.j1 k x3 x69002000 (x69002000 == 2) x69002000 x69002001 x69002002 x69002003 x69002004 x69002005 x69002006 x69002007)
def spec_IsValidConstraint.j1:Nat→Bool→Int→Bool→Int→ByteArray→ByteArray→Int→ByteArray→List (S65)→List Int→Int→Option (Bool)
 | 0,_,_,_,_,_,_,_,_,_,_,_=>none
 | k+1,x3,x14,x15,x69002000,x69002001,x69002002,x69002003,x69002004,x69002005,x69002006,x69002007=>if x15=true then ((spec_IsTerm.f k x69002001).bind fun t69002=>(if t69002=true then ((spec_IsTerm.f k x69002002).bind fun t69003=>(if t69003=true then ((spec_l9Zero.f x69002003 x69002004 x69002005).bind fun t69004=>(if t69004=true then (some x3) else (some false))) else (some false))) else (some false))) else (if x14=3 then (spec_IsValidConstraint.j2 k x3 x14 (x14 == 3) x69002000 x69002001 x69002002 x69002003 x69002004 x69002005 x69002006 x69002007) else (spec_IsValidConstraint.j2 k x3 x14 (x14 == 4) x69002000 x69002001 x69002002 x69002003 x69002004 x69002005 x69002006 x69002007))
def spec_IsValidConstraint.j2:Nat→Bool→Int→Bool→Int→ByteArray→ByteArray→Int→ByteArray→List (S65)→List Int→Int→Option (Bool)
 | 0,_,_,_,_,_,_,_,_,_,_,_=>none
 | k+1,x3,x14,x34,x69002000,x69002001,x69002002,x69002003,x69002004,x69002005,x69002006,x69002007=>if x34=true then ((spec_IsTerm.f k x69002001).bind fun t69005=>(if t69005=true then (if x69002002.toList=([]:List UInt8) then ((spec_IsValidRegex.f k x69002003 x69002004 x69002005).bind fun t69006=>(if t69006=true then (some x3) else (some false))) else (some false)) else (some false))) else (if x14=5 then (if x69002001.toList=([]:List UInt8) then (if x69002002.toList=([]:List UInt8) then ((spec_l9Zero.f x69002003 x69002004 x69002005).bind fun t69007=>(if t69007=true then ((spec_l9Coeffs.f k x69002006).bind fun t69008=>(if t69008=true then ((spec_l1In.f x69002007 (-99) 99).bind fun t69009=>(some t69009)) else (some false))) else (some false))) else (some false)) else (some false)) else (some false))
end
def spec_IsValidConstraint.f (k:Nat) (a0_0:Int) (a0_1:ByteArray) (a0_2:ByteArray) (a0_3:Int) (a0_4:ByteArray) (l0_5:List (S65)) (l0_6:List Int) (a0_7:Int):Option (Bool):=if (l0_6.length:Int)=0 then (spec_IsValidConstraint.j0 k (a0_7 == 0) a0_0 a0_1 a0_2 a0_3 a0_4 l0_5 l0_6 a0_7) else (spec_IsValidConstraint.j0 k false a0_0 a0_1 a0_2 a0_3 a0_4 l0_5 l0_6 a0_7)
theorem spec_IsValidConstraint.mono_l:∀ k,(∀ y0 y1 y2 y3 y4 y5 y6 y7 y8,LeO (spec_IsValidConstraint.j0 k y0 y1 y2 y3 y4 y5 y6 y7 y8) (spec_IsValidConstraint.j0 (k+1) y0 y1 y2 y3 y4 y5 y6 y7 y8))∧(∀ y0 y1 y2 y3 y4 y5 y6 y7 y8 y9 y10,LeO (spec_IsValidConstraint.j1 k y0 y1 y2 y3 y4 y5 y6 y7 y8 y9 y10) (spec_IsValidConstraint.j1 (k+1) y0 y1 y2 y3 y4 y5 y6 y7 y8 y9 y10))∧(∀ y0 y1 y2 y3 y4 y5 y6 y7 y8 y9 y10,LeO (spec_IsValidConstraint.j2 k y0 y1 y2 y3 y4 y5 y6 y7 y8 y9 y10) (spec_IsValidConstraint.j2 (k+1) y0 y1 y2 y3 y4 y5 y6 y7 y8 y9 y10))
 | 0=>⟨fun _ _ _ _ _ _ _ _ _ r h=>by simp [spec_IsValidConstraint.j0] at h,fun _ _ _ _ _ _ _ _ _ _ _ r h=>by simp [spec_IsValidConstraint.j1] at h,fun _ _ _ _ _ _ _ _ _ _ _ r h=>by simp [spec_IsValidConstraint.j2] at h⟩
 | k+1=>by
  obtain ⟨ih0,ih1,ih2⟩:=spec_IsValidConstraint.mono_l k
  refine ⟨?_,?_,?_⟩
  ·intro y0 y1 y2 y3 y4 y5 y6 y7 y8
   unfold spec_IsValidConstraint.j0
   repeat' first
   | with_reducible first|exact ih0 _ _ _ _ _ _ _ _ _|exact ih1 _ _ _ _ _ _ _ _ _ _ _|exact ih2 _ _ _ _ _ _ _ _ _ _ _|exact spec_IsTerm.mono _ _|exact spec_IsValidRegex.mono _ _ _ _|exact spec_l9Coeffs.mono _ _|exact LeO.refl _|exact LeO.none _|refine LeO.ite ?_ ?_|refine LeO.bind ?_ (fun _=>?_)
  ·intro y0 y1 y2 y3 y4 y5 y6 y7 y8 y9 y10
   unfold spec_IsValidConstraint.j1
   repeat' first
   | with_reducible first|exact ih0 _ _ _ _ _ _ _ _ _|exact ih1 _ _ _ _ _ _ _ _ _ _ _|exact ih2 _ _ _ _ _ _ _ _ _ _ _|exact spec_IsTerm.mono _ _|exact spec_IsValidRegex.mono _ _ _ _|exact spec_l9Coeffs.mono _ _|exact LeO.refl _|exact LeO.none _|refine LeO.ite ?_ ?_|refine LeO.bind ?_ (fun _=>?_)
  ·intro y0 y1 y2 y3 y4 y5 y6 y7 y8 y9 y10
   unfold spec_IsValidConstraint.j2
   repeat' first
   | with_reducible first|exact ih0 _ _ _ _ _ _ _ _ _|exact ih1 _ _ _ _ _ _ _ _ _ _ _|exact ih2 _ _ _ _ _ _ _ _ _ _ _|exact spec_IsTerm.mono _ _|exact spec_IsValidRegex.mono _ _ _ _|exact spec_l9Coeffs.mono _ _|exact LeO.refl _|exact LeO.none _|refine LeO.ite ?_ ?_|refine LeO.bind ?_ (fun _=>?_)
theorem spec_IsValidConstraint.mono:∀ a0 a1 a2 a3 a4 a5 a6 a7 k,LeO (spec_IsValidConstraint.f k a0 a1 a2 a3 a4 a5 a6 a7) (spec_IsValidConstraint.f (k+1) a0 a1 a2 a3 a4 a5 a6 a7):=by
 intro a0 a1 a2 a3 a4 a5 a6 a7 k
 obtain ⟨ih0,ih1,ih2⟩:=spec_IsValidConstraint.mono_l k
 unfold spec_IsValidConstraint.f
 repeat' first
  | with_reducible first|exact ih0 _ _ _ _ _ _ _ _ _|exact ih1 _ _ _ _ _ _ _ _ _ _ _|exact ih2 _ _ _ _ _ _ _ _ _ _ _|exact spec_IsTerm.mono _ _|exact spec_IsValidRegex.mono _ _ _ _|exact spec_l9Coeffs.mono _ _|exact LeO.refl _|exact LeO.none _|refine LeO.ite ?_ ?_|refine LeO.bind ?_ (fun _=>?_)
theorem spec_IsValidConstraint.calls (k:Nat) (a0_0:Int) (a0_1:ByteArray) (a0_2:ByteArray) (a0_3:Int) (a0_4:ByteArray) (A0_5:Option Addr) (c0_5:Nat) (l0_5:List (S65)) (A0_6:Option Addr) (c0_6:Nat) (l0_6:List Int) (a0_7:Int) (r:Bool) (w:World) (hr0_5:Kd.C k65 w A0_5 l0_5.length l0_5) (hc0_5:l0_5.length≤c0_5) (hr0_6:Kd.C (Kd.int .i64) w A0_6 l0_6.length l0_6) (hc0_6:l0_6.length≤c0_6) (h:spec_IsValidConstraint.f k a0_0 a0_1 a0_2 a0_3 a0_4 l0_5 l0_6 a0_7=some r) :
   Calls Tryz.prog 69 #[.agg #[.int .i64 a0_0,.string a0_1,.string a0_2,.int .i64 a0_3,.string a0_4,.slice A0_5 l0_5.length c0_5,.slice A0_6 l0_6.length c0_6,.int .i64 a0_7]] w fun e w'=>e = .returned (.bool r)∧Below w.heap.size w w':=by
 have hu67:=Tryz.underlying67
 have hu65:=Tryz.underlying65
 have HR0_5:=zk hr0_5
 have HC0_5:=zk hc0_5
 clear hr0_5 hc0_5
 have HR0_6:=zk hr0_6
 have HC0_6:=zk hc0_6
 clear hr0_6 hc0_6
 have HB:=zk (Below.refl w.heap.size w)
 have H:(if (l0_6.length:Int)=0 then (spec_IsValidConstraint.j0 k (a0_7 == 0) a0_0 a0_1 a0_2 a0_3 a0_4 l0_5 l0_6 a0_7) else (spec_IsValidConstraint.j0 k false a0_0 a0_1 a0_2 a0_3 a0_4 l0_5 l0_6 a0_7))=some r:=h
 clear h
 have HC2:=zk H
 clear H
 go_enter Tryz.func69,Tryz.ntmps69
 go_upto_region 1 with (first|((with_reducible refine gate_dst (N:=1) rfl ?_);refine zE (N:=1) (cs:=#[.int .i64 a0_0,.string a0_1,.string a0_2,.int .i64 a0_3,.string a0_4,.slice A0_5 l0_5.length c0_5,.slice A0_6 l0_6.length c0_6,.int .i64 a0_7]) (t:=67) ?_;intro gb69001 hg w3 hbox hb;have n0_:=zk (below_step za3 hb);have n1_:=zk (hbox);have n2_:=zk (zs (w:=w) hg za3);have n3_:=zk (zs (w:=w) hg za3);clear HB;have HB:=n0_;have BK69001:=n1_;have GW69001:=n2_;have GE69001:=n3_;clear n0_ n1_ n2_ n3_;clear hb hbox hg))
 (try simp only [Act.put,zt,zu,zv])
 go_cut [3] (fun v3 wc=>∃ (kq:Nat) (x3_1:Bool),v3 = .bool x3_1∧Aside0 (spec_IsValidConstraint.j0 kq x3_1 a0_0 a0_1 a0_2 a0_3 a0_4 l0_5 l0_6 a0_7=some r)∧Aside0 (kq≤k)∧Aside0 (wc.heap[gb69001]? = some (.cells #[.int .i64 a0_0,.string a0_1,.string a0_2,.int .i64 a0_3,.string a0_4,(.slice A0_5 l0_5.length c0_5),(.slice A0_6 l0_6.length c0_6),.int .i64 a0_7] 67 (0,0)))∧Aside0 (Below w.heap.size w wc))
 case first =>
  have H:=HC2.out
  clear HC2
  by_cases c4:(l0_6.length:Int)=0
  · rw [if_pos c4] at H
    have c4b0:((l0_6.length:Int) == 0)=true:=beq_iff_eq.mpr c4
    have c4b1:((l0_6.length:Int) != 0)=false:=bne_eq_false_iff_eq.mpr c4
    clear c4
    (first|rw [c4b0]|(simp only [i64_w,i32_w];rw [c4b0])|skip)
    have H':=zk H
    clear H
    obtain ⟨hcz5_0,hcz5_1,hcz5_2,hcz5_3,hcz5_4,hcz5_5,hcz5_6,hcz5_7,hfz5_0,hfz5_1,hfz5_2,hfz5_3,hfz5_4,hfz5_5,hfz5_6,hfz5_7⟩:=blk8 BK69001.out
    go_wp2
    go_meet
    case rel=>exact ⟨_,((a0_7 == 0)),za7,H',⟨za23⟩,⟨za1 BK69001.out⟩,⟨za3⟩⟩
  · rw [if_neg c4] at H
    have c4b0:((l0_6.length:Int) == 0)=false:=beq_eq_false_iff_ne.mpr c4
    have c4b1:((l0_6.length:Int) != 0)=true:=bne_iff_ne.mpr c4
    have c4b2:¬ (l0_6 = []):=fun h_=>c4 (by rw [h_];rfl)
    (first|rw [c4b0]|(simp only [i64_w,i32_w];rw [c4b0])|skip)
    have H':=zk H
    clear H
    obtain ⟨hcz6_0,hcz6_1,hcz6_2,hcz6_3,hcz6_4,hcz6_5,hcz6_6,hcz6_7,hfz6_0,hfz6_1,hfz6_2,hfz6_3,hfz6_4,hfz6_5,hfz6_6,hfz6_7⟩:=blk8 BK69001.out
    go_wp2
    go_meet
    case rel=>exact ⟨_,(false),za7,H',⟨za23⟩,⟨za1 BK69001.out⟩,⟨za3⟩⟩
 case rest =>
  clear HC2
  obtain ⟨kq,x3_1,rfl,HA,HJ1,BK69001,HB⟩:=hcut
  cases kq with
  | zero=>exact absurd HA.out (by simp [spec_IsValidConstraint.j0])
  | succ kj1 =>
   have H:=HA.out
   clear HA
   simp only [spec_IsValidConstraint.j0] at H
   have HC7:=zk H
   clear H
   obtain ⟨hcz8_0,hcz8_1,hcz8_2,hcz8_3,hcz8_4,hcz8_5,hcz8_6,hcz8_7,hfz8_0,hfz8_1,hfz8_2,hfz8_3,hfz8_4,hfz8_5,hfz8_6,hfz8_7⟩:=blk8 BK69001.out
   go_upto_if 15 with (fail)
   go_cut [15] (fun v15 wc=>∃ (kq:Nat) (x15_6:Bool),v15 = .bool x15_6∧Aside0 (spec_IsValidConstraint.j1 kq x3_1 a0_0 x15_6 a0_0 a0_1 a0_2 a0_3 a0_4 l0_5 l0_6 a0_7=some r)∧Aside0 (kq≤kj1)∧Aside0 (wc.heap[gb69001]? = some (.cells #[.int .i64 a0_0,.string a0_1,.string a0_2,.int .i64 a0_3,.string a0_4,(.slice A0_5 l0_5.length c0_5),(.slice A0_6 l0_6.length c0_6),.int .i64 a0_7] 67 (0,0)))∧Aside0 (Below w.heap.size w wc))
   case first =>
    have H:=HC7.out
    clear HC7
    by_cases c9:a0_0=1
    · rw [if_pos c9] at H
      have c9b0:(a0_0 == 1)=true:=beq_iff_eq.mpr c9
      have c9b1:(a0_0 != 1)=false:=bne_eq_false_iff_eq.mpr c9
      clear c9
      (first|rw [c9b0]|(simp only [i64_w,i32_w];rw [c9b0])|skip)
      have H':=zk H
      clear H
      go_wp2
      go_meet
      case rel=>exact ⟨_,((a0_0 == 1)),za7,H',⟨za27⟩,⟨za1 BK69001.out⟩,⟨za3⟩⟩
    · rw [if_neg c9] at H
      have c9b0:(a0_0 == 1)=false:=beq_eq_false_iff_ne.mpr c9
      have c9b1:(a0_0 != 1)=true:=bne_iff_ne.mpr c9
      (first|rw [c9b0]|(simp only [i64_w,i32_w];rw [c9b0])|skip)
      have H':=zk H
      clear H
      go_wp2
      go_meet
      case rel=>exact ⟨_,((a0_0 == 2)),za7,H',⟨za27⟩,⟨za1 BK69001.out⟩,⟨za3⟩⟩
   case rest =>
    clear HC7
    try clear hcz8_0
    try clear hcz8_1
    try clear hcz8_2
    try clear hcz8_3
    try clear hcz8_4
    try clear hcz8_5
    try clear hcz8_6
    try clear hcz8_7
    try clear hfz8_0
    try clear hfz8_1
    try clear hfz8_2
    try clear hfz8_3
    try clear hfz8_4
    try clear hfz8_5
    try clear hfz8_6
    try clear hfz8_7
    obtain ⟨kq,x15_6,rfl,HA,HJ6,BK69001,HB⟩:=hcut
    cases kq with
    | zero=>exact absurd HA.out (by simp [spec_IsValidConstraint.j1])
    | succ kj6 =>
     have H:=HA.out
     clear HA
     simp only [spec_IsValidConstraint.j1] at H
     by_cases c10:x15_6=true
     subst c10
     have H1:((spec_IsTerm.f kj6 a0_1).bind fun t69002=>(if t69002=true then ((spec_IsTerm.f kj6 a0_2).bind fun t69003=>(if t69003=true then ((spec_l9Zero.f a0_3 a0_4 l0_5).bind fun t69004=>(if t69004=true then (some x3_1) else (some false))) else (some false))) else (some false)))=some r:=by rw [if_pos rfl] at H;exact H
     clear H
     have H:=H1
     clear H1
     replace H:=zo H
     obtain ⟨t69002,A110,H⟩:=H
     replace H:(if t69002=true then ((spec_IsTerm.f kj6 a0_2).bind fun t69003=>(if t69003=true then ((spec_l9Zero.f a0_3 a0_4 l0_5).bind fun t69004=>(if t69004=true then (some x3_1) else (some false))) else (some false))) else (some false))=some r:=H
     have A11:=zk A110
     clear A110
     by_cases c12:t69002=true
     subst c12
     have H1:((spec_IsTerm.f kj6 a0_2).bind fun t69003=>(if t69003=true then ((spec_l9Zero.f a0_3 a0_4 l0_5).bind fun t69004=>(if t69004=true then (some x3_1) else (some false))) else (some false)))=some r:=by rw [if_pos rfl] at H;exact H
     clear H
     have H:=H1
     clear H1
     replace H:=zo H
     obtain ⟨t69003,A130,H⟩:=H
     replace H:(if t69003=true then ((spec_l9Zero.f a0_3 a0_4 l0_5).bind fun t69004=>(if t69004=true then (some x3_1) else (some false))) else (some false))=some r:=H
     have A13:=zk A130
     clear A130
     by_cases c14:t69003=true
     subst c14
     have H1:((spec_l9Zero.f a0_3 a0_4 l0_5).bind fun t69004=>(if t69004=true then (some x3_1) else (some false)))=some r:=by rw [if_pos rfl] at H;exact H
     clear H
     have H:=H1
     clear H1
     replace H:=zo H
     obtain ⟨t69004,A150,H⟩:=H
     replace H:(if t69004=true then (some x3_1) else (some false))=some r:=H
     have A15:=zk A150
     clear A150
     by_cases c16:t69004=true
     subst c16
     have H1:(some x3_1)=some r:=by rw [if_pos rfl] at H;exact H
     rotate_left
     replace c16:=Bool.eq_false_iff.mpr c16
     subst c16
     have H1:(some false)=some r:=by rw [if_neg (show ¬ (false=true) by decide)] at H;exact H
     rotate_left
     replace c14:=Bool.eq_false_iff.mpr c14
     subst c14
     have H1:(some false)=some r:=by rw [if_neg (show ¬ (false=true) by decide)] at H;exact H
     rotate_left
     replace c12:=Bool.eq_false_iff.mpr c12
     subst c12
     have H1:(some false)=some r:=by rw [if_neg (show ¬ (false=true) by decide)] at H;exact H
     rotate_left
     · replace c10:=Bool.eq_false_iff.mpr c10
       subst c10
       have H1:(if a0_0=3 then (spec_IsValidConstraint.j2 kj6 x3_1 a0_0 (a0_0 == 3) a0_0 a0_1 a0_2 a0_3 a0_4 l0_5 l0_6 a0_7) else (spec_IsValidConstraint.j2 kj6 x3_1 a0_0 (a0_0 == 4) a0_0 a0_1 a0_2 a0_3 a0_4 l0_5 l0_6 a0_7))=some r:=by rw [if_neg (show ¬ (false=true) by decide)] at H;exact H
       clear H
       have H:=H1
       clear H1
       have HC23:=zk H
       clear H
       go_upto_if 34 with (fail)
       go_cut [34] (fun v34 wc=>∃ (kq:Nat) (x34_22:Bool),v34 = .bool x34_22∧Aside0 (spec_IsValidConstraint.j2 kq x3_1 a0_0 x34_22 a0_0 a0_1 a0_2 a0_3 a0_4 l0_5 l0_6 a0_7=some r)∧Aside0 (kq≤kj6)∧Aside0 (wc.heap[gb69001]? = some (.cells #[.int .i64 a0_0,.string a0_1,.string a0_2,.int .i64 a0_3,.string a0_4,(.slice A0_5 l0_5.length c0_5),(.slice A0_6 l0_6.length c0_6),.int .i64 a0_7] 67 (0,0)))∧Aside0 (Below w.heap.size w wc))
       case first =>
        have H:=HC23.out
        clear HC23
        by_cases c24:a0_0=3
        · rw [if_pos c24] at H
          have c24b0:(a0_0 == 3)=true:=beq_iff_eq.mpr c24
          have c24b1:(a0_0 != 3)=false:=bne_eq_false_iff_eq.mpr c24
          clear c24
          (first|rw [c24b0]|(simp only [i64_w,i32_w];rw [c24b0])|skip)
          have H':=zk H
          clear H
          go_wp2
          go_meet
          case rel=>exact ⟨_,((a0_0 == 3)),za7,H',⟨by have:=HJ1.out;have:=HJ6.out;first|omega|exact Nat.le_refl _⟩,⟨za1 BK69001.out⟩,⟨za3⟩⟩
        · rw [if_neg c24] at H
          have c24b0:(a0_0 == 3)=false:=beq_eq_false_iff_ne.mpr c24
          have c24b1:(a0_0 != 3)=true:=bne_iff_ne.mpr c24
          (first|rw [c24b0]|(simp only [i64_w,i32_w];rw [c24b0])|skip)
          have H':=zk H
          clear H
          go_wp2
          go_meet
          case rel=>exact ⟨_,((a0_0 == 4)),za7,H',⟨by have:=HJ1.out;have:=HJ6.out;first|omega|exact Nat.le_refl _⟩,⟨za1 BK69001.out⟩,⟨za3⟩⟩
       case rest =>
        clear HC23
        try clear c10
        try clear hcz8_0
        try clear hcz8_1
        try clear hcz8_2
        try clear hcz8_3
        try clear hcz8_4
        try clear hcz8_5
        try clear hcz8_6
        try clear hcz8_7
        try clear hfz8_0
        try clear hfz8_1
        try clear hfz8_2
        try clear hfz8_3
        try clear hfz8_4
        try clear hfz8_5
        try clear hfz8_6
        try clear hfz8_7
        obtain ⟨kq,x34_22,rfl,HA,HJ22,BK69001,HB⟩:=hcut
        cases kq with
        | zero=>exact absurd HA.out (by simp [spec_IsValidConstraint.j2])
        | succ kj22 =>
         have H:=HA.out
         clear HA
         simp only [spec_IsValidConstraint.j2] at H
         by_cases c25:x34_22=true
         subst c25
         have H1:((spec_IsTerm.f kj22 a0_1).bind fun t69005=>(if t69005=true then (if a0_2.toList=([]:List UInt8) then ((spec_IsValidRegex.f kj22 a0_3 a0_4 l0_5).bind fun t69006=>(if t69006=true then (some x3_1) else (some false))) else (some false)) else (some false)))=some r:=by rw [if_pos rfl] at H;exact H
         clear H
         have H:=H1
         clear H1
         replace H:=zo H
         obtain ⟨t69005,A260,H⟩:=H
         replace H:(if t69005=true then (if a0_2.toList=([]:List UInt8) then ((spec_IsValidRegex.f kj22 a0_3 a0_4 l0_5).bind fun t69006=>(if t69006=true then (some x3_1) else (some false))) else (some false)) else (some false))=some r:=H
         have A26:=zk A260
         clear A260
         by_cases c27:t69005=true
         subst c27
         have H1:(if a0_2.toList=([]:List UInt8) then ((spec_IsValidRegex.f kj22 a0_3 a0_4 l0_5).bind fun t69006=>(if t69006=true then (some x3_1) else (some false))) else (some false))=some r:=by rw [if_pos rfl] at H;exact H
         clear H
         have H:=H1
         clear H1
         by_cases c28:a0_2.toList=([]:List UInt8)
         rw [if_pos c28] at H
         have c28b0:(a0_2.toList == ([]:List UInt8))=true:=beq_iff_eq.mpr c28
         have c28b1:(a0_2.toList != ([]:List UInt8))=false:=bne_eq_false_iff_eq.mpr c28
         clear c28
         replace H:=zo H
         obtain ⟨t69006,A290,H⟩:=H
         replace H:(if t69006=true then (some x3_1) else (some false))=some r:=H
         have A29:=zk A290
         clear A290
         by_cases c30:t69006=true
         subst c30
         have H1:(some x3_1)=some r:=by rw [if_pos rfl] at H;exact H
         clear H
         have H:=H1
         clear H1
         rotate_left
         replace c30:=Bool.eq_false_iff.mpr c30
         subst c30
         have H1:(some false)=some r:=by rw [if_neg (show ¬ (false=true) by decide)] at H;exact H
         clear H
         have H:=H1
         clear H1
         rotate_left
         rw [if_neg c28] at H
         have c28b0:(a0_2.toList == ([]:List UInt8))=false:=beq_eq_false_iff_ne.mpr c28
         have c28b1:(a0_2.toList != ([]:List UInt8))=true:=bne_iff_ne.mpr c28
         rotate_left
         replace c27:=Bool.eq_false_iff.mpr c27
         subst c27
         have H1:(some false)=some r:=by rw [if_neg (show ¬ (false=true) by decide)] at H;exact H
         clear H
         have H:=H1
         clear H1
         rotate_left
         replace c25:=Bool.eq_false_iff.mpr c25
         subst c25
         have H1:(if a0_0=5 then (if a0_1.toList=([]:List UInt8) then (if a0_2.toList=([]:List UInt8) then ((spec_l9Zero.f a0_3 a0_4 l0_5).bind fun t69007=>(if t69007=true then ((spec_l9Coeffs.f kj22 l0_6).bind fun t69008=>(if t69008=true then ((spec_l1In.f a0_7 (-99) 99).bind fun t69009=>(some t69009)) else (some false))) else (some false))) else (some false)) else (some false)) else (some false))=some r:=by rw [if_neg (show ¬ (false=true) by decide)] at H;exact H
         clear H
         have H:=H1
         clear H1
         by_cases c37:a0_0=5
         rw [if_pos c37] at H
         have c37b0:(a0_0 == 5)=true:=beq_iff_eq.mpr c37
         have c37b1:(a0_0 != 5)=false:=bne_eq_false_iff_eq.mpr c37
         clear c37
         by_cases c38:a0_1.toList=([]:List UInt8)
         rw [if_pos c38] at H
         have c38b0:(a0_1.toList == ([]:List UInt8))=true:=beq_iff_eq.mpr c38
         have c38b1:(a0_1.toList != ([]:List UInt8))=false:=bne_eq_false_iff_eq.mpr c38
         clear c38
         by_cases c39:a0_2.toList=([]:List UInt8)
         rw [if_pos c39] at H
         have c39b0:(a0_2.toList == ([]:List UInt8))=true:=beq_iff_eq.mpr c39
         have c39b1:(a0_2.toList != ([]:List UInt8))=false:=bne_eq_false_iff_eq.mpr c39
         clear c39
         replace H:=zo H
         obtain ⟨t69007,A400,H⟩:=H
         replace H:(if t69007=true then ((spec_l9Coeffs.f kj22 l0_6).bind fun t69008=>(if t69008=true then ((spec_l1In.f a0_7 (-99) 99).bind fun t69009=>(some t69009)) else (some false))) else (some false))=some r:=H
         have A40:=zk A400
         clear A400
         by_cases c41:t69007=true
         subst c41
         have H1:((spec_l9Coeffs.f kj22 l0_6).bind fun t69008=>(if t69008=true then ((spec_l1In.f a0_7 (-99) 99).bind fun t69009=>(some t69009)) else (some false)))=some r:=by rw [if_pos rfl] at H;exact H
         clear H
         have H:=H1
         clear H1
         replace H:=zo H
         obtain ⟨t69008,A420,H⟩:=H
         replace H:(if t69008=true then ((spec_l1In.f a0_7 (-99) 99).bind fun t69009=>(some t69009)) else (some false))=some r:=H
         have A42:=zk A420
         clear A420
         by_cases c43:t69008=true
         subst c43
         have H1:((spec_l1In.f a0_7 (-99) 99).bind fun t69009=>(some t69009))=some r:=by rw [if_pos rfl] at H;exact H
         clear H
         have H:=H1
         clear H1
         replace H:=zo H
         obtain ⟨t69009,A440,H⟩:=H
         replace H:(some t69009)=some r:=H
         have A44:=zk A440
         clear A440
         rotate_left
         replace c43:=Bool.eq_false_iff.mpr c43
         subst c43
         have H1:(some false)=some r:=by rw [if_neg (show ¬ (false=true) by decide)] at H;exact H
         clear H
         have H:=H1
         clear H1
         rotate_left
         replace c41:=Bool.eq_false_iff.mpr c41
         subst c41
         have H1:(some false)=some r:=by rw [if_neg (show ¬ (false=true) by decide)] at H;exact H
         clear H
         have H:=H1
         clear H1
         rotate_left
         rw [if_neg c39] at H
         have c39b0:(a0_2.toList == ([]:List UInt8))=false:=beq_eq_false_iff_ne.mpr c39
         have c39b1:(a0_2.toList != ([]:List UInt8))=true:=bne_iff_ne.mpr c39
         rotate_left
         rw [if_neg c38] at H
         have c38b0:(a0_1.toList == ([]:List UInt8))=false:=beq_eq_false_iff_ne.mpr c38
         have c38b1:(a0_1.toList != ([]:List UInt8))=true:=bne_iff_ne.mpr c38
         rotate_left
         · rw [if_neg c37] at H
           have c37b0:(a0_0 == 5)=false:=beq_eq_false_iff_ne.mpr c37
           have c37b1:(a0_0 != 5)=true:=bne_iff_ne.mpr c37
           obtain rfl:=zi H
           go_wp2
           go_ret
           exact ⟨za6,za3⟩
         all_goals
          obtain rfl:=zi H
          obtain ⟨hcz45_0,hcz45_1,hcz45_2,hcz45_3,hcz45_4,hcz45_5,hcz45_6,hcz45_7,hfz45_0,hfz45_1,hfz45_2,hfz45_3,hfz45_4,hfz45_5,hfz45_6,hfz45_7⟩:=blk8 BK69001.out
          go_wp2_with (first|(go_at_call 98;(with_reducible refine (spec_l9Zero.calls a0_3 a0_4 _ _ l0_5 _ _ ?side1 ?side2 A40.out).mono ?_);(case side1=>repeat (first|exact (Kd.C_below HR0_5.out HB.out)|(with_reducible refine Kd.C_alloc ?_ _)|(with_reducible refine Kd.C_drewN ?_ _)|(with_reducible refine Kd.C_drew ?_)));(case side2=>exact HC0_5.out);rintro e w46 ⟨rfl,hb⟩;have n0_:=zk (zb BK69001.out hb);have n1_:=zk (below_step za3 hb);clear BK69001;clear HB;have BK69001:=n0_;have HB:=n1_;clear n0_ n1_;(try clear hb);(try clear hb2);(try clear hk);(try clear hi);obtain ⟨hcz47_0,hcz47_1,hcz47_2,hcz47_3,hcz47_4,hcz47_5,hcz47_6,hcz47_7,hfz47_0,hfz47_1,hfz47_2,hfz47_3,hfz47_4,hfz47_5,hfz47_6,hfz47_7⟩:=blk8 BK69001.out)|(go_at_call 100;(with_reducible refine (spec_l9Coeffs.calls kj22 _ _ l0_6 _ _ ?side1 ?side2 A42.out).mono ?_);(case side1=>repeat (first|exact (Kd.C_below HR0_6.out HB.out)|(with_reducible refine Kd.C_alloc ?_ _)|(with_reducible refine Kd.C_drewN ?_ _)|(with_reducible refine Kd.C_drew ?_)));(case side2=>exact HC0_6.out);rintro e w' ⟨rfl,⟨nd,rfl⟩⟩)|(go_at_call 101;(with_reducible refine (spec_l1In.calls a0_7 (-99) 99 t69009 _ A44.out).mono ?_);rintro e w' ⟨rfl,⟨nd,rfl⟩⟩)|((with_reducible refine gate_callee (f:=97) rfl ?_);refine goesL_ (some 39) rfl rfl Tryz.func97 (by kernel_rfl) rfl #[.string a0_1] rfl za4 ?_;(with_reducible refine (spec_IsTerm.calls kj22 a0_1 _ _ A26.out).mono ?_);rintro e w' ⟨rfl,⟨nd,rfl⟩⟩;refine ⟨_,rfl,?_⟩)|(go_at_call 99;(with_reducible refine (spec_IsValidRegex.calls kj22 a0_3 a0_4 _ _ l0_5 _ _ ?side1 ?side2 A29.out).mono ?_);(case side1=>repeat (first|exact (Kd.C_below HR0_5.out za3)|(with_reducible refine Kd.C_alloc ?_ _)|(with_reducible refine Kd.C_drewN ?_ _)|(with_reducible refine Kd.C_drew ?_)));(case side2=>exact HC0_5.out);rintro e w32 ⟨rfl,hb⟩;have n0_:=zk (zb BK69001.out hb);have n1_:=zk (below_step za3 hb);clear BK69001;clear HB;have BK69001:=n0_;have HB:=n1_;clear n0_ n1_;(try clear hb);(try clear hb2);(try clear hk);(try clear hi)))
          go_ret
          exact ⟨za6,za3⟩
     all_goals
      clear H
      have H:=H1
      clear H1
      obtain rfl:=zi H
      obtain ⟨hcz17_0,hcz17_1,hcz17_2,hcz17_3,hcz17_4,hcz17_5,hcz17_6,hcz17_7,hfz17_0,hfz17_1,hfz17_2,hfz17_3,hfz17_4,hfz17_5,hfz17_6,hfz17_7⟩:=blk8 BK69001.out
      go_wp2_with (first|((with_reducible refine gate_callee (f:=97) rfl ?_);refine goesL_ (some 20) rfl rfl Tryz.func97 (by kernel_rfl) rfl #[.string a0_1] rfl za4 ?_;(with_reducible refine (spec_IsTerm.calls kj6 a0_1 _ _ A11.out).mono ?_);rintro e w' ⟨rfl,⟨nd,rfl⟩⟩;refine ⟨_,rfl,?_⟩)|(go_at_call 97;(with_reducible refine (spec_IsTerm.calls kj6 a0_2 _ _ A13.out).mono ?_);rintro e w' ⟨rfl,⟨nd,rfl⟩⟩)|(go_at_call 98;(with_reducible refine (spec_l9Zero.calls a0_3 a0_4 _ _ l0_5 _ _ ?side1 ?side2 A15.out).mono ?_);(case side1=>repeat (first|exact (Kd.C_below HR0_5.out za3)|(with_reducible refine Kd.C_alloc ?_ _)|(with_reducible refine Kd.C_drewN ?_ _)|(with_reducible refine Kd.C_drew ?_)));(case side2=>exact HC0_5.out);rintro e w18 ⟨rfl,hb⟩;have n0_:=zk (zb BK69001.out hb);have n1_:=zk (below_step za3 hb);clear BK69001;clear HB;have BK69001:=n0_;have HB:=n1_;clear n0_ n1_;(try clear hb);(try clear hb2);(try clear hk);(try clear hi)))
      go_ret
      exact ⟨za6,za3⟩
def spec_VarsOfConstraint.l0:Nat→ByteArray→Int→Int→ByteArray→ByteArray→Int→ByteArray→List (S65)→List Int→Int→Option (ByteArray)
 | 0,_,_,_,_,_,_,_,_,_,_=>none
 | k+1,x3,x4,x72002000,x72002001,x72002002,x72002003,x72002004,x72002005,x72002006,x72002007=>if x4 < (x72002006.length:Int) then (if 0≤x4 then (if (rd x72002006 x4)=0 then (spec_VarsOfConstraint.l0 k x3 (wrap64 (x4+1)) x72002000 x72002001 x72002002 x72002003 x72002004 x72002005 x72002006 x72002007) else (if x4≤(wrap64 (x4+1)) then (if (wrap64 (x4+1))≤3 then (if x3.size+((⟨#[88,89,90]⟩:ByteArray).extract (x4:Int).toNat ((wrap64 (x4+1)):Int).toNat).size≤9223372036854775807 then (spec_VarsOfConstraint.l0 k (x3 ++ ((⟨#[88,89,90]⟩:ByteArray).extract (x4:Int).toNat ((wrap64 (x4+1)):Int).toNat)) (wrap64 (x4+1)) x72002000 x72002001 x72002002 x72002003 x72002004 x72002005 x72002006 x72002007) else (none)) else (none)) else (none))) else (none)) else ((spec_VarsOf.f k x3).bind fun t72004=>(some t72004))
def spec_VarsOfConstraint.f (k:Nat) (a0_0:Int) (a0_1:ByteArray) (a0_2:ByteArray) (a0_3:Int) (a0_4:ByteArray) (l0_5:List (S65)) (l0_6:List Int) (a0_7:Int):Option (ByteArray):=(spec_IsValidConstraint.f k a0_0 a0_1 a0_2 a0_3 a0_4 l0_5 l0_6 a0_7).bind fun t72002=>(if t72002=true then (if a0_1.size+a0_2.size≤9223372036854775807 then (spec_VarsOfConstraint.l0 k (a0_1 ++ a0_2) 0 a0_0 a0_1 a0_2 a0_3 a0_4 l0_5 l0_6 a0_7) else (none)) else (some (⟨#[]⟩:ByteArray)))
theorem spec_VarsOfConstraint.mono_l:∀ k,(∀ y0 y1 y2 y3 y4 y5 y6 y7 y8 y9,LeO (spec_VarsOfConstraint.l0 k y0 y1 y2 y3 y4 y5 y6 y7 y8 y9) (spec_VarsOfConstraint.l0 (k+1) y0 y1 y2 y3 y4 y5 y6 y7 y8 y9))
 | 0=>fun _ _ _ _ _ _ _ _ _ _ r h=>by simp [spec_VarsOfConstraint.l0] at h
 | k+1=>by
  have ih0:=spec_VarsOfConstraint.mono_l k
  ·intro y0 y1 y2 y3 y4 y5 y6 y7 y8 y9
   unfold spec_VarsOfConstraint.l0
   repeat' first
   | with_reducible first|exact ih0 _ _ _ _ _ _ _ _ _ _|exact spec_IsValidConstraint.mono _ _ _ _ _ _ _ _ _|exact spec_VarsOf.mono _ _|exact LeO.refl _|exact LeO.none _|refine LeO.ite ?_ ?_|refine LeO.bind ?_ (fun _=>?_)
theorem spec_VarsOfConstraint.mono:∀ a0 a1 a2 a3 a4 a5 a6 a7 k,LeO (spec_VarsOfConstraint.f k a0 a1 a2 a3 a4 a5 a6 a7) (spec_VarsOfConstraint.f (k+1) a0 a1 a2 a3 a4 a5 a6 a7):=by
 intro a0 a1 a2 a3 a4 a5 a6 a7 k
 have ih0:=spec_VarsOfConstraint.mono_l k
 unfold spec_VarsOfConstraint.f
 repeat' first
  | with_reducible first|exact ih0 _ _ _ _ _ _ _ _ _ _|exact spec_IsValidConstraint.mono _ _ _ _ _ _ _ _ _|exact spec_VarsOf.mono _ _|exact LeO.refl _|exact LeO.none _|refine LeO.ite ?_ ?_|refine LeO.bind ?_ (fun _=>?_)
theorem spec_VarsOfConstraint.calls (k:Nat) (a0_0:Int) (a0_1:ByteArray) (a0_2:ByteArray) (a0_3:Int) (a0_4:ByteArray) (A0_5:Option Addr) (c0_5:Nat) (l0_5:List (S65)) (A0_6:Option Addr) (c0_6:Nat) (l0_6:List Int) (a0_7:Int) (r:ByteArray) (w:World) (hr0_5:Kd.C k65 w A0_5 l0_5.length l0_5) (hc0_5:l0_5.length≤c0_5) (hr0_6:Kd.C (Kd.int .i64) w A0_6 l0_6.length l0_6) (hc0_6:l0_6.length≤c0_6) (h:spec_VarsOfConstraint.f k a0_0 a0_1 a0_2 a0_3 a0_4 l0_5 l0_6 a0_7=some r) :
  Calls Tryz.prog 72 #[.agg #[.int .i64 a0_0,.string a0_1,.string a0_2,.int .i64 a0_3,.string a0_4,.slice A0_5 l0_5.length c0_5,.slice A0_6 l0_6.length c0_6,.int .i64 a0_7]] w fun e w'=>e = .returned (.string r)∧Below w.heap.size w w':=by
 have hu67:=Tryz.underlying67
 have HR0_5:=zk hr0_5
 have HC0_5:=zk hc0_5
 clear hr0_5 hc0_5
 have HR0_6:=zk hr0_6
 have HC0_6:=zk hc0_6
 clear hr0_6 hc0_6
 have HB:=zk (Below.refl w.heap.size w)
 have H:((spec_IsValidConstraint.f k a0_0 a0_1 a0_2 a0_3 a0_4 l0_5 l0_6 a0_7).bind fun t72002=>(if t72002=true then (if a0_1.size+a0_2.size≤9223372036854775807 then (spec_VarsOfConstraint.l0 k (a0_1 ++ a0_2) 0 a0_0 a0_1 a0_2 a0_3 a0_4 l0_5 l0_6 a0_7) else (none)) else (some (⟨#[]⟩:ByteArray))))=some r:=h
 clear h
 go_enter Tryz.func72,Tryz.ntmps72
 go_upto_region 1 with (first|((with_reducible refine gate_dst (N:=1) rfl ?_);refine zE (N:=1) (cs:=#[.int .i64 a0_0,.string a0_1,.string a0_2,.int .i64 a0_3,.string a0_4,.slice A0_5 l0_5.length c0_5,.slice A0_6 l0_6.length c0_6,.int .i64 a0_7]) (t:=67) ?_;intro gb72001 hg w5 hbox hb;have n0_:=zk (below_step za3 hb);have n1_:=zk (hbox);have n2_:=zk (zs (w:=w) hg za3);have n3_:=zk (zs (w:=w) hg za3);clear HB;have HB:=n0_;have BK72001:=n1_;have GW72001:=n2_;have GE72001:=n3_;clear n0_ n1_ n2_ n3_;clear hb hbox hg;obtain ⟨hcz6_0,hcz6_1,hcz6_2,hcz6_3,hcz6_4,hcz6_5,hcz6_6,hcz6_7,hfz6_0,hfz6_1,hfz6_2,hfz6_3,hfz6_4,hfz6_5,hfz6_6,hfz6_7⟩:=blk8 BK72001.out))
 replace H:=zo H
 obtain ⟨t72002,A20,H⟩:=H
 replace H:(if t72002=true then (if a0_1.size+a0_2.size≤9223372036854775807 then (spec_VarsOfConstraint.l0 k (a0_1 ++ a0_2) 0 a0_0 a0_1 a0_2 a0_3 a0_4 l0_5 l0_6 a0_7) else (none)) else (some (⟨#[]⟩:ByteArray)))=some r:=H
 have A2:=zk A20
 clear A20
 by_cases c3:t72002=true
 subst c3
 have H1:(if a0_1.size+a0_2.size≤9223372036854775807 then (spec_VarsOfConstraint.l0 k (a0_1 ++ a0_2) 0 a0_0 a0_1 a0_2 a0_3 a0_4 l0_5 l0_6 a0_7) else (none))=some r:=by rw [if_pos rfl] at H;exact H
 clear H
 have H:=H1
 clear H1
 by_cases c4:a0_1.size+a0_2.size≤9223372036854775807
 ·rw [if_pos c4] at H
  have c4z:=c4
  try simp at c4z
  try replace c4z:=eq_false (Nat.not_lt.2 c4z)
  have c4b0:=eq_true c4
  have c4b1:decide (a0_1.size+a0_2.size≤9223372036854775807)=true:=decide_eq_true c4
  try have c4b2:(9223372036854775807 < a0_1.size+a0_2.size)=False:=eq_false (Nat.not_lt.2 c4)
  have H':=zk H
  clear H
  go_wp2_with (first|((with_reducible refine gate_callee (f:=69) rfl ?_);refine goesL_ (some 6) rfl rfl Tryz.func69 (by kernel_rfl) rfl #[.agg #[.int .i64 a0_0,.string a0_1,.string a0_2,.int .i64 a0_3,.string a0_4,.slice A0_5 l0_5.length c0_5,.slice A0_6 l0_6.length c0_6,.int .i64 a0_7]] rfl za4 ?_;(with_reducible refine (spec_IsValidConstraint.calls k a0_0 a0_1 a0_2 a0_3 a0_4 _ _ l0_5 _ _ l0_6 a0_7 _ _ ?side1 ?side2 ?side3 ?side4 A2.out).mono ?_);(case side1=>repeat (first|exact (Kd.C_below HR0_5.out HB.out)|(with_reducible refine Kd.C_alloc ?_ _)|(with_reducible refine Kd.C_drewN ?_ _)|(with_reducible refine Kd.C_drew ?_)));(case side2=>exact HC0_5.out);(case side3=>repeat (first|exact (Kd.C_below HR0_6.out HB.out)|(with_reducible refine Kd.C_alloc ?_ _)|(with_reducible refine Kd.C_drewN ?_ _)|(with_reducible refine Kd.C_drew ?_)));(case side4=>exact HC0_6.out);rintro e w7 ⟨rfl,hb⟩;refine ⟨_,rfl,?_⟩;have n0_:=zk (zb BK72001.out hb);have n1_:=zk (below_step za3 hb);clear BK72001;clear HB;have BK72001:=n0_;have HB:=n1_;clear n0_ n1_;(try clear hb);(try clear hb2);(try clear hk);(try clear hi);obtain ⟨hcz8_0,hcz8_1,hcz8_2,hcz8_3,hcz8_4,hcz8_5,hcz8_6,hcz8_7,hfz8_0,hfz8_1,hfz8_2,hfz8_3,hfz8_4,hfz8_5,hfz8_6,hfz8_7⟩:=blk8 BK72001.out))
  first|go_loopg [3,4] k (fun kq v3 v4 w'=>∃ (x3_1:ByteArray) (x4_1:Int),v3 = .string x3_1∧v4 = .int .i64 x4_1∧Aside0 (spec_VarsOfConstraint.l0 kq x3_1 x4_1 a0_0 a0_1 a0_2 a0_3 a0_4 l0_5 l0_6 a0_7=some r)∧Aside0 (kq≤k)∧Aside0 (w'.heap[gb72001]? = some (.cells #[.int .i64 a0_0,.string a0_1,.string a0_2,.int .i64 a0_3,.string a0_4,(.slice A0_5 l0_5.length c0_5),(.slice A0_6 l0_6.length c0_6),.int .i64 a0_7] 67 (0,0)))∧Aside0 (Below w.heap.size w w'))|(simp only [Act.put,zt,zv,zu];go_loopg [3,4] k (fun kq v3 v4 w'=>∃ (x3_1:ByteArray) (x4_1:Int),v3 = .string x3_1∧v4 = .int .i64 x4_1∧Aside0 (spec_VarsOfConstraint.l0 kq x3_1 x4_1 a0_0 a0_1 a0_2 a0_3 a0_4 l0_5 l0_6 a0_7=some r)∧Aside0 (kq≤k)∧Aside0 (w'.heap[gb72001]? = some (.cells #[.int .i64 a0_0,.string a0_1,.string a0_2,.int .i64 a0_3,.string a0_4,(.slice A0_5 l0_5.length c0_5),(.slice A0_6 l0_6.length c0_6),.int .i64 a0_7] 67 (0,0)))∧Aside0 (Below w.heap.size w w')))
  case atStart=>exact ⟨(a0_1 ++ a0_2),(0),za7,za7,H',⟨Nat.le_refl _⟩,⟨za1 BK72001.out⟩,⟨za3⟩⟩
  case round =>
   clear H'
   try clear c4
   try clear c4b0
   try clear c4b1
   try clear c4b2
   try clear hcz6_0
   try clear hcz6_1
   try clear hcz6_2
   try clear hcz6_3
   try clear hcz6_4
   try clear hcz6_5
   try clear hcz6_6
   try clear hcz6_7
   try clear hcz8_0
   try clear hcz8_1
   try clear hcz8_2
   try clear hcz8_3
   try clear hcz8_4
   try clear hcz8_5
   try clear hcz8_6
   try clear hcz8_7
   try clear hfz6_0
   try clear hfz6_1
   try clear hfz6_2
   try clear hfz6_3
   try clear hfz6_4
   try clear hfz6_5
   try clear hfz6_6
   try clear hfz6_7
   try clear hfz8_0
   try clear hfz8_1
   try clear hfz8_2
   try clear hfz8_3
   try clear hfz8_4
   try clear hfz8_5
   try clear hfz8_6
   try clear hfz8_7
   obtain ⟨x3_1,x4_1,rfl,rfl,HA,HK1,BK72001,HB⟩:=hrel
   cases gk with
   | zero=>exact absurd HA.out (by simp [spec_VarsOfConstraint.l0])
   | succ k1 =>
    have H:=HA.out
    clear HA
    simp only [spec_VarsOfConstraint.l0] at H
    by_cases c9:x4_1 < (l0_6.length:Int)
    rw [if_pos c9] at H
    have c9b0:decide (x4_1 < (l0_6.length:Int))=true:=decide_eq_true c9
    clear c9
    by_cases c10:0≤x4_1
    rw [if_pos c10] at H
    have c10b0:decide (0≤x4_1)=true:=decide_eq_true c10
    clear c10
    by_cases c11:(rd l0_6 x4_1)=0
    rw [if_pos c11] at H
    have c11b0:((rd l0_6 x4_1) == 0)=true:=beq_iff_eq.mpr c11
    have c11b1:((rd l0_6 x4_1) != 0)=false:=bne_eq_false_iff_eq.mpr c11
    clear c11
    have fin0_:=zk trivial
    rotate_left
    rw [if_neg c11] at H
    have c11b0:((rd l0_6 x4_1) == 0)=false:=beq_eq_false_iff_ne.mpr c11
    have c11b1:((rd l0_6 x4_1) != 0)=true:=bne_iff_ne.mpr c11
    have c13b0:=eq_true (of_decide_eq_true za8:0≤x4_1)
    by_cases c14:x4_1≤(wrap64 (x4_1+1))
    rw [if_pos c14] at H
    have c14b0:=eq_true c14
    have c14b1:decide (x4_1≤(wrap64 (x4_1+1)))=true:=decide_eq_true c14
    by_cases c15:(wrap64 (x4_1+1))≤3
    rw [if_pos c15] at H
    have c15b0:=eq_true c15
    have c15b1:decide ((wrap64 (x4_1+1))≤3)=true:=decide_eq_true c15
    by_cases c16:x3_1.size+((⟨#[88,89,90]⟩:ByteArray).extract (x4_1:Int).toNat ((wrap64 (x4_1+1)):Int).toNat).size≤9223372036854775807
    rw [if_pos c16] at H
    have c16z:=c16
    try simp at c16z
    try replace c16z:=eq_false (Nat.not_lt.2 c16z)
    have c16b0:=eq_true c16
    have c16b1:decide (x3_1.size+((⟨#[88,89,90]⟩:ByteArray).extract (x4_1:Int).toNat ((wrap64 (x4_1+1)):Int).toNat).size≤9223372036854775807)=true:=decide_eq_true c16
    try have c16b2:(9223372036854775807 < x3_1.size+((⟨#[88,89,90]⟩:ByteArray).extract (x4_1:Int).toNat ((wrap64 (x4_1+1)):Int).toNat).size)=False:=eq_false (Nat.not_lt.2 c16)
    have fin1_:=zk trivial
    rotate_left
    · rw [if_neg c16] at H
      exact absurd H (by simp)
    · rw [if_neg c15] at H
      exact absurd H (by simp)
    · rw [if_neg c14] at H
      exact absurd H (by simp)
    · rw [if_neg c10] at H
      exact absurd H (by simp)
    · rw [if_neg c9] at H
      have c9b0:decide (x4_1 < (l0_6.length:Int))=false:=decide_eq_false c9
      clear c9
      replace H:=zo H
      obtain ⟨t72004,A180,H⟩:=H
      replace H:(some t72004)=some r:=H
      have A18:=zk A180
      clear A180
      obtain rfl:=zi H
      obtain ⟨hcz19_0,hcz19_1,hcz19_2,hcz19_3,hcz19_4,hcz19_5,hcz19_6,hcz19_7,hfz19_0,hfz19_1,hfz19_2,hfz19_3,hfz19_4,hfz19_5,hfz19_6,hfz19_7⟩:=blk8 BK72001.out
      go_wp2_with (first|((with_reducible refine gate_callee (f:=73) rfl ?_);refine goesL_ (some 33) rfl rfl Tryz.func73 (by kernel_rfl) rfl #[.string x3_1] rfl za4 ?_;(with_reducible refine (spec_VarsOf.calls k1 x3_1 t72004 _ A18.out).mono ?_);rintro e w' ⟨rfl,⟨nd,rfl⟩⟩;refine ⟨_,rfl,?_⟩))
      go_ret
      exact ⟨za6,za3⟩
    all_goals
     have H':=zk H
     clear H
     obtain ⟨hcz12_0,hcz12_1,hcz12_2,hcz12_3,hcz12_4,hcz12_5,hcz12_6,hcz12_7,hfz12_0,hfz12_1,hfz12_2,hfz12_3,hfz12_4,hfz12_5,hfz12_6,hfz12_7⟩:=blk8 BK72001.out
     have p72003:0≤(x4_1:Int):=of_decide_eq_true za8
     have q72003:x4_1 < (l0_6.length:Int):=of_decide_eq_true za8
     obtain ⟨ad72003,e72003,hx72003_0⟩:=Kd.at_int HR0_6.out x4_1 p72003 q72003
     cases e72003
     replace hx72003_0:=zx HB.out hx72003_0
     replace p72003:=eq_true p72003
     replace q72003:=eq_true q72003
     go_wp2
     first
     | (
       clear fin0_
       go_roundg k1
       case measure=>have:=HK1.out;omega
       case rel=>exact ⟨(x3_1),(wrap64 (x4_1+1)),za7,za7,H',⟨za15⟩,⟨za1 BK72001.out⟩,⟨za3⟩⟩)
     | (
       clear fin1_
       go_roundg k1
       case measure=>have:=HK1.out;omega
       case rel=>exact ⟨(x3_1 ++ ((⟨#[88,89,90]⟩:ByteArray).extract (x4_1:Int).toNat ((wrap64 (x4_1+1)):Int).toNat)),(wrap64 (x4_1+1)),za7,za7,H',⟨za15⟩,⟨za1 BK72001.out⟩,⟨za3⟩⟩)
 ·rw [if_neg c4] at H
  exact absurd H (by simp)
 ·replace c3:=Bool.eq_false_iff.mpr c3
  subst c3
  have H1:(some (⟨#[]⟩:ByteArray))=some r:=by rw [if_neg (show ¬ (false=true) by decide)] at H;exact H
  clear H
  have H:=H1
  clear H1
  obtain rfl:=zi H
  go_wp2_with (first|((with_reducible refine gate_callee (f:=69) rfl ?_);refine goesL_ (some 6) rfl rfl Tryz.func69 (by kernel_rfl) rfl #[.agg #[.int .i64 a0_0,.string a0_1,.string a0_2,.int .i64 a0_3,.string a0_4,.slice A0_5 l0_5.length c0_5,.slice A0_6 l0_6.length c0_6,.int .i64 a0_7]] rfl za4 ?_;(with_reducible refine (spec_IsValidConstraint.calls k a0_0 a0_1 a0_2 a0_3 a0_4 _ _ l0_5 _ _ l0_6 a0_7 _ _ ?side1 ?side2 ?side3 ?side4 A2.out).mono ?_);(case side1=>repeat (first|exact (Kd.C_below HR0_5.out HB.out)|(with_reducible refine Kd.C_alloc ?_ _)|(with_reducible refine Kd.C_drewN ?_ _)|(with_reducible refine Kd.C_drew ?_)));(case side2=>exact HC0_5.out);(case side3=>repeat (first|exact (Kd.C_below HR0_6.out HB.out)|(with_reducible refine Kd.C_alloc ?_ _)|(with_reducible refine Kd.C_drewN ?_ _)|(with_reducible refine Kd.C_drew ?_)));(case side4=>exact HC0_6.out);rintro e w22 ⟨rfl,hb⟩;refine ⟨_,rfl,?_⟩;have n0_:=zk (zb BK72001.out hb);have n1_:=zk (below_step za3 hb);clear BK72001;clear HB;have BK72001:=n0_;have HB:=n1_;clear n0_ n1_;(try clear hb);(try clear hb2);(try clear hk);(try clear hi)))
  go_ret
  exact ⟨za6,za3⟩
def spec_l9Sum.f (l0:List Int) (a1_0:ByteArray) (a1_1:ByteArray) (a1_2:ByteArray):Option (Int):=if 0 < (l0.length:Int) then (if 1 < (l0.length:Int) then (if 2 < (l0.length:Int) then (some (wrap64 ((wrap64 ((wrap64 ((rd l0 0) * (a1_0.size:Int)))+(wrap64 ((rd l0 1) * (a1_1.size:Int)))))+(wrap64 ((rd l0 2) * (a1_2.size:Int)))))) else (none)) else (none)) else (none)
theorem spec_l9Sum.calls (A0:Option Addr) (c0:Nat) (l0:List Int) (a1_0:ByteArray) (a1_1:ByteArray) (a1_2:ByteArray) (r:Int) (w:World) (hr0:Kd.C (Kd.int .i64) w A0 l0.length l0) (hc0:l0.length≤c0) (h:spec_l9Sum.f l0 a1_0 a1_1 a1_2=some r) :
  Calls Tryz.prog 116 #[.slice A0 l0.length c0,.agg #[.string a1_0,.string a1_1,.string a1_2]] w fun e w'=>e = .returned (.int .i64 r)∧Below w.heap.size w w':=by
 have hu32:=Tryz.underlying32
 have HR0:=zk hr0
 have HC0:=zk hc0
 clear hr0 hc0
 have HB:=zk (Below.refl w.heap.size w)
 have H:(if 0 < (l0.length:Int) then (if 1 < (l0.length:Int) then (if 2 < (l0.length:Int) then (some (wrap64 ((wrap64 ((wrap64 ((rd l0 0) * (a1_0.size:Int)))+(wrap64 ((rd l0 1) * (a1_1.size:Int)))))+(wrap64 ((rd l0 2) * (a1_2.size:Int)))))) else (none)) else (none)) else (none))=some r:=h
 clear h
 by_cases c3:0 < (l0.length:Int)
 rw [if_pos c3] at H
 have c3b0:decide (0 < (l0.length:Int))=true:=decide_eq_true c3
 have c3b1:decide (0 < l0.length)=true:=decide_eq_true (by omega)
 clear c3
 by_cases c4:1 < (l0.length:Int)
 rw [if_pos c4] at H
 have c4b0:decide (1 < (l0.length:Int))=true:=decide_eq_true c4
 have c4b1:decide (1 < l0.length)=true:=decide_eq_true (by omega)
 clear c4
 by_cases c5:2 < (l0.length:Int)
 ·rw [if_pos c5] at H
  have c5b0:decide (2 < (l0.length:Int))=true:=decide_eq_true c5
  have c5b1:decide (2 < l0.length)=true:=decide_eq_true (by omega)
  clear c5
  obtain rfl:=zi H
  go_enter Tryz.func116,Tryz.ntmps116
  go_wp2_with (first|((with_reducible refine gate_dst (N:=3) rfl ?_);refine zE (N:=3) (cs:=#[.string a1_0,.string a1_1,.string a1_2]) (t:=32) ?_;intro gb116001 hg w6 hbox hb;have n0_:=zk (below_step za3 hb);have n1_:=zk (hbox);have n2_:=zk (zs (w:=w) hg za3);have n3_:=zk (zs (w:=w) hg za3);clear HB;have HB:=n0_;have BK116001:=n1_;have GW116001:=n2_;have GE116001:=n3_;clear n0_ n1_ n2_ n3_;clear hb hbox hg;have p116002:0≤(0:Int):=(by omega);have q116002:0 < (l0.length:Int):=of_decide_eq_true za8;obtain ⟨ad116002,e116002,hx116002_0⟩:=Kd.at_int HR0.out 0 p116002 q116002;cases e116002;have qi116002:(0 < l0.length)=True:=eq_true (by omega);(try rw [show ((0:Int)).toNat=0 from rfl] at hx116002_0);(try rw [Addr.add_zero'] at hx116002_0);replace hx116002_0:=zx HB.out hx116002_0;replace p116002:=eq_true p116002;replace q116002:=eq_true q116002;obtain ⟨hcz7_0,hcz7_1,hcz7_2,hfz7_0,hfz7_1,hfz7_2⟩:=blk3 BK116001.out;have p116003:0≤(1:Int):=(by omega);have q116003:1 < (l0.length:Int):=of_decide_eq_true za8;obtain ⟨ad116003,e116003,hx116003_0⟩:=Kd.at_int HR0.out 1 p116003 q116003;obtain rfl:ad116002=ad116003:=(by injection e116003);(try simp only [show (1:Int).toNat=1 from rfl,Nat.reduceMul,Nat.reduceEqDiff,Go.Addr.add,↓reduceIte] at hx116003_0);have qi116003:(1 < l0.length)=True:=eq_true (by omega);(try rw [show ((1:Int)).toNat=1 from rfl] at hx116003_0);replace hx116003_0:=zx HB.out hx116003_0;replace p116003:=eq_true p116003;replace q116003:=eq_true q116003;have p116004:0≤(2:Int):=(by omega);have q116004:2 < (l0.length:Int):=of_decide_eq_true za8;obtain ⟨ad116004,e116004,hx116004_0⟩:=Kd.at_int HR0.out 2 p116004 q116004;obtain rfl:ad116002=ad116004:=(by injection e116004);(try simp only [show (2:Int).toNat=2 from rfl,Nat.reduceMul,Nat.reduceEqDiff,Go.Addr.add,↓reduceIte] at hx116004_0);have qi116004:(2 < l0.length)=True:=eq_true (by omega);(try rw [show ((2:Int)).toNat=2 from rfl] at hx116004_0);replace hx116004_0:=zx HB.out hx116004_0;replace p116004:=eq_true p116004;replace q116004:=eq_true q116004))
  repeat (go_quiet (first|((with_reducible refine gate_dst (N:=3) rfl ?_);refine zE (N:=3) (cs:=#[.string a1_0,.string a1_1,.string a1_2]) (t:=32) ?_;intro gb116001 hg w6 hbox hb;have n0_:=zk (below_step za3 hb);have n1_:=zk (hbox);have n2_:=zk (zs (w:=w) hg za3);have n3_:=zk (zs (w:=w) hg za3);clear HB;have HB:=n0_;have BK116001:=n1_;have GW116001:=n2_;have GE116001:=n3_;clear n0_ n1_ n2_ n3_;clear hb hbox hg;have p116002:0≤(0:Int):=(by omega);have q116002:0 < (l0.length:Int):=of_decide_eq_true za8;obtain ⟨ad116002,e116002,hx116002_0⟩:=Kd.at_int HR0.out 0 p116002 q116002;cases e116002;have qi116002:(0 < l0.length)=True:=eq_true (by omega);(try rw [show ((0:Int)).toNat=0 from rfl] at hx116002_0);(try rw [Addr.add_zero'] at hx116002_0);replace hx116002_0:=zx HB.out hx116002_0;replace p116002:=eq_true p116002;replace q116002:=eq_true q116002;obtain ⟨hcz7_0,hcz7_1,hcz7_2,hfz7_0,hfz7_1,hfz7_2⟩:=blk3 BK116001.out;have p116003:0≤(1:Int):=(by omega);have q116003:1 < (l0.length:Int):=of_decide_eq_true za8;obtain ⟨ad116003,e116003,hx116003_0⟩:=Kd.at_int HR0.out 1 p116003 q116003;obtain rfl:ad116002=ad116003:=(by injection e116003);(try simp only [show (1:Int).toNat=1 from rfl,Nat.reduceMul,Nat.reduceEqDiff,Go.Addr.add,↓reduceIte] at hx116003_0);have qi116003:(1 < l0.length)=True:=eq_true (by omega);(try rw [show ((1:Int)).toNat=1 from rfl] at hx116003_0);replace hx116003_0:=zx HB.out hx116003_0;replace p116003:=eq_true p116003;replace q116003:=eq_true q116003;have p116004:0≤(2:Int):=(by omega);have q116004:2 < (l0.length:Int):=of_decide_eq_true za8;obtain ⟨ad116004,e116004,hx116004_0⟩:=Kd.at_int HR0.out 2 p116004 q116004;obtain rfl:ad116002=ad116004:=(by injection e116004);(try simp only [show (2:Int).toNat=2 from rfl,Nat.reduceMul,Nat.reduceEqDiff,Go.Addr.add,↓reduceIte] at hx116004_0);have qi116004:(2 < l0.length)=True:=eq_true (by omega);(try rw [show ((2:Int)).toNat=2 from rfl] at hx116004_0);replace hx116004_0:=zx HB.out hx116004_0;replace p116004:=eq_true p116004;replace q116004:=eq_true q116004));try go_wp2_with (first|((with_reducible refine gate_dst (N:=3) rfl ?_);refine zE (N:=3) (cs:=#[.string a1_0,.string a1_1,.string a1_2]) (t:=32) ?_;intro gb116001 hg w6 hbox hb;have n0_:=zk (below_step za3 hb);have n1_:=zk (hbox);have n2_:=zk (zs (w:=w) hg za3);have n3_:=zk (zs (w:=w) hg za3);clear HB;have HB:=n0_;have BK116001:=n1_;have GW116001:=n2_;have GE116001:=n3_;clear n0_ n1_ n2_ n3_;clear hb hbox hg;have p116002:0≤(0:Int):=(by omega);have q116002:0 < (l0.length:Int):=of_decide_eq_true za8;obtain ⟨ad116002,e116002,hx116002_0⟩:=Kd.at_int HR0.out 0 p116002 q116002;cases e116002;have qi116002:(0 < l0.length)=True:=eq_true (by omega);(try rw [show ((0:Int)).toNat=0 from rfl] at hx116002_0);(try rw [Addr.add_zero'] at hx116002_0);replace hx116002_0:=zx HB.out hx116002_0;replace p116002:=eq_true p116002;replace q116002:=eq_true q116002;obtain ⟨hcz7_0,hcz7_1,hcz7_2,hfz7_0,hfz7_1,hfz7_2⟩:=blk3 BK116001.out;have p116003:0≤(1:Int):=(by omega);have q116003:1 < (l0.length:Int):=of_decide_eq_true za8;obtain ⟨ad116003,e116003,hx116003_0⟩:=Kd.at_int HR0.out 1 p116003 q116003;obtain rfl:ad116002=ad116003:=(by injection e116003);(try simp only [show (1:Int).toNat=1 from rfl,Nat.reduceMul,Nat.reduceEqDiff,Go.Addr.add,↓reduceIte] at hx116003_0);have qi116003:(1 < l0.length)=True:=eq_true (by omega);(try rw [show ((1:Int)).toNat=1 from rfl] at hx116003_0);replace hx116003_0:=zx HB.out hx116003_0;replace p116003:=eq_true p116003;replace q116003:=eq_true q116003;have p116004:0≤(2:Int):=(by omega);have q116004:2 < (l0.length:Int):=of_decide_eq_true za8;obtain ⟨ad116004,e116004,hx116004_0⟩:=Kd.at_int HR0.out 2 p116004 q116004;obtain rfl:ad116002=ad116004:=(by injection e116004);(try simp only [show (2:Int).toNat=2 from rfl,Nat.reduceMul,Nat.reduceEqDiff,Go.Addr.add,↓reduceIte] at hx116004_0);have qi116004:(2 < l0.length)=True:=eq_true (by omega);(try rw [show ((2:Int)).toNat=2 from rfl] at hx116004_0);replace hx116004_0:=zx HB.out hx116004_0;replace p116004:=eq_true p116004;replace q116004:=eq_true q116004)))
  go_ret
  exact ⟨za6,za3⟩
 ·rw [if_neg c5] at H
  exact absurd H (by simp)
 ·rw [if_neg c4] at H
  exact absurd H (by simp)
 ·rw [if_neg c3] at H
  exact absurd H (by simp)
end Go.Proofs.YtffjfdoghofkdaaGreat.A
