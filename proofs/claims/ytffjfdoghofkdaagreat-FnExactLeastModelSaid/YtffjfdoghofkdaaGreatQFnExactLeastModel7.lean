/- FnExactLeastModel: what its proof needs, put together by this session's program wip/merge.py out of the texts that wip/xp.py printed and of this session's own. -/
import Derived.Test.YtffjfdoghofkdaaGreatQFnExactLeastModel6
import Derived.ChangeArms
import Derived.ChangeReads
import Derived.DataReads
import Derived.DataElems
import Derived.Lib.Strings
import Derived.Lib.Bytealg
set_option linter.unusedVariables false
set_option linter.unusedSimpArgs false
set_option linter.unusedSectionVars false
set_option maxHeartbeats 8000000
set_option maxRecDepth 100000
namespace Go.Proofs.YtffjfdoghofkdaaGreat.A
open Go.RowKit YtffjfdoghofkdaaGreat.Ext YtffjfdoghofkdaaGreatW.PrintWords YtffjfdoghofkdaaGreatW.PrintLast YtffjfdoghofkdaaGreatW.PrintMore
attribute [local go_sem] max2_int min2_int max_two min_two max_three min_three max_four min_four
def impl_TotalLength.f (a0_0:ByteArray) (a0_1:ByteArray) (a0_2:ByteArray):Option (Int):=some (wrap64 ((wrap64 ((a0_0.size:Int)+(a0_1.size:Int)))+(a0_2.size:Int)))
theorem impl_TotalLength.calls (a0_0:ByteArray) (a0_1:ByteArray) (a0_2:ByteArray) (r:Int) (w:World) (h:impl_TotalLength.f a0_0 a0_1 a0_2=some r) :
  Calls Tryz.prog 16 #[.agg #[.string a0_0,.string a0_1,.string a0_2]] w fun e w'=>e = .returned (.int .i64 r)∧Below w.heap.size w w':=by
 have hu32:=Tryz.underlying32
 have HB:=zk (Below.refl w.heap.size w)
 have H:(some (wrap64 ((wrap64 ((a0_0.size:Int)+(a0_1.size:Int)))+(a0_2.size:Int))))=some r:=h
 clear h
 obtain rfl:=zi H
 go_enter Tryz.func16,Tryz.ntmps16
 go_wp2_with (first|((with_reducible refine gate_dst (N:=1) rfl ?_);refine zE (N:=1) (cs:=#[.string a0_0,.string a0_1,.string a0_2]) (t:=32) ?_;intro gb16001 hg w2 hbox hb;have n0_:=zk (below_step za4 hb);have n1_:=zk (hbox);have n2_:=zk (zs (w:=w) hg za4);have n3_:=zk (zs (w:=w) hg za4);clear HB;have HB:=n0_;have BK16001:=n1_;have GW16001:=n2_;have GE16001:=n3_;clear n0_ n1_ n2_ n3_;clear hb hbox hg;obtain ⟨hcz3_0,hcz3_1,hcz3_2,hfz3_0,hfz3_1,hfz3_2⟩:=blk3 BK16001.out))
 go_ret
 exact ⟨za7,za4⟩
def impl_LeastModel.l0:Nat→Bool→List (S32)→Int→Int→ByteArray→ByteArray→ByteArray→Option (ByteArray × ByteArray × ByteArray × Bool)
 | 0,_,_,_,_,_,_,_=>none
 | k+1,x7,x13,x14,x15,x11004000,x11004001,x11004002=>if x15 < x14 then (if 0≤x15 then (if x15 < (x13.length:Int) then (if x7=true then ((impl_TotalLength.f ((rd_T32 x13 x15).f0) ((rd_T32 x13 x15).f1) ((rd_T32 x13 x15).f2)).bind fun t11009=>((impl_TotalLength.f x11004000 x11004001 x11004002).bind fun t11010=>(if t11009 < t11010 then (impl_LeastModel.l0 k true x13 x14 (wrap64 (x15+1)) ((rd_T32 x13 x15).f0) ((rd_T32 x13 x15).f1) ((rd_T32 x13 x15).f2)) else (impl_LeastModel.l0 k x7 x13 x14 (wrap64 (x15+1)) x11004000 x11004001 x11004002)))) else (impl_LeastModel.l0 k true x13 x14 (wrap64 (x15+1)) ((rd_T32 x13 x15).f0) ((rd_T32 x13 x15).f1) ((rd_T32 x13 x15).f2))) else (none)) else (none)) else (some (x11004000,x11004001,x11004002,x7))
def impl_LeastModel.f (k:Nat) (l0_0:List (S67)) (a1:Int):Option (ByteArray × ByteArray × ByteArray × Bool):=(impl_ModelsUpTo.f k l0_0 a1).bind fun t11004=>(impl_LeastModel.l0 k false t11004 (t11004.length:Int) 0 (⟨#[]⟩:ByteArray) (⟨#[]⟩:ByteArray) (⟨#[]⟩:ByteArray))
theorem impl_LeastModel.mono_l:∀ k,(∀ y0 y1 y2 y3 y4 y5 y6,LeO (impl_LeastModel.l0 k y0 y1 y2 y3 y4 y5 y6) (impl_LeastModel.l0 (k+1) y0 y1 y2 y3 y4 y5 y6))
 | 0=>fun _ _ _ _ _ _ _ r h=>by simp [impl_LeastModel.l0] at h
 | k+1=>by
  have ih0:=impl_LeastModel.mono_l k
  ·intro y0 y1 y2 y3 y4 y5 y6
   unfold impl_LeastModel.l0
   repeat' first
   | with_reducible first|exact ih0 _ _ _ _ _ _ _|exact impl_ModelsUpTo.mono _ _ _|exact LeO.refl _|exact LeO.none _|refine LeO.ite ?_ ?_|refine LeO.bind ?_ (fun _=>?_)
theorem impl_LeastModel.mono:∀ a0 a1 k,LeO (impl_LeastModel.f k a0 a1) (impl_LeastModel.f (k+1) a0 a1):=by
 intro a0 a1 k
 have ih0:=impl_LeastModel.mono_l k
 unfold impl_LeastModel.f
 repeat' first
  | with_reducible first|exact ih0 _ _ _ _ _ _ _|exact impl_ModelsUpTo.mono _ _ _|exact LeO.refl _|exact LeO.none _|refine LeO.ite ?_ ?_|refine LeO.bind ?_ (fun _=>?_)
def impl_LeastModel.T5:Bool × List (List Nat × List Nat):=(true,[([],[]),([0],[0]),([1],[1]),([2],[2]),([3,2,2],[2,3]),([2],[2]),([5,4,2],[2,5]),([4,6,2],[2,4,6]),([2,7],[2,7])])
def impl_LeastModel.B5:List Nat:=[0,1,3,7,15,7,63,127,255]
theorem impl_LeastModel.tab5:rtab .any (opsOf Tryz.f11 5)=impl_LeastModel.T5:=by kernel_rfl
theorem impl_LeastModel.bits5:waitsOk impl_LeastModel.T5.2 impl_LeastModel.B5=true:=by kernel_rfl
theorem impl_LeastModel.calls (k:Nat) (A0_0:Option Addr) (c0_0:Nat) (l0_0:List (S67)) (a1:Int) (r1:ByteArray) (r2:ByteArray) (r3:ByteArray) (r4:Bool) (w:World) (hr0_0:Kd.C k67 w A0_0 l0_0.length l0_0) (hc0_0:l0_0.length≤c0_0) (h:impl_LeastModel.f k l0_0 a1=some (r1,r2,r3,r4)) :
   Calls Tryz.prog 11 #[.agg #[.slice A0_0 l0_0.length c0_0],.int .i64 a1] w fun e w'=>e = .returned (.tuple #[.agg #[.string r1,.string r2,.string r3],.bool r4])∧Below w.heap.size w w':=by
 have hu26:=Tryz.underlying26
 have hu32:=Tryz.underlying32
 have HR0_0:=zk hr0_0
 have HC0_0:=zk hc0_0
 clear hr0_0 hc0_0
 have HB:=zk (Below.refl w.heap.size w)
 have H:((impl_ModelsUpTo.f k l0_0 a1).bind fun t11004=>(impl_LeastModel.l0 k false t11004 (t11004.length:Int) 0 (⟨#[]⟩:ByteArray) (⟨#[]⟩:ByteArray) (⟨#[]⟩:ByteArray)))=some (r1,r2,r3,r4):=h
 clear h
 replace H:=zo H
 obtain ⟨t11004,A30,H⟩:=H
 replace H:(impl_LeastModel.l0 k false t11004 (t11004.length:Int) 0 (⟨#[]⟩:ByteArray) (⟨#[]⟩:ByteArray) (⟨#[]⟩:ByteArray))=some (r1,r2,r3,r4):=H
 have A3:=zk A30
 clear A30
 have H':=zk H
 clear H
 go_enter Tryz.func11,Tryz.ntmps11
 go_wp2_with (first|((with_reducible refine gate_dst (N:=2) rfl ?_);refine zE (N:=2) (cs:=#[.slice A0_0 l0_0.length c0_0]) (t:=26) ?_;intro gb11001 hg w4 hbox hb;have n0_:=zk (below_step za4 hb);have n1_:=zk (hbox);have n2_:=zk (zs (w:=w) hg za4);have n3_:=zk (zs (w:=w) hg za4);clear HB;have HB:=n0_;have BK11001:=n1_;have GW11001:=n2_;have GE11001:=n3_;clear n0_ n1_ n2_ n3_;clear hb hbox hg)|((with_reducible refine gate_dst (N:=4) rfl ?_);refine zE (N:=4) (cs:=#[.string (⟨#[]⟩:ByteArray),.string (⟨#[]⟩:ByteArray),.string (⟨#[]⟩:ByteArray)]) (t:=32) ?_;intro gb11002 hg w5 hbox hb;have n0_:=zk (zb BK11001.out hb);have n1_:=zk (below_step za4 hb);have n2_:=zk (hbox);have n3_:=zk (zs (w:=w) hg za4);have n4_:=zk (zs (w:=w) hg za4);have n5_:=zk ((by rw [hg];exact Nat.ne_of_lt (zl BK11001.out):gb11001 ≠ gb11002));have n6_:=zk ((by rw [hg];exact Nat.ne_of_gt (zl BK11001.out):gb11002 ≠ gb11001));clear BK11001;clear HB;have BK11001:=n0_;have HB:=n1_;have BK11002:=n2_;have GW11002:=n3_;have GE11002:=n4_;have NB11001_11002:=n5_;have NB11002_11001:=n6_;clear n0_ n1_ n2_ n3_ n4_ n5_ n6_;clear hb hbox hg)|((with_reducible refine gate_dst (N:=6) rfl ?_);refine zE (N:=6) (cs:=#[.string (⟨#[]⟩:ByteArray),.string (⟨#[]⟩:ByteArray),.string (⟨#[]⟩:ByteArray)]) (t:=32) ?_;intro gb11003 hg w6 hbox hb;have n0_:=zk (zb BK11001.out hb);have n1_:=zk (zb BK11002.out hb);have n2_:=zk (below_step za4 hb);have n3_:=zk (hbox);have n4_:=zk (zs (w:=w) hg za4);have n5_:=zk (zs (w:=w) hg za4);have n6_:=zk ((by rw [hg];exact Nat.ne_of_lt (zl BK11001.out):gb11001 ≠ gb11003));have n7_:=zk ((by rw [hg];exact Nat.ne_of_gt (zl BK11001.out):gb11003 ≠ gb11001));have n8_:=zk ((by rw [hg];exact Nat.ne_of_lt (zl BK11002.out):gb11002 ≠ gb11003));have n9_:=zk ((by rw [hg];exact Nat.ne_of_gt (zl BK11002.out):gb11003 ≠ gb11002));clear BK11001;clear BK11002;clear HB;have BK11001:=n0_;have BK11002:=n1_;have HB:=n2_;have BK11003:=n3_;have GW11003:=n4_;have GE11003:=n5_;have NB11001_11003:=n6_;have NB11003_11001:=n7_;have NB11002_11003:=n8_;have NB11003_11002:=n9_;clear n0_ n1_ n2_ n3_ n4_ n5_ n6_ n7_ n8_ n9_;clear hb hbox hg;have hnb7:=NB11003_11001.out;have hnc7:=NB11001_11003.out;have hnb8:=NB11003_11002.out;have hnc8:=NB11002_11003.out;obtain ⟨hcz9_0,hcz9_1,hcz9_2,hfz9_0,hfz9_1,hfz9_2⟩:=blk3 BK11003.out;have hnb10:=NB11001_11002.out;have hnc10:=NB11002_11001.out;obtain ⟨hcz11_0,hfz11_0⟩:=blk1 BK11001.out)|((with_reducible refine gate_callee (f:=9) rfl ?_);refine goesL_ (some 13) rfl rfl Tryz.func9 (by kernel_rfl) rfl #[.agg #[.slice A0_0 l0_0.length c0_0],.int .i64 a1] rfl za5 ?_;(with_reducible refine (impl_ModelsUpTo.calls k _ _ l0_0 a1 t11004 _ ?side1 ?side2 A3.out).mono ?_);(case side1=>exact Kd.C_below HR0_0.out za4);(case side2=>exact HC0_0.out);rintro e w12 ⟨v11005,rfl,ho0,hb⟩;refine ⟨_,rfl,?_⟩;have n0_:=zk (Kd.R_lower (Kd.R_newB (Kd.R_newB ho0 (g:=gb11002) (o:=.cells #[.string (⟨#[]⟩:ByteArray),.string (⟨#[]⟩:ByteArray),.string (⟨#[]⟩:ByteArray)] 32 (0,0)) za15) (g:=gb11003) (o:=.cells #[.string (⟨#[]⟩:ByteArray),.string (⟨#[]⟩:ByteArray),.string (⟨#[]⟩:ByteArray)] 32 (0,0)) (za3 BK11003.out)) (below_size za4));have n1_:=zk (blk_below (g:=gb11001) (o:=.cells #[.slice A0_0 l0_0.length c0_0] 26 (0,0)) za22 hb);have n2_:=zk (blk_below (g:=gb11002) (o:=.cells #[.string (⟨#[]⟩:ByteArray),.string (⟨#[]⟩:ByteArray),.string (⟨#[]⟩:ByteArray)] 32 (0,0)) za15 hb);have n3_:=zk (blk_below (g:=gb11003) (o:=.cells #[.string (⟨#[]⟩:ByteArray),.string (⟨#[]⟩:ByteArray),.string (⟨#[]⟩:ByteArray)] 32 (0,0)) (za3 BK11003.out) hb);have n4_:=zk (below_step za4 hb);clear BK11001;clear BK11002;clear BK11003;clear HB;have HO11006:=n0_;have BK11001:=n1_;have BK11002:=n2_;have BK11003:=n3_;have HB:=n4_;clear n0_ n1_ n2_ n3_ n4_;(try clear hb);(try clear hb2);(try clear hk);(try clear hi);(try clear ho0);obtain ⟨Ao13,co13,eo13⟩:=Kd.R_slice HO11006.out;subst eo13))
 first|go_loopg [7,15] k (fun kq v7 v15 w'=>∃ (x7_1:Bool) (x15_1:Int) (x11004000_1:ByteArray) (x11004001_1:ByteArray) (x11004002_1:ByteArray),v7 = .bool x7_1∧v15 = .int .i64 x15_1∧Aside0 (impl_LeastModel.l0 kq x7_1 t11004 (t11004.length:Int) x15_1 x11004000_1 x11004001_1 x11004002_1=some (r1,r2,r3,r4))∧Aside0 (kq≤k)∧Aside0 (Kd.R k32 32 w' w.heap.size (fun k_=>k_ ≠ gb11002∧k_ ≠ gb11003) (.slice Ao13 t11004.length co13) t11004)∧Aside0 (w'.heap[gb11001]? = some (.cells #[(.slice A0_0 l0_0.length c0_0)] 26 (0,0)))∧Aside0 (w'.heap[gb11002]? = some (.cells #[.string (⟨#[]⟩:ByteArray),.string (⟨#[]⟩:ByteArray),.string (⟨#[]⟩:ByteArray)] 32 (0,0)))∧Aside0 (w'.heap[gb11003]? = some (.cells #[.string x11004000_1,.string x11004001_1,.string x11004002_1] 32 (0,0)))∧Aside0 (Below w.heap.size w w'))|(simp only [Act.put,zt,zv,zu];go_loopg [7,15] k (fun kq v7 v15 w'=>∃ (x7_1:Bool) (x15_1:Int) (x11004000_1:ByteArray) (x11004001_1:ByteArray) (x11004002_1:ByteArray),v7 = .bool x7_1∧v15 = .int .i64 x15_1∧Aside0 (impl_LeastModel.l0 kq x7_1 t11004 (t11004.length:Int) x15_1 x11004000_1 x11004001_1 x11004002_1=some (r1,r2,r3,r4))∧Aside0 (kq≤k)∧Aside0 (Kd.R k32 32 w' w.heap.size (fun k_=>k_ ≠ gb11002∧k_ ≠ gb11003) (.slice Ao13 t11004.length co13) t11004)∧Aside0 (w'.heap[gb11001]? = some (.cells #[(.slice A0_0 l0_0.length c0_0)] 26 (0,0)))∧Aside0 (w'.heap[gb11002]? = some (.cells #[.string (⟨#[]⟩:ByteArray),.string (⟨#[]⟩:ByteArray),.string (⟨#[]⟩:ByteArray)] 32 (0,0)))∧Aside0 (w'.heap[gb11003]? = some (.cells #[.string x11004000_1,.string x11004001_1,.string x11004002_1] 32 (0,0)))∧Aside0 (Below w.heap.size w w')))
 case atStart=>exact ⟨(false),(0),((⟨#[]⟩:ByteArray)),((⟨#[]⟩:ByteArray)),((⟨#[]⟩:ByteArray)),za8,za8,H',⟨Nat.le_refl _⟩,⟨by (with_reducible repeat (first|apply Kd.R_alloc|apply Kd.R_drewN|apply Kd.R_drew));exact Kd.R_mono HO11006.out (fun _ hk=>⟨hk.1.2,hk.2⟩)⟩,⟨za0 BK11001.out⟩,⟨za0 BK11002.out⟩,⟨za0 BK11003.out⟩,⟨za4⟩⟩
 case round =>
  clear H'
  try clear hcz11_0
  try clear hcz9_0
  try clear hcz9_1
  try clear hcz9_2
  try clear hfz11_0
  try clear hfz9_0
  try clear hfz9_1
  try clear hfz9_2
  obtain ⟨x7_1,x15_1,x11004000_1,x11004001_1,x11004002_1,rfl,rfl,HA,HK1,HO_13,BK11001,BK11002,BK11003,HB⟩:=hrel
  cases gk with
  | zero=>exact absurd HA.out (by simp [impl_LeastModel.l0])
  | succ k1 =>
   have H:=HA.out
   clear HA
   simp only [impl_LeastModel.l0] at H
   by_cases c14:x15_1 < (t11004.length:Int)
   rw [if_pos c14] at H
   have c14b0:decide (x15_1 < (t11004.length:Int))=true:=decide_eq_true c14
   clear c14
   by_cases c15:0≤x15_1
   rw [if_pos c15] at H
   have c15b0:decide (0≤x15_1)=true:=decide_eq_true c15
   clear c15
   by_cases c16:x15_1 < (t11004.length:Int)
   rw [if_pos c16] at H
   have c16b0:decide (x15_1 < (t11004.length:Int))=true:=decide_eq_true c16
   clear c16
   by_cases c17:x7_1=true
   subst c17
   have H1:((impl_TotalLength.f ((rd_T32 t11004 x15_1).f0) ((rd_T32 t11004 x15_1).f1) ((rd_T32 t11004 x15_1).f2)).bind fun t11009=>((impl_TotalLength.f x11004000_1 x11004001_1 x11004002_1).bind fun t11010=>(if t11009 < t11010 then (impl_LeastModel.l0 k1 true t11004 (t11004.length:Int) (wrap64 (x15_1+1)) ((rd_T32 t11004 x15_1).f0) ((rd_T32 t11004 x15_1).f1) ((rd_T32 t11004 x15_1).f2)) else (impl_LeastModel.l0 k1 true t11004 (t11004.length:Int) (wrap64 (x15_1+1)) x11004000_1 x11004001_1 x11004002_1))))=some (r1,r2,r3,r4):=by rw [if_pos rfl] at H;exact H
   clear H
   have H:=H1
   clear H1
   replace H:=zo H
   obtain ⟨t11009,A180,H⟩:=H
   replace H:((impl_TotalLength.f x11004000_1 x11004001_1 x11004002_1).bind fun t11010=>(if t11009 < t11010 then (impl_LeastModel.l0 k1 true t11004 (t11004.length:Int) (wrap64 (x15_1+1)) ((rd_T32 t11004 x15_1).f0) ((rd_T32 t11004 x15_1).f1) ((rd_T32 t11004 x15_1).f2)) else (impl_LeastModel.l0 k1 true t11004 (t11004.length:Int) (wrap64 (x15_1+1)) x11004000_1 x11004001_1 x11004002_1)))=some (r1,r2,r3,r4):=H
   have A18:=zk A180
   clear A180
   replace H:=zo H
   obtain ⟨t11010,A190,H⟩:=H
   replace H:(if t11009 < t11010 then (impl_LeastModel.l0 k1 true t11004 (t11004.length:Int) (wrap64 (x15_1+1)) ((rd_T32 t11004 x15_1).f0) ((rd_T32 t11004 x15_1).f1) ((rd_T32 t11004 x15_1).f2)) else (impl_LeastModel.l0 k1 true t11004 (t11004.length:Int) (wrap64 (x15_1+1)) x11004000_1 x11004001_1 x11004002_1))=some (r1,r2,r3,r4):=H
   have A19:=zk A190
   clear A190
   by_cases c20:t11009 < t11010
   ·rw [if_pos c20] at H
    have c20b0:decide (t11009 < t11010)=true:=decide_eq_true c20
    clear c20
    have H':=zk H
    clear H
    have p11007:0≤(x15_1:Int):=of_decide_eq_true za9
    have q11007:x15_1 < (t11004.length:Int):=of_decide_eq_true za9
    obtain ⟨ad11007,e11007,hx11007_0,hx11007_1,hx11007_2⟩:=at_T32 (Kd.R_reads' HO_13.out).2.2 x15_1 p11007 q11007
    cases e11007
    replace p11007:=eq_true p11007
    replace q11007:=eq_true q11007
    try go_wp2_with (first|((with_reducible refine gate_dst (N:=9) rfl ?_);refine zE (N:=9) (cs:=#[.string (⟨#[]⟩:ByteArray),.string (⟨#[]⟩:ByteArray),.string (⟨#[]⟩:ByteArray)]) (t:=32) ?_;intro gb11008 hg w21 hbox hb;have n0_:=zk (Kd.R_below (Kd.R_elderB (za1 HO_13.out) gb11008 (Nat.le_of_eq hg.symm)) hb);have n1_:=zk (zb BK11001.out hb);have n2_:=zk (zb BK11002.out hb);have n3_:=zk (zb BK11003.out hb);have n4_:=zk (below_step za4 hb);have n5_:=zk (hbox);have n6_:=zk (zs (w:=w) hg za4);have n7_:=zk (zs (w:=w) hg za4);have n8_:=zk ((by rw [hg];exact Nat.ne_of_lt (zl BK11001.out):gb11001 ≠ gb11008));have n9_:=zk ((by rw [hg];exact Nat.ne_of_gt (zl BK11001.out):gb11008 ≠ gb11001));have n10_:=zk ((by rw [hg];exact Nat.ne_of_lt (zl BK11002.out):gb11002 ≠ gb11008));have n11_:=zk ((by rw [hg];exact Nat.ne_of_gt (zl BK11002.out):gb11008 ≠ gb11002));have n12_:=zk ((by rw [hg];exact Nat.ne_of_lt (zl BK11003.out):gb11003 ≠ gb11008));have n13_:=zk ((by rw [hg];exact Nat.ne_of_gt (zl BK11003.out):gb11008 ≠ gb11003));clear HO_13;clear BK11001;clear BK11002;clear BK11003;clear HB;have HO_13:=n0_;have BK11001:=n1_;have BK11002:=n2_;have BK11003:=n3_;have HB:=n4_;have BK11008:=n5_;have GW11008:=n6_;have GE11008:=n7_;have NB11001_11008:=n8_;have NB11008_11001:=n9_;have NB11002_11008:=n10_;have NB11008_11002:=n11_;have NB11003_11008:=n12_;have NB11008_11003:=n13_;clear n0_ n1_ n2_ n3_ n4_ n5_ n6_ n7_ n8_ n9_ n10_ n11_ n12_ n13_;clear hb hbox hg;have hnb22:=NB11008_11001.out;have hnc22:=NB11001_11008.out;have hnb23:=NB11008_11002.out;have hnc23:=NB11002_11008.out;have hnb24:=NB11008_11003.out;have hnc24:=NB11003_11008.out;obtain ⟨hcz25_0,hcz25_1,hcz25_2,hfz25_0,hfz25_1,hfz25_2⟩:=blk3 BK11008.out))
    have n0_:Aside0 (Kd.R k32 32 (((w21.setCell ⟨gb11008,0,none⟩ (.string ((rd_T32 t11004 x15_1).f0))).setCell ⟨gb11008,1,none⟩ (.string ((rd_T32 t11004 x15_1).f1))).setCell ⟨gb11008,2,none⟩ (.string ((rd_T32 t11004 x15_1).f2))) w.heap.size (fun k_=>k_ ≠ gb11002∧k_ ≠ gb11003∧k_ ≠ gb11008) (.slice (some ad11007) t11004.length co13) t11004):=⟨za23⟩
    have n1_:Aside0 ((((w21.setCell ⟨gb11008,0,none⟩ (.string ((rd_T32 t11004 x15_1).f0))).setCell ⟨gb11008,1,none⟩ (.string ((rd_T32 t11004 x15_1).f1))).setCell ⟨gb11008,2,none⟩ (.string ((rd_T32 t11004 x15_1).f2))).heap[gb11001]? = some (.cells #[.slice A0_0 l0_0.length c0_0] 26 (0,0))):=⟨za21⟩
    have n2_:Aside0 ((((w21.setCell ⟨gb11008,0,none⟩ (.string ((rd_T32 t11004 x15_1).f0))).setCell ⟨gb11008,1,none⟩ (.string ((rd_T32 t11004 x15_1).f1))).setCell ⟨gb11008,2,none⟩ (.string ((rd_T32 t11004 x15_1).f2))).heap[gb11002]? = some (.cells #[.string (⟨#[]⟩:ByteArray),.string (⟨#[]⟩:ByteArray),.string (⟨#[]⟩:ByteArray)] 32 (0,0))):=⟨za20⟩
    have n3_:Aside0 ((((w21.setCell ⟨gb11008,0,none⟩ (.string ((rd_T32 t11004 x15_1).f0))).setCell ⟨gb11008,1,none⟩ (.string ((rd_T32 t11004 x15_1).f1))).setCell ⟨gb11008,2,none⟩ (.string ((rd_T32 t11004 x15_1).f2))).heap[gb11003]? = some (.cells #[.string x11004000_1,.string x11004001_1,.string x11004002_1] 32 (0,0))):=⟨za19⟩
    have n4_:Aside0 ((((w21.setCell ⟨gb11008,0,none⟩ (.string ((rd_T32 t11004 x15_1).f0))).setCell ⟨gb11008,1,none⟩ (.string ((rd_T32 t11004 x15_1).f1))).setCell ⟨gb11008,2,none⟩ (.string ((rd_T32 t11004 x15_1).f2))).heap[gb11008]? = some (.cells #[.string ((rd_T32 t11004 x15_1).f0),.string ((rd_T32 t11004 x15_1).f1),.string ((rd_T32 t11004 x15_1).f2)] 32 (0,0))):=⟨za13⟩
    have n5_:Aside0 (Below w.heap.size w (((w21.setCell ⟨gb11008,0,none⟩ (.string ((rd_T32 t11004 x15_1).f0))).setCell ⟨gb11008,1,none⟩ (.string ((rd_T32 t11004 x15_1).f1))).setCell ⟨gb11008,2,none⟩ (.string ((rd_T32 t11004 x15_1).f2)))):=⟨za4⟩
    (try clear HO_13)
    (try clear BK11001)
    (try clear BK11002)
    (try clear BK11003)
    (try clear BK11008)
    (try clear HB)
    generalize (((w21.setCell ⟨gb11008,0,none⟩ (.string ((rd_T32 t11004 x15_1).f0))).setCell ⟨gb11008,1,none⟩ (.string ((rd_T32 t11004 x15_1).f1))).setCell ⟨gb11008,2,none⟩ (.string ((rd_T32 t11004 x15_1).f2)))=w26 at n0_ n1_ n2_ n3_ n4_ n5_ ⊢
    have HO_13:=n0_
    have BK11001:=n1_
    have BK11002:=n2_
    have BK11003:=n3_
    have BK11008:=n4_
    have HB:=n5_
    clear n0_ n1_ n2_ n3_ n4_ n5_
    have n0_:=zk (Kd.R_drew HO_13.out)
    have n1_:=zk (blk_drew BK11001.out)
    have n2_:=zk (blk_drew BK11002.out)
    have n3_:=zk (blk_drew BK11003.out)
    have n4_:=zk (blk_drew BK11008.out)
    have n5_:=zk (below_drew1 HB.out)
    clear HO_13
    clear BK11001
    clear BK11002
    clear BK11003
    clear BK11008
    clear HB
    have HO_13:=n0_
    have BK11001:=n1_
    have BK11002:=n2_
    have BK11003:=n3_
    have BK11008:=n4_
    have HB:=n5_
    clear n0_ n1_ n2_ n3_ n4_ n5_
    refine start_ (n:=9) (S:=fun w'=>w'.cell? ⟨gb11008,0,none⟩=some (.string ((rd_T32 t11004 x15_1).f0))∧w'.cell? ⟨gb11008,1,none⟩=some (.string ((rd_T32 t11004 x15_1).f1))∧w'.cell? ⟨gb11008,2,none⟩=some (.string ((rd_T32 t11004 x15_1).f2))∧w'.cell? ⟨gb11003,0,none⟩=some (.string x11004000_1)∧w'.cell? ⟨gb11003,1,none⟩=some (.string x11004001_1)∧w'.cell? ⟨gb11003,2,none⟩=some (.string x11004002_1)) (ds:=[]) #[false,false,false,false,false,false,false,false,false] (by kernel_rfl) rfl rfl ⟨(blk_cell BK11008.out 0).trans rfl,(blk_cell BK11008.out 1).trans rfl,(blk_cell BK11008.out 2).trans rfl,(blk_cell BK11003.out 0).trans rfl,(blk_cell BK11003.out 1).trans rfl,(blk_cell BK11003.out 2).trans rfl⟩ (fun hHeld=>?_);refine with_tabW impl_LeastModel.tab5 impl_LeastModel.bits5 (fun HT_ HW_=>?_)
    generalize w26.drew=w27 at HO_13 BK11001 BK11002 BK11003 BK11008 HB hHeld ⊢
    refine pure_ (i:=0) (N:=some 19) (v:=?_) (a':=?_) #[true,false,false,false,false,false,false,false,false] rfl rfl (any_of HT_.out (by kernel_rfl)) (fun _ _ _ h=>h) (Or.inl ⟨by rfl,?_⟩) ?_ ?_
    rotate_left
    ·intro w'
     go_simp
     first|with_reducible rfl|(rw [if_neg (by omega)];done)
    rotate_left
    ·simp only [Act.put,zt,zu,zv,i64_w,i32_w]
     rfl
    refine pure_ (i:=1) (N:=some 20) (v:=?_) (a':=?_) #[true,true,false,false,false,false,false,false,false] rfl rfl (any_of HT_.out (by kernel_rfl)) (fun _ _ _ h=>h) (Or.inl ⟨by rfl,?_⟩) ?_ ?_
    rotate_left
    ·intro w'
     go_simp
     first|with_reducible rfl|(rw [if_neg (by omega)];done)
    rotate_left
    ·simp only [Act.put,zt,zu,zv,i64_w,i32_w]
     rfl
    refine pure_ (i:=2) (N:=some 21) (v:=?_) (a':=?_) #[true,true,true,false,false,false,false,false,false] rfl rfl (any_of HT_.out (by kernel_rfl)) (fun _ _ _ h=>h) (Or.inl ⟨by rfl,?_⟩) ?_ ?_
    rotate_left
    ·intro w'
     go_simp
     first|with_reducible rfl|(rw [if_neg (by omega)];done)
    rotate_left
    ·simp only [Act.put,zt,zu,zv,i64_w,i32_w]
     rfl
    refine take_ (i:=3) (N:=some 22) (v:=?_) (a':=?_) #[true,true,true,true,false,false,false,false,false] rfl rfl (take_ofW HT_.out HW_.out (by kernel_rfl)) (fun _ _ _ h=>h) (Or.inl ⟨by rfl,?_⟩) hHeld ?_ ?_
    rotate_left
    ·rintro w' ⟨s0,s1,s2,s3,s4,s5⟩
     go_simp
     first|with_reducible rfl|(rw [if_neg (by omega)];done)
    rotate_left
    ·simp only [Act.put,zt,zu,zv,i64_w,i32_w]
     rfl
    refine take_ (i:=5) (N:=some 24) (v:=?_) (a':=?_) #[true,true,true,true,false,true,false,false,false] rfl rfl (take_ofW HT_.out HW_.out (by kernel_rfl)) (fun _ _ _ h=>h) (Or.inl ⟨by rfl,?_⟩) hHeld ?_ ?_
    rotate_left
    ·rintro w' ⟨s0,s1,s2,s3,s4,s5⟩
     go_simp
     first|with_reducible rfl|(rw [if_neg (by omega)];done)
    rotate_left
    ·simp only [Act.put,zt,zu,zv,i64_w,i32_w]
     rfl
    refine one_ (i:=4) (N:=some 23) #[true,true,true,true,true,true,false,false,false] rfl rfl (one_of HT_.out (by kernel_rfl)) (by decide) (fun K hK=>?_)
    refine goes_ Tryz.func16 (by kernel_rfl) rfl #[.agg #[.string ((rd_T32 t11004 x15_1).f0),.string ((rd_T32 t11004 x15_1).f1),.string ((rd_T32 t11004 x15_1).f2)]] (by rfl) rfl rfl za5 ?_
    with_reducible refine (impl_TotalLength.calls ((rd_T32 t11004 x15_1).f0) ((rd_T32 t11004 x15_1).f1) ((rd_T32 t11004 x15_1).f2) t11009 _ A18.out).mono ?_
    rintro e w28 ⟨rfl,hb⟩
    refine ⟨_,rfl,?_⟩
    have n0_:=zk (Kd.R_below (za1 HO_13.out) hb)
    have n1_:=zk (zb BK11001.out hb)
    have n2_:=zk (zb BK11002.out hb)
    have n3_:=zk (zb BK11003.out hb)
    have n4_:=zk (zb BK11008.out hb)
    have n5_:=zk (below_step za4 hb)
    clear HO_13
    clear BK11001
    clear BK11002
    clear BK11003
    clear BK11008
    clear HB
    have HO_13:=n0_
    have BK11001:=n1_
    have BK11002:=n2_
    have BK11003:=n3_
    have BK11008:=n4_
    have HB:=n5_
    clear n0_ n1_ n2_ n3_ n4_ n5_
    (try clear hb)
    (try clear hb2)
    (try clear hk)
    (try clear hi)
    refine hK.out _ _ ⟨(blk_cell BK11008.out 0).trans rfl,(blk_cell BK11008.out 1).trans rfl,(blk_cell BK11008.out 2).trans rfl,(blk_cell BK11003.out 0).trans rfl,(blk_cell BK11003.out 1).trans rfl,(blk_cell BK11003.out 2).trans rfl⟩ (fun hHeld=>?_)
    clear hK K
    refine norm_ (a':=?_) ?_ ?_
    rotate_left
    ·show Act.put _ (some 23) _=_
     simp only [Act.put,zt,zu,zv,i64_w,i32_w]
     rfl
    refine one_ (i:=6) (N:=some 25) #[true,true,true,true,true,true,true,false,false] rfl rfl (one_of HT_.out (by kernel_rfl)) (by decide) (fun K hK=>?_)
    refine goes_ Tryz.func16 (by kernel_rfl) rfl #[.agg #[.string x11004000_1,.string x11004001_1,.string x11004002_1]] (by rfl) rfl rfl za5 ?_
    with_reducible refine (impl_TotalLength.calls x11004000_1 x11004001_1 x11004002_1 t11010 _ A19.out).mono ?_
    rintro e w29 ⟨rfl,hb⟩
    refine ⟨_,rfl,?_⟩
    have n0_:=zk (Kd.R_below (za1 HO_13.out) hb)
    have n1_:=zk (zb BK11001.out hb)
    have n2_:=zk (zb BK11002.out hb)
    have n3_:=zk (zb BK11003.out hb)
    have n4_:=zk (zb BK11008.out hb)
    have n5_:=zk (below_step za4 hb)
    clear HO_13
    clear BK11001
    clear BK11002
    clear BK11003
    clear BK11008
    clear HB
    have HO_13:=n0_
    have BK11001:=n1_
    have BK11002:=n2_
    have BK11003:=n3_
    have BK11008:=n4_
    have HB:=n5_
    clear n0_ n1_ n2_ n3_ n4_ n5_
    (try clear hb)
    (try clear hb2)
    (try clear hk)
    (try clear hi)
    refine hK.out _ _ ⟨(blk_cell BK11008.out 0).trans rfl,(blk_cell BK11008.out 1).trans rfl,(blk_cell BK11008.out 2).trans rfl,(blk_cell BK11003.out 0).trans rfl,(blk_cell BK11003.out 1).trans rfl,(blk_cell BK11003.out 2).trans rfl⟩ (fun hHeld=>?_)
    clear hK K
    refine norm_ (a':=?_) ?_ ?_
    rotate_left
    ·show Act.put _ (some 25) _=_
     simp only [Act.put,zt,zu,zv,i64_w,i32_w]
     rfl
    refine pure_ (i:=7) (N:=some 26) (v:=?_) (a':=?_) #[true,true,true,true,true,true,true,true,false] rfl rfl (any_of HT_.out (by kernel_rfl)) (fun _ _ _ h=>h) (Or.inl ⟨by rfl,?_⟩) ?_ ?_
    rotate_left
    ·intro w'
     go_simp
     first|with_reducible rfl|(rw [if_neg (by omega)];done)
    rotate_left
    ·simp only [Act.put,zt,zu,zv,i64_w,i32_w]
     rfl
    refine pure_ (i:=8) (N:=some 27) (v:=?_) (a':=?_) #[true,true,true,true,true,true,true,true,true] rfl rfl (any_of HT_.out (by kernel_rfl)) (fun _ _ _ h=>h) (Or.inl ⟨by rfl,?_⟩) ?_ ?_
    rotate_left
    ·intro w'
     go_simp
     first|with_reducible rfl|(rw [if_neg (by omega)];done)
    rotate_left
    ·simp only [Act.put,zt,zu,zv,i64_w,i32_w]
     rfl
    refine done_ (done_of HT_.out (by kernel_rfl)) ?_
    obtain ⟨hcz30_0,hcz30_1,hcz30_2,hfz30_0,hfz30_1,hfz30_2⟩:=blk3 BK11008.out
    have hnb31:=NB11003_11001.out
    have hnc31:=NB11001_11003.out
    have hnb32:=NB11003_11002.out
    have hnc32:=NB11002_11003.out
    obtain ⟨hcz33_0,hcz33_1,hcz33_2,hfz33_0,hfz33_1,hfz33_2⟩:=blk3 BK11003.out
    try go_wp2
    go_roundg k1
    case measure=>have:=HK1.out;omega
    case rel=>exact ⟨(true),(wrap64 (x15_1+1)),((rd_T32 t11004 x15_1).f0),((rd_T32 t11004 x15_1).f1),((rd_T32 t11004 x15_1).f2),za8,za8,H',⟨za17⟩,⟨za32⟩,⟨za22⟩,⟨za15⟩,⟨za24⟩,⟨za4⟩⟩
   ·rw [if_neg c20] at H
    have c20b0:decide (t11009 < t11010)=false:=decide_eq_false c20
    clear c20
    have H':=zk H
    clear H
    have p11007:0≤(x15_1:Int):=of_decide_eq_true za9
    have q11007:x15_1 < (t11004.length:Int):=of_decide_eq_true za9
    obtain ⟨ad11007,e11007,hx11007_0,hx11007_1,hx11007_2⟩:=at_T32 (Kd.R_reads' HO_13.out).2.2 x15_1 p11007 q11007
    cases e11007
    replace p11007:=eq_true p11007
    replace q11007:=eq_true q11007
    try go_wp2_with (first|((with_reducible refine gate_dst (N:=9) rfl ?_);refine zE (N:=9) (cs:=#[.string (⟨#[]⟩:ByteArray),.string (⟨#[]⟩:ByteArray),.string (⟨#[]⟩:ByteArray)]) (t:=32) ?_;intro gb11008 hg w34 hbox hb;have n0_:=zk (Kd.R_below (Kd.R_elderB (za1 HO_13.out) gb11008 (Nat.le_of_eq hg.symm)) hb);have n1_:=zk (zb BK11001.out hb);have n2_:=zk (zb BK11002.out hb);have n3_:=zk (zb BK11003.out hb);have n4_:=zk (below_step za4 hb);have n5_:=zk (hbox);have n6_:=zk (zs (w:=w) hg za4);have n7_:=zk (zs (w:=w) hg za4);have n8_:=zk ((by rw [hg];exact Nat.ne_of_lt (zl BK11001.out):gb11001 ≠ gb11008));have n9_:=zk ((by rw [hg];exact Nat.ne_of_gt (zl BK11001.out):gb11008 ≠ gb11001));have n10_:=zk ((by rw [hg];exact Nat.ne_of_lt (zl BK11002.out):gb11002 ≠ gb11008));have n11_:=zk ((by rw [hg];exact Nat.ne_of_gt (zl BK11002.out):gb11008 ≠ gb11002));have n12_:=zk ((by rw [hg];exact Nat.ne_of_lt (zl BK11003.out):gb11003 ≠ gb11008));have n13_:=zk ((by rw [hg];exact Nat.ne_of_gt (zl BK11003.out):gb11008 ≠ gb11003));clear HO_13;clear BK11001;clear BK11002;clear BK11003;clear HB;have HO_13:=n0_;have BK11001:=n1_;have BK11002:=n2_;have BK11003:=n3_;have HB:=n4_;have BK11008:=n5_;have GW11008:=n6_;have GE11008:=n7_;have NB11001_11008:=n8_;have NB11008_11001:=n9_;have NB11002_11008:=n10_;have NB11008_11002:=n11_;have NB11003_11008:=n12_;have NB11008_11003:=n13_;clear n0_ n1_ n2_ n3_ n4_ n5_ n6_ n7_ n8_ n9_ n10_ n11_ n12_ n13_;clear hb hbox hg;have hnb35:=NB11008_11001.out;have hnc35:=NB11001_11008.out;have hnb36:=NB11008_11002.out;have hnc36:=NB11002_11008.out;have hnb37:=NB11008_11003.out;have hnc37:=NB11003_11008.out;obtain ⟨hcz38_0,hcz38_1,hcz38_2,hfz38_0,hfz38_1,hfz38_2⟩:=blk3 BK11008.out))
    have n0_:Aside0 (Kd.R k32 32 (((w34.setCell ⟨gb11008,0,none⟩ (.string ((rd_T32 t11004 x15_1).f0))).setCell ⟨gb11008,1,none⟩ (.string ((rd_T32 t11004 x15_1).f1))).setCell ⟨gb11008,2,none⟩ (.string ((rd_T32 t11004 x15_1).f2))) w.heap.size (fun k_=>k_ ≠ gb11002∧k_ ≠ gb11003∧k_ ≠ gb11008) (.slice (some ad11007) t11004.length co13) t11004):=⟨za23⟩
    have n1_:Aside0 ((((w34.setCell ⟨gb11008,0,none⟩ (.string ((rd_T32 t11004 x15_1).f0))).setCell ⟨gb11008,1,none⟩ (.string ((rd_T32 t11004 x15_1).f1))).setCell ⟨gb11008,2,none⟩ (.string ((rd_T32 t11004 x15_1).f2))).heap[gb11001]? = some (.cells #[.slice A0_0 l0_0.length c0_0] 26 (0,0))):=⟨za21⟩
    have n2_:Aside0 ((((w34.setCell ⟨gb11008,0,none⟩ (.string ((rd_T32 t11004 x15_1).f0))).setCell ⟨gb11008,1,none⟩ (.string ((rd_T32 t11004 x15_1).f1))).setCell ⟨gb11008,2,none⟩ (.string ((rd_T32 t11004 x15_1).f2))).heap[gb11002]? = some (.cells #[.string (⟨#[]⟩:ByteArray),.string (⟨#[]⟩:ByteArray),.string (⟨#[]⟩:ByteArray)] 32 (0,0))):=⟨za20⟩
    have n3_:Aside0 ((((w34.setCell ⟨gb11008,0,none⟩ (.string ((rd_T32 t11004 x15_1).f0))).setCell ⟨gb11008,1,none⟩ (.string ((rd_T32 t11004 x15_1).f1))).setCell ⟨gb11008,2,none⟩ (.string ((rd_T32 t11004 x15_1).f2))).heap[gb11003]? = some (.cells #[.string x11004000_1,.string x11004001_1,.string x11004002_1] 32 (0,0))):=⟨za19⟩
    have n4_:Aside0 ((((w34.setCell ⟨gb11008,0,none⟩ (.string ((rd_T32 t11004 x15_1).f0))).setCell ⟨gb11008,1,none⟩ (.string ((rd_T32 t11004 x15_1).f1))).setCell ⟨gb11008,2,none⟩ (.string ((rd_T32 t11004 x15_1).f2))).heap[gb11008]? = some (.cells #[.string ((rd_T32 t11004 x15_1).f0),.string ((rd_T32 t11004 x15_1).f1),.string ((rd_T32 t11004 x15_1).f2)] 32 (0,0))):=⟨za13⟩
    have n5_:Aside0 (Below w.heap.size w (((w34.setCell ⟨gb11008,0,none⟩ (.string ((rd_T32 t11004 x15_1).f0))).setCell ⟨gb11008,1,none⟩ (.string ((rd_T32 t11004 x15_1).f1))).setCell ⟨gb11008,2,none⟩ (.string ((rd_T32 t11004 x15_1).f2)))):=⟨za4⟩
    (try clear HO_13)
    (try clear BK11001)
    (try clear BK11002)
    (try clear BK11003)
    (try clear BK11008)
    (try clear HB)
    generalize (((w34.setCell ⟨gb11008,0,none⟩ (.string ((rd_T32 t11004 x15_1).f0))).setCell ⟨gb11008,1,none⟩ (.string ((rd_T32 t11004 x15_1).f1))).setCell ⟨gb11008,2,none⟩ (.string ((rd_T32 t11004 x15_1).f2)))=w39 at n0_ n1_ n2_ n3_ n4_ n5_ ⊢
    have HO_13:=n0_
    have BK11001:=n1_
    have BK11002:=n2_
    have BK11003:=n3_
    have BK11008:=n4_
    have HB:=n5_
    clear n0_ n1_ n2_ n3_ n4_ n5_
    have n0_:=zk (Kd.R_drew HO_13.out)
    have n1_:=zk (blk_drew BK11001.out)
    have n2_:=zk (blk_drew BK11002.out)
    have n3_:=zk (blk_drew BK11003.out)
    have n4_:=zk (blk_drew BK11008.out)
    have n5_:=zk (below_drew1 HB.out)
    clear HO_13
    clear BK11001
    clear BK11002
    clear BK11003
    clear BK11008
    clear HB
    have HO_13:=n0_
    have BK11001:=n1_
    have BK11002:=n2_
    have BK11003:=n3_
    have BK11008:=n4_
    have HB:=n5_
    clear n0_ n1_ n2_ n3_ n4_ n5_
    refine start_ (n:=9) (S:=fun w'=>w'.cell? ⟨gb11008,0,none⟩=some (.string ((rd_T32 t11004 x15_1).f0))∧w'.cell? ⟨gb11008,1,none⟩=some (.string ((rd_T32 t11004 x15_1).f1))∧w'.cell? ⟨gb11008,2,none⟩=some (.string ((rd_T32 t11004 x15_1).f2))∧w'.cell? ⟨gb11003,0,none⟩=some (.string x11004000_1)∧w'.cell? ⟨gb11003,1,none⟩=some (.string x11004001_1)∧w'.cell? ⟨gb11003,2,none⟩=some (.string x11004002_1)) (ds:=[]) #[false,false,false,false,false,false,false,false,false] (by kernel_rfl) rfl rfl ⟨(blk_cell BK11008.out 0).trans rfl,(blk_cell BK11008.out 1).trans rfl,(blk_cell BK11008.out 2).trans rfl,(blk_cell BK11003.out 0).trans rfl,(blk_cell BK11003.out 1).trans rfl,(blk_cell BK11003.out 2).trans rfl⟩ (fun hHeld=>?_);refine with_tabW impl_LeastModel.tab5 impl_LeastModel.bits5 (fun HT_ HW_=>?_)
    generalize w39.drew=w40 at HO_13 BK11001 BK11002 BK11003 BK11008 HB hHeld ⊢
    refine pure_ (i:=0) (N:=some 19) (v:=?_) (a':=?_) #[true,false,false,false,false,false,false,false,false] rfl rfl (any_of HT_.out (by kernel_rfl)) (fun _ _ _ h=>h) (Or.inl ⟨by rfl,?_⟩) ?_ ?_
    rotate_left
    ·intro w'
     go_simp
     first|with_reducible rfl|(rw [if_neg (by omega)];done)
    rotate_left
    ·simp only [Act.put,zt,zu,zv,i64_w,i32_w]
     rfl
    refine pure_ (i:=1) (N:=some 20) (v:=?_) (a':=?_) #[true,true,false,false,false,false,false,false,false] rfl rfl (any_of HT_.out (by kernel_rfl)) (fun _ _ _ h=>h) (Or.inl ⟨by rfl,?_⟩) ?_ ?_
    rotate_left
    ·intro w'
     go_simp
     first|with_reducible rfl|(rw [if_neg (by omega)];done)
    rotate_left
    ·simp only [Act.put,zt,zu,zv,i64_w,i32_w]
     rfl
    refine pure_ (i:=2) (N:=some 21) (v:=?_) (a':=?_) #[true,true,true,false,false,false,false,false,false] rfl rfl (any_of HT_.out (by kernel_rfl)) (fun _ _ _ h=>h) (Or.inl ⟨by rfl,?_⟩) ?_ ?_
    rotate_left
    ·intro w'
     go_simp
     first|with_reducible rfl|(rw [if_neg (by omega)];done)
    rotate_left
    ·simp only [Act.put,zt,zu,zv,i64_w,i32_w]
     rfl
    refine take_ (i:=3) (N:=some 22) (v:=?_) (a':=?_) #[true,true,true,true,false,false,false,false,false] rfl rfl (take_ofW HT_.out HW_.out (by kernel_rfl)) (fun _ _ _ h=>h) (Or.inl ⟨by rfl,?_⟩) hHeld ?_ ?_
    rotate_left
    ·rintro w' ⟨s0,s1,s2,s3,s4,s5⟩
     go_simp
     first|with_reducible rfl|(rw [if_neg (by omega)];done)
    rotate_left
    ·simp only [Act.put,zt,zu,zv,i64_w,i32_w]
     rfl
    refine take_ (i:=5) (N:=some 24) (v:=?_) (a':=?_) #[true,true,true,true,false,true,false,false,false] rfl rfl (take_ofW HT_.out HW_.out (by kernel_rfl)) (fun _ _ _ h=>h) (Or.inl ⟨by rfl,?_⟩) hHeld ?_ ?_
    rotate_left
    ·rintro w' ⟨s0,s1,s2,s3,s4,s5⟩
     go_simp
     first|with_reducible rfl|(rw [if_neg (by omega)];done)
    rotate_left
    ·simp only [Act.put,zt,zu,zv,i64_w,i32_w]
     rfl
    refine one_ (i:=4) (N:=some 23) #[true,true,true,true,true,true,false,false,false] rfl rfl (one_of HT_.out (by kernel_rfl)) (by decide) (fun K hK=>?_)
    refine goes_ Tryz.func16 (by kernel_rfl) rfl #[.agg #[.string ((rd_T32 t11004 x15_1).f0),.string ((rd_T32 t11004 x15_1).f1),.string ((rd_T32 t11004 x15_1).f2)]] (by rfl) rfl rfl za5 ?_
    with_reducible refine (impl_TotalLength.calls ((rd_T32 t11004 x15_1).f0) ((rd_T32 t11004 x15_1).f1) ((rd_T32 t11004 x15_1).f2) t11009 _ A18.out).mono ?_
    rintro e w41 ⟨rfl,hb⟩
    refine ⟨_,rfl,?_⟩
    have n0_:=zk (Kd.R_below (za1 HO_13.out) hb)
    have n1_:=zk (zb BK11001.out hb)
    have n2_:=zk (zb BK11002.out hb)
    have n3_:=zk (zb BK11003.out hb)
    have n4_:=zk (zb BK11008.out hb)
    have n5_:=zk (below_step za4 hb)
    clear HO_13
    clear BK11001
    clear BK11002
    clear BK11003
    clear BK11008
    clear HB
    have HO_13:=n0_
    have BK11001:=n1_
    have BK11002:=n2_
    have BK11003:=n3_
    have BK11008:=n4_
    have HB:=n5_
    clear n0_ n1_ n2_ n3_ n4_ n5_
    (try clear hb)
    (try clear hb2)
    (try clear hk)
    (try clear hi)
    refine hK.out _ _ ⟨(blk_cell BK11008.out 0).trans rfl,(blk_cell BK11008.out 1).trans rfl,(blk_cell BK11008.out 2).trans rfl,(blk_cell BK11003.out 0).trans rfl,(blk_cell BK11003.out 1).trans rfl,(blk_cell BK11003.out 2).trans rfl⟩ (fun hHeld=>?_)
    clear hK K
    refine norm_ (a':=?_) ?_ ?_
    rotate_left
    ·show Act.put _ (some 23) _=_
     simp only [Act.put,zt,zu,zv,i64_w,i32_w]
     rfl
    refine one_ (i:=6) (N:=some 25) #[true,true,true,true,true,true,true,false,false] rfl rfl (one_of HT_.out (by kernel_rfl)) (by decide) (fun K hK=>?_)
    refine goes_ Tryz.func16 (by kernel_rfl) rfl #[.agg #[.string x11004000_1,.string x11004001_1,.string x11004002_1]] (by rfl) rfl rfl za5 ?_
    with_reducible refine (impl_TotalLength.calls x11004000_1 x11004001_1 x11004002_1 t11010 _ A19.out).mono ?_
    rintro e w42 ⟨rfl,hb⟩
    refine ⟨_,rfl,?_⟩
    have n0_:=zk (Kd.R_below (za1 HO_13.out) hb)
    have n1_:=zk (zb BK11001.out hb)
    have n2_:=zk (zb BK11002.out hb)
    have n3_:=zk (zb BK11003.out hb)
    have n4_:=zk (zb BK11008.out hb)
    have n5_:=zk (below_step za4 hb)
    clear HO_13
    clear BK11001
    clear BK11002
    clear BK11003
    clear BK11008
    clear HB
    have HO_13:=n0_
    have BK11001:=n1_
    have BK11002:=n2_
    have BK11003:=n3_
    have BK11008:=n4_
    have HB:=n5_
    clear n0_ n1_ n2_ n3_ n4_ n5_
    (try clear hb)
    (try clear hb2)
    (try clear hk)
    (try clear hi)
    refine hK.out _ _ ⟨(blk_cell BK11008.out 0).trans rfl,(blk_cell BK11008.out 1).trans rfl,(blk_cell BK11008.out 2).trans rfl,(blk_cell BK11003.out 0).trans rfl,(blk_cell BK11003.out 1).trans rfl,(blk_cell BK11003.out 2).trans rfl⟩ (fun hHeld=>?_)
    clear hK K
    refine norm_ (a':=?_) ?_ ?_
    rotate_left
    ·show Act.put _ (some 25) _=_
     simp only [Act.put,zt,zu,zv,i64_w,i32_w]
     rfl
    refine pure_ (i:=7) (N:=some 26) (v:=?_) (a':=?_) #[true,true,true,true,true,true,true,true,false] rfl rfl (any_of HT_.out (by kernel_rfl)) (fun _ _ _ h=>h) (Or.inl ⟨by rfl,?_⟩) ?_ ?_
    rotate_left
    ·intro w'
     go_simp
     first|with_reducible rfl|(rw [if_neg (by omega)];done)
    rotate_left
    ·simp only [Act.put,zt,zu,zv,i64_w,i32_w]
     rfl
    refine pure_ (i:=8) (N:=some 27) (v:=?_) (a':=?_) #[true,true,true,true,true,true,true,true,true] rfl rfl (any_of HT_.out (by kernel_rfl)) (fun _ _ _ h=>h) (Or.inl ⟨by rfl,?_⟩) ?_ ?_
    rotate_left
    ·intro w'
     go_simp
     first|with_reducible rfl|(rw [if_neg (by omega)];done)
    rotate_left
    ·simp only [Act.put,zt,zu,zv,i64_w,i32_w]
     rfl
    refine done_ (done_of HT_.out (by kernel_rfl)) ?_
    try go_wp2
    go_roundg k1
    case measure=>have:=HK1.out;omega
    case rel=>exact ⟨(true),(wrap64 (x15_1+1)),(x11004000_1),(x11004001_1),(x11004002_1),za8,za8,H',⟨za17⟩,⟨by (with_reducible repeat (first|apply Kd.R_alloc|apply Kd.R_drewN|apply Kd.R_drew));exact Kd.R_mono HO_13.out (fun _ hk=>⟨hk.1,hk.2.1⟩)⟩,⟨za0 BK11001.out⟩,⟨za0 BK11002.out⟩,⟨za0 BK11003.out⟩,⟨za4⟩⟩
   ·replace c17:=Bool.eq_false_iff.mpr c17
    subst c17
    have H1:(impl_LeastModel.l0 k1 true t11004 (t11004.length:Int) (wrap64 (x15_1+1)) ((rd_T32 t11004 x15_1).f0) ((rd_T32 t11004 x15_1).f1) ((rd_T32 t11004 x15_1).f2))=some (r1,r2,r3,r4):=by rw [if_neg (show ¬ (false=true) by decide)] at H;exact H
    clear H
    have H:=H1
    clear H1
    have H':=zk H
    clear H
    have p11007:0≤(x15_1:Int):=of_decide_eq_true za9
    have q11007:x15_1 < (t11004.length:Int):=of_decide_eq_true za9
    obtain ⟨ad11007,e11007,hx11007_0,hx11007_1,hx11007_2⟩:=at_T32 (Kd.R_reads' HO_13.out).2.2 x15_1 p11007 q11007
    cases e11007
    replace p11007:=eq_true p11007
    replace q11007:=eq_true q11007
    try go_wp2_with (first|((with_reducible refine gate_dst (N:=9) rfl ?_);refine zE (N:=9) (cs:=#[.string (⟨#[]⟩:ByteArray),.string (⟨#[]⟩:ByteArray),.string (⟨#[]⟩:ByteArray)]) (t:=32) ?_;intro gb11008 hg w43 hbox hb;have n0_:=zk (Kd.R_below (Kd.R_elderB (za1 HO_13.out) gb11008 (Nat.le_of_eq hg.symm)) hb);have n1_:=zk (zb BK11001.out hb);have n2_:=zk (zb BK11002.out hb);have n3_:=zk (zb BK11003.out hb);have n4_:=zk (below_step za4 hb);have n5_:=zk (hbox);have n6_:=zk (zs (w:=w) hg za4);have n7_:=zk (zs (w:=w) hg za4);have n8_:=zk ((by rw [hg];exact Nat.ne_of_lt (zl BK11001.out):gb11001 ≠ gb11008));have n9_:=zk ((by rw [hg];exact Nat.ne_of_gt (zl BK11001.out):gb11008 ≠ gb11001));have n10_:=zk ((by rw [hg];exact Nat.ne_of_lt (zl BK11002.out):gb11002 ≠ gb11008));have n11_:=zk ((by rw [hg];exact Nat.ne_of_gt (zl BK11002.out):gb11008 ≠ gb11002));have n12_:=zk ((by rw [hg];exact Nat.ne_of_lt (zl BK11003.out):gb11003 ≠ gb11008));have n13_:=zk ((by rw [hg];exact Nat.ne_of_gt (zl BK11003.out):gb11008 ≠ gb11003));clear HO_13;clear BK11001;clear BK11002;clear BK11003;clear HB;have HO_13:=n0_;have BK11001:=n1_;have BK11002:=n2_;have BK11003:=n3_;have HB:=n4_;have BK11008:=n5_;have GW11008:=n6_;have GE11008:=n7_;have NB11001_11008:=n8_;have NB11008_11001:=n9_;have NB11002_11008:=n10_;have NB11008_11002:=n11_;have NB11003_11008:=n12_;have NB11008_11003:=n13_;clear n0_ n1_ n2_ n3_ n4_ n5_ n6_ n7_ n8_ n9_ n10_ n11_ n12_ n13_;clear hb hbox hg;have hnb44:=NB11008_11001.out;have hnc44:=NB11001_11008.out;have hnb45:=NB11008_11002.out;have hnc45:=NB11002_11008.out;have hnb46:=NB11008_11003.out;have hnc46:=NB11003_11008.out;obtain ⟨hcz47_0,hcz47_1,hcz47_2,hfz47_0,hfz47_1,hfz47_2⟩:=blk3 BK11008.out))
    have n0_:Aside0 (Kd.R k32 32 (((w43.setCell ⟨gb11008,0,none⟩ (.string ((rd_T32 t11004 x15_1).f0))).setCell ⟨gb11008,1,none⟩ (.string ((rd_T32 t11004 x15_1).f1))).setCell ⟨gb11008,2,none⟩ (.string ((rd_T32 t11004 x15_1).f2))) w.heap.size (fun k_=>k_ ≠ gb11002∧k_ ≠ gb11003∧k_ ≠ gb11008) (.slice (some ad11007) t11004.length co13) t11004):=⟨za23⟩
    have n1_:Aside0 ((((w43.setCell ⟨gb11008,0,none⟩ (.string ((rd_T32 t11004 x15_1).f0))).setCell ⟨gb11008,1,none⟩ (.string ((rd_T32 t11004 x15_1).f1))).setCell ⟨gb11008,2,none⟩ (.string ((rd_T32 t11004 x15_1).f2))).heap[gb11001]? = some (.cells #[.slice A0_0 l0_0.length c0_0] 26 (0,0))):=⟨za21⟩
    have n2_:Aside0 ((((w43.setCell ⟨gb11008,0,none⟩ (.string ((rd_T32 t11004 x15_1).f0))).setCell ⟨gb11008,1,none⟩ (.string ((rd_T32 t11004 x15_1).f1))).setCell ⟨gb11008,2,none⟩ (.string ((rd_T32 t11004 x15_1).f2))).heap[gb11002]? = some (.cells #[.string (⟨#[]⟩:ByteArray),.string (⟨#[]⟩:ByteArray),.string (⟨#[]⟩:ByteArray)] 32 (0,0))):=⟨za20⟩
    have n3_:Aside0 ((((w43.setCell ⟨gb11008,0,none⟩ (.string ((rd_T32 t11004 x15_1).f0))).setCell ⟨gb11008,1,none⟩ (.string ((rd_T32 t11004 x15_1).f1))).setCell ⟨gb11008,2,none⟩ (.string ((rd_T32 t11004 x15_1).f2))).heap[gb11003]? = some (.cells #[.string x11004000_1,.string x11004001_1,.string x11004002_1] 32 (0,0))):=⟨za19⟩
    have n4_:Aside0 ((((w43.setCell ⟨gb11008,0,none⟩ (.string ((rd_T32 t11004 x15_1).f0))).setCell ⟨gb11008,1,none⟩ (.string ((rd_T32 t11004 x15_1).f1))).setCell ⟨gb11008,2,none⟩ (.string ((rd_T32 t11004 x15_1).f2))).heap[gb11008]? = some (.cells #[.string ((rd_T32 t11004 x15_1).f0),.string ((rd_T32 t11004 x15_1).f1),.string ((rd_T32 t11004 x15_1).f2)] 32 (0,0))):=⟨za13⟩
    have n5_:Aside0 (Below w.heap.size w (((w43.setCell ⟨gb11008,0,none⟩ (.string ((rd_T32 t11004 x15_1).f0))).setCell ⟨gb11008,1,none⟩ (.string ((rd_T32 t11004 x15_1).f1))).setCell ⟨gb11008,2,none⟩ (.string ((rd_T32 t11004 x15_1).f2)))):=⟨za4⟩
    (try clear HO_13)
    (try clear BK11001)
    (try clear BK11002)
    (try clear BK11003)
    (try clear BK11008)
    (try clear HB)
    generalize (((w43.setCell ⟨gb11008,0,none⟩ (.string ((rd_T32 t11004 x15_1).f0))).setCell ⟨gb11008,1,none⟩ (.string ((rd_T32 t11004 x15_1).f1))).setCell ⟨gb11008,2,none⟩ (.string ((rd_T32 t11004 x15_1).f2)))=w48 at n0_ n1_ n2_ n3_ n4_ n5_ ⊢
    have HO_13:=n0_
    have BK11001:=n1_
    have BK11002:=n2_
    have BK11003:=n3_
    have BK11008:=n4_
    have HB:=n5_
    clear n0_ n1_ n2_ n3_ n4_ n5_
    have n0_:=zk (Kd.R_drew HO_13.out)
    have n1_:=zk (blk_drew BK11001.out)
    have n2_:=zk (blk_drew BK11002.out)
    have n3_:=zk (blk_drew BK11003.out)
    have n4_:=zk (blk_drew BK11008.out)
    have n5_:=zk (below_drew1 HB.out)
    clear HO_13
    clear BK11001
    clear BK11002
    clear BK11003
    clear BK11008
    clear HB
    have HO_13:=n0_
    have BK11001:=n1_
    have BK11002:=n2_
    have BK11003:=n3_
    have BK11008:=n4_
    have HB:=n5_
    clear n0_ n1_ n2_ n3_ n4_ n5_
    refine start_ (n:=9) (S:=fun w'=>True) (ds:=[]) #[false,false,false,false,false,false,false,false,false] (by kernel_rfl) rfl rfl trivial (fun hHeld=>?_);refine with_tabW impl_LeastModel.tab5 impl_LeastModel.bits5 (fun HT_ HW_=>?_)
    generalize w48.drew=w49 at HO_13 BK11001 BK11002 BK11003 BK11008 HB hHeld ⊢
    refine pure_ (i:=0) (N:=some 19) (v:=?_) (a':=?_) #[true,false,false,false,false,false,false,false,false] rfl rfl (any_of HT_.out (by kernel_rfl)) (fun _ _ _ h=>h) (Or.inl ⟨by rfl,?_⟩) ?_ ?_
    rotate_left
    ·intro w'
     go_simp
     first|with_reducible rfl|(rw [if_neg (by omega)];done)
    rotate_left
    ·simp only [Act.put,zt,zu,zv,i64_w,i32_w]
     rfl
    refine pure_ (i:=1) (N:=some 20) (v:=?_) (a':=?_) #[true,true,false,false,false,false,false,false,false] rfl rfl (any_of HT_.out (by kernel_rfl)) (fun _ _ _ h=>h) (Or.inl ⟨by rfl,?_⟩) ?_ ?_
    rotate_left
    ·intro w'
     go_simp
     first|with_reducible rfl|(rw [if_neg (by omega)];done)
    rotate_left
    ·simp only [Act.put,zt,zu,zv,i64_w,i32_w]
     rfl
    refine pure_ (i:=2) (N:=some 21) (v:=?_) (a':=?_) #[true,true,true,false,false,false,false,false,false] rfl rfl (any_of HT_.out (by kernel_rfl)) (fun _ _ _ h=>h) (Or.inl ⟨by rfl,?_⟩) ?_ ?_
    rotate_left
    ·intro w'
     go_simp
     first|with_reducible rfl|(rw [if_neg (by omega)];done)
    rotate_left
    ·simp only [Act.put,zt,zu,zv,i64_w,i32_w]
     rfl
    refine pure_ (i:=3) (N:=some 22) (v:=undef) (a':=?_) #[true,true,true,true,false,false,false,false,false] rfl rfl (any_of HT_.out (by kernel_rfl)) (fun _ _ _ h=>h) (Or.inr ⟨by rfl,rfl⟩) ?_ ?_
    rotate_left
    ·simp only [Act.put,zt,zu,zv,i64_w,i32_w]
     rfl
    refine pure_ (i:=4) (N:=some 23) (v:=undef) (a':=?_) #[true,true,true,true,true,false,false,false,false] rfl rfl (any_of HT_.out (by kernel_rfl)) (fun _ _ _ h=>h) (Or.inr ⟨by rfl,rfl⟩) ?_ ?_
    rotate_left
    ·simp only [Act.put,zt,zu,zv,i64_w,i32_w]
     rfl
    refine pure_ (i:=5) (N:=some 24) (v:=undef) (a':=?_) #[true,true,true,true,true,true,false,false,false] rfl rfl (any_of HT_.out (by kernel_rfl)) (fun _ _ _ h=>h) (Or.inr ⟨by rfl,rfl⟩) ?_ ?_
    rotate_left
    ·simp only [Act.put,zt,zu,zv,i64_w,i32_w]
     rfl
    refine pure_ (i:=6) (N:=some 25) (v:=undef) (a':=?_) #[true,true,true,true,true,true,true,false,false] rfl rfl (any_of HT_.out (by kernel_rfl)) (fun _ _ _ h=>h) (Or.inr ⟨by rfl,rfl⟩) ?_ ?_
    rotate_left
    ·simp only [Act.put,zt,zu,zv,i64_w,i32_w]
     rfl
    refine pure_ (i:=7) (N:=some 26) (v:=undef) (a':=?_) #[true,true,true,true,true,true,true,true,false] rfl rfl (any_of HT_.out (by kernel_rfl)) (fun _ _ _ h=>h) (Or.inr ⟨by rfl,rfl⟩) ?_ ?_
    rotate_left
    ·simp only [Act.put,zt,zu,zv,i64_w,i32_w]
     rfl
    refine pure_ (i:=8) (N:=some 27) (v:=?_) (a':=?_) #[true,true,true,true,true,true,true,true,true] rfl rfl (any_of HT_.out (by kernel_rfl)) (fun _ _ _ h=>h) (Or.inl ⟨by rfl,?_⟩) ?_ ?_
    rotate_left
    ·intro w'
     go_simp
     first|with_reducible rfl|(rw [if_neg (by omega)];done)
    rotate_left
    ·simp only [Act.put,zt,zu,zv,i64_w,i32_w]
     rfl
    refine done_ (done_of HT_.out (by kernel_rfl)) ?_
    obtain ⟨hcz50_0,hcz50_1,hcz50_2,hfz50_0,hfz50_1,hfz50_2⟩:=blk3 BK11008.out
    have hnb51:=NB11003_11001.out
    have hnc51:=NB11001_11003.out
    have hnb52:=NB11003_11002.out
    have hnc52:=NB11002_11003.out
    obtain ⟨hcz53_0,hcz53_1,hcz53_2,hfz53_0,hfz53_1,hfz53_2⟩:=blk3 BK11003.out
    try go_wp2
    go_roundg k1
    case measure=>have:=HK1.out;omega
    case rel=>exact ⟨(true),(wrap64 (x15_1+1)),((rd_T32 t11004 x15_1).f0),((rd_T32 t11004 x15_1).f1),((rd_T32 t11004 x15_1).f2),za8,za8,H',⟨za17⟩,⟨za32⟩,⟨za22⟩,⟨za15⟩,⟨za24⟩,⟨za4⟩⟩
   ·rw [if_neg c16] at H
    exact absurd H (by simp)
   ·rw [if_neg c15] at H
    exact absurd H (by simp)
   ·rw [if_neg c14] at H
    have c14b0:decide (x15_1 < (t11004.length:Int))=false:=decide_eq_false c14
    clear c14
    simp only [Option.some.injEq,Prod.mk.injEq] at H
    obtain ⟨rfl,rfl,rfl,rfl⟩:=H
    have hnb54:=NB11003_11001.out
    have hnc54:=NB11001_11003.out
    have hnb55:=NB11003_11002.out
    have hnc55:=NB11002_11003.out
    obtain ⟨hcz56_0,hcz56_1,hcz56_2,hfz56_0,hfz56_1,hfz56_2⟩:=blk3 BK11003.out
    have hnb57:=NB11002_11001.out
    have hnc57:=NB11001_11002.out
    obtain ⟨hcz58_0,hcz58_1,hcz58_2,hfz58_0,hfz58_1,hfz58_2⟩:=blk3 BK11002.out
    go_wp2
    refine bodyPost_ret (results_ct rfl _ _ gb11002 32 #[.string x11004000_1,.string x11004001_1,.string x11004002_1] (0,0) _ rfl (by (with_reducible repeat (first|refine blk_drewN ?_ _|refine blk_drew ?_|refine blk_alloc ?_ _));refine blk_put (cs:=#[.string x11004000_1,.string x11004001_1,.string (⟨#[]⟩:ByteArray)]) ?_ 2 _ rfl;(with_reducible repeat (first|refine blk_drewN ?_ _|refine blk_drew ?_|refine blk_alloc ?_ _));refine blk_put (cs:=#[.string x11004000_1,.string (⟨#[]⟩:ByteArray),.string (⟨#[]⟩:ByteArray)]) ?_ 1 _ rfl;(with_reducible repeat (first|refine blk_drewN ?_ _|refine blk_drew ?_|refine blk_alloc ?_ _));refine blk_put (cs:=#[.string (⟨#[]⟩:ByteArray),.string (⟨#[]⟩:ByteArray),.string (⟨#[]⟩:ByteArray)]) ?_ 0 _ rfl;(with_reducible repeat (first|refine blk_drewN ?_ _|refine blk_drew ?_|refine blk_alloc ?_ _));exact BK11002.out) Tryz.underlying32 rfl (by kernel_rfl)) rfl ?_
    exact ⟨za7,za4⟩
def laws_FnExactLeastModel.j0:Nat→Bool→List (S103)→List (S67)→Option (Bool)
 | 0,_,_,_=>none
 | k+1,x39,x5002000,x5015000=>if x39=true then (some false) else ((laws_toProblem.f k x5002000).bind fun t5021=>((laws_eqProblem.f k x5015000 t5021).bind fun t5024=>(if t5024=true then (some true) else (some false))))
def laws_FnExactLeastModel.f (k:Nat) (l0_0:List (S103)) (a1:Int):Option (Bool):=(laws_szProblem.f k l0_0 1048576).bind fun t5002=>(if t5002 < 0 then (some true) else ((laws_toProblem.f k l0_0).bind fun t5003=>((spec_LeastModel.f k t5003 a1).bind fun bt5006=>((laws_toProblem.f k l0_0).bind fun t5011=>((impl_LeastModel.f k t5011 a1).bind fun bt5015=>((laws_eqValues.f bt5015.1 bt5015.2.1 bt5015.2.2.1 bt5006.1 bt5006.2.1 bt5006.2.2.1).bind fun t5020=>(if t5020=true then (laws_FnExactLeastModel.j0 k (bt5015.2.2.2 != bt5006.2.2.2) l0_0 t5011) else (laws_FnExactLeastModel.j0 k true l0_0 t5011))))))))
theorem laws_FnExactLeastModel.mono_l:∀ k,(∀ y0 y1 y2,LeO (laws_FnExactLeastModel.j0 k y0 y1 y2) (laws_FnExactLeastModel.j0 (k+1) y0 y1 y2))
 | 0=>fun _ _ _ r h=>by simp [laws_FnExactLeastModel.j0] at h
 | k+1=>by
  have ih0:=laws_FnExactLeastModel.mono_l k
  ·intro y0 y1 y2
   unfold laws_FnExactLeastModel.j0
   repeat' first
   | with_reducible first|exact ih0 _ _ _|exact impl_LeastModel.mono _ _ _|exact laws_eqProblem.mono _ _ _|exact laws_szProblem.mono _ _ _|exact laws_toProblem.mono _ _|exact spec_LeastModel.mono _ _ _|exact LeO.refl _|exact LeO.none _|refine LeO.ite ?_ ?_|refine LeO.bind ?_ (fun _=>?_)
theorem laws_FnExactLeastModel.mono:∀ a0 a1 k,LeO (laws_FnExactLeastModel.f k a0 a1) (laws_FnExactLeastModel.f (k+1) a0 a1):=by
 intro a0 a1 k
 have ih0:=laws_FnExactLeastModel.mono_l k
 unfold laws_FnExactLeastModel.f
 repeat' first
  | with_reducible first|exact ih0 _ _ _|exact impl_LeastModel.mono _ _ _|exact laws_eqProblem.mono _ _ _|exact laws_szProblem.mono _ _ _|exact laws_toProblem.mono _ _|exact spec_LeastModel.mono _ _ _|exact LeO.refl _|exact LeO.none _|refine LeO.ite ?_ ?_|refine LeO.bind ?_ (fun _=>?_)
theorem laws_FnExactLeastModel.calls (k:Nat) (A0_0:Option Addr) (c0_0:Nat) (l0_0:List (S103)) (a1:Int) (r:Bool) (w:World) (hr0_0:Kd.C k103 w A0_0 l0_0.length l0_0) (hc0_0:l0_0.length≤c0_0) (h:laws_FnExactLeastModel.f k l0_0 a1=some r) :
  Calls Tryz.prog 5 #[.agg #[.slice A0_0 l0_0.length c0_0],.int .i64 a1] w fun e w'=>e = .returned (.bool r)∧Below w.heap.size w w':=by
 have hu42:=Tryz.underlying42
 have hu32:=Tryz.underlying32
 have hu26:=Tryz.underlying26
 have HR0_0:=zk hr0_0
 have HC0_0:=zk hc0_0
 clear hr0_0 hc0_0
 have HB:=zk (Below.refl w.heap.size w)
 have H:((laws_szProblem.f k l0_0 1048576).bind fun t5002=>(if t5002 < 0 then (some true) else ((laws_toProblem.f k l0_0).bind fun t5003=>((spec_LeastModel.f k t5003 a1).bind fun bt5006=>((laws_toProblem.f k l0_0).bind fun t5011=>((impl_LeastModel.f k t5011 a1).bind fun bt5015=>((laws_eqValues.f bt5015.1 bt5015.2.1 bt5015.2.2.1 bt5006.1 bt5006.2.1 bt5006.2.2.1).bind fun t5020=>(if t5020=true then (laws_FnExactLeastModel.j0 k (bt5015.2.2.2 != bt5006.2.2.2) l0_0 t5011) else (laws_FnExactLeastModel.j0 k true l0_0 t5011)))))))))=some r:=h
 clear h
 replace H:=zo H
 obtain ⟨t5002,A30,H⟩:=H
 replace H:(if t5002 < 0 then (some true) else ((laws_toProblem.f k l0_0).bind fun t5003=>((spec_LeastModel.f k t5003 a1).bind fun bt5006=>((laws_toProblem.f k l0_0).bind fun t5011=>((impl_LeastModel.f k t5011 a1).bind fun bt5015=>((laws_eqValues.f bt5015.1 bt5015.2.1 bt5015.2.2.1 bt5006.1 bt5006.2.1 bt5006.2.2.1).bind fun t5020=>(if t5020=true then (laws_FnExactLeastModel.j0 k (bt5015.2.2.2 != bt5006.2.2.2) l0_0 t5011) else (laws_FnExactLeastModel.j0 k true l0_0 t5011))))))))=some r:=H
 have A3:=zk A30
 clear A30
 by_cases c4:t5002 < 0
 ·rw [if_pos c4] at H
  have c4b0:decide (t5002 < 0)=true:=decide_eq_true c4
  clear c4
  obtain rfl:=zi H
  go_enter Tryz.func5,Tryz.ntmps5
  go_wp2_with (first|((with_reducible refine gate_dst (N:=2) rfl ?_);refine zE (N:=2) (cs:=#[.slice A0_0 l0_0.length c0_0]) (t:=42) ?_;intro gb5001 hg w5 hbox hb;have n0_:=zk (below_step za4 hb);have n1_:=zk (hbox);have n2_:=zk (zs (w:=w) hg za4);have n3_:=zk (zs (w:=w) hg za4);clear HB;have HB:=n0_;have BK5001:=n1_;have GW5001:=n2_;have GE5001:=n3_;clear n0_ n1_ n2_ n3_;clear hb hbox hg;obtain ⟨hcz6_0,hfz6_0⟩:=blk1 BK5001.out)|((with_reducible refine gate_callee (f:=19) rfl ?_);refine goesL_ (some 13) rfl rfl Tryz.func19 (by kernel_rfl) rfl #[.agg #[.slice A0_0 l0_0.length c0_0],.int .i64 1048576] rfl za5 ?_;(with_reducible refine (laws_szProblem.calls k _ _ l0_0 1048576 t5002 _ ?side1 ?side2 A3.out).mono ?_);(case side1=>repeat (first|exact (Kd.C_below HR0_0.out HB.out)|(with_reducible refine Kd.C_alloc ?_ _)|(with_reducible refine Kd.C_drewN ?_ _)|(with_reducible refine Kd.C_drew ?_)));(case side2=>exact HC0_0.out);rintro e w7 ⟨rfl,hb⟩;refine ⟨_,rfl,?_⟩;have n0_:=zk (zb BK5001.out hb);have n1_:=zk (below_step za4 hb);clear BK5001;clear HB;have BK5001:=n0_;have HB:=n1_;clear n0_ n1_;(try clear hb);(try clear hb2);(try clear hk);(try clear hi)))
  go_ret
  exact ⟨za7,za4⟩
 ·rw [if_neg c4] at H
  have c4b0:decide (t5002 < 0)=false:=decide_eq_false c4
  clear c4
  replace H:=zo H
  obtain ⟨t5003,A80,H⟩:=H
  replace H:((spec_LeastModel.f k t5003 a1).bind fun bt5006=>((laws_toProblem.f k l0_0).bind fun t5011=>((impl_LeastModel.f k t5011 a1).bind fun bt5015=>((laws_eqValues.f bt5015.1 bt5015.2.1 bt5015.2.2.1 bt5006.1 bt5006.2.1 bt5006.2.2.1).bind fun t5020=>(if t5020=true then (laws_FnExactLeastModel.j0 k (bt5015.2.2.2 != bt5006.2.2.2) l0_0 t5011) else (laws_FnExactLeastModel.j0 k true l0_0 t5011))))))=some r:=H
  have A8:=zk A80
  clear A80
  replace H:=zo H
  obtain ⟨⟨t5006,t5007,t5008,t5009⟩,A90,H⟩:=H
  replace H:((laws_toProblem.f k l0_0).bind fun t5011=>((impl_LeastModel.f k t5011 a1).bind fun bt5015=>((laws_eqValues.f bt5015.1 bt5015.2.1 bt5015.2.2.1 t5006 t5007 t5008).bind fun t5020=>(if t5020=true then (laws_FnExactLeastModel.j0 k (bt5015.2.2.2 != t5009) l0_0 t5011) else (laws_FnExactLeastModel.j0 k true l0_0 t5011)))))=some r:=H
  have A9:=zk A90
  clear A90
  replace H:=zo H
  obtain ⟨t5011,A100,H⟩:=H
  replace H:((impl_LeastModel.f k t5011 a1).bind fun bt5015=>((laws_eqValues.f bt5015.1 bt5015.2.1 bt5015.2.2.1 t5006 t5007 t5008).bind fun t5020=>(if t5020=true then (laws_FnExactLeastModel.j0 k (bt5015.2.2.2 != t5009) l0_0 t5011) else (laws_FnExactLeastModel.j0 k true l0_0 t5011))))=some r:=H
  have A10:=zk A100
  clear A100
  replace H:=zo H
  obtain ⟨⟨t5015,t5016,t5017,t5018⟩,A110,H⟩:=H
  replace H:((laws_eqValues.f t5015 t5016 t5017 t5006 t5007 t5008).bind fun t5020=>(if t5020=true then (laws_FnExactLeastModel.j0 k (t5018 != t5009) l0_0 t5011) else (laws_FnExactLeastModel.j0 k true l0_0 t5011)))=some r:=H
  have A11:=zk A110
  clear A110
  have HC12:=zk H
  clear H
  go_enter Tryz.func5,Tryz.ntmps5
  go_upto_region 8 with (first|((with_reducible refine gate_dst (N:=2) rfl ?_);refine zE (N:=2) (cs:=#[.slice A0_0 l0_0.length c0_0]) (t:=42) ?_;intro gb5001 hg w13 hbox hb;have n0_:=zk (below_step za4 hb);have n1_:=zk (hbox);have n2_:=zk (zs (w:=w) hg za4);have n3_:=zk (zs (w:=w) hg za4);clear HB;have HB:=n0_;have BK5001:=n1_;have GW5001:=n2_;have GE5001:=n3_;clear n0_ n1_ n2_ n3_;clear hb hbox hg;obtain ⟨hcz14_0,hfz14_0⟩:=blk1 BK5001.out)|((with_reducible refine gate_callee (f:=19) rfl ?_);refine goesL_ (some 13) rfl rfl Tryz.func19 (by kernel_rfl) rfl #[.agg #[.slice A0_0 l0_0.length c0_0],.int .i64 1048576] rfl za5 ?_;(with_reducible refine (laws_szProblem.calls k _ _ l0_0 1048576 t5002 _ ?side1 ?side2 A3.out).mono ?_);(case side1=>repeat (first|exact (Kd.C_below HR0_0.out HB.out)|(with_reducible refine Kd.C_alloc ?_ _)|(with_reducible refine Kd.C_drewN ?_ _)|(with_reducible refine Kd.C_drew ?_)));(case side2=>exact HC0_0.out);rintro e w15 ⟨rfl,hb⟩;refine ⟨_,rfl,?_⟩;have n0_:=zk (zb BK5001.out hb);have n1_:=zk (below_step za4 hb);clear BK5001;clear HB;have BK5001:=n0_;have HB:=n1_;clear n0_ n1_;(try clear hb);(try clear hb2);(try clear hk);(try clear hi);obtain ⟨hcz16_0,hfz16_0⟩:=blk1 BK5001.out)|((with_reducible refine gate_callee (f:=21) rfl ?_);refine goesL_ (some 18) rfl rfl Tryz.func21 (by kernel_rfl) rfl #[.agg #[.slice A0_0 l0_0.length c0_0]] rfl za5 ?_;(with_reducible refine (laws_toProblem.calls k _ _ l0_0 t5003 _ ?side1 ?side2 A8.out).mono ?_);(case side1=>repeat (first|exact (Kd.C_below HR0_0.out HB.out)|(with_reducible refine Kd.C_alloc ?_ _)|(with_reducible refine Kd.C_drewN ?_ _)|(with_reducible refine Kd.C_drew ?_)));(case side2=>exact HC0_0.out);rintro e w17 ⟨v5004,rfl,ho0,hb⟩;refine ⟨_,rfl,?_⟩;have n0_:=zk (Kd.R_lower ho0 (below_size za4));have n1_:=zk (zb BK5001.out hb);have n2_:=zk (below_step za4 hb);clear BK5001;clear HB;have HO5005:=n0_;have BK5001:=n1_;have HB:=n2_;clear n0_ n1_ n2_;(try clear hb);(try clear hb2);(try clear hk);(try clear hi);(try clear ho0);obtain ⟨Ao18,co18,eo18⟩:=Kd.R_slice HO5005.out;subst eo18)|((with_reducible refine gate_callee (f:=24) rfl ?_);refine goesL_ (some 20) rfl rfl Tryz.func24 (by kernel_rfl) rfl #[.agg #[.slice Ao18 t5003.length co18],.int .i64 a1] rfl za5 ?_;(with_reducible refine (spec_LeastModel.calls k _ _ t5003 a1 t5006 t5007 t5008 t5009 _ ?side1 ?side2 A9.out).mono ?_);(case side1=>repeat (first|exact (Kd.R_reads' HO5005.out).2.2|(with_reducible refine Kd.C_alloc ?_ _)|(with_reducible refine Kd.C_drewN ?_ _)|(with_reducible refine Kd.C_drew ?_)));(case side2=>exact (Kd.R_reads' HO5005.out).2.1);rintro e w19 ⟨rfl,hb⟩;refine ⟨_,rfl,?_⟩;have n0_:=zk (Kd.R_below (za1 HO5005.out) hb);have n1_:=zk (zb BK5001.out hb);have n2_:=zk (below_step za4 hb);clear HO5005;clear BK5001;clear HB;have HO5005:=n0_;have BK5001:=n1_;have HB:=n2_;clear n0_ n1_ n2_;(try clear hb);(try clear hb2);(try clear hk);(try clear hi))|((with_reducible refine gate_dst (N:=6) rfl ?_);refine zE (N:=6) (cs:=#[.string (⟨#[]⟩:ByteArray),.string (⟨#[]⟩:ByteArray),.string (⟨#[]⟩:ByteArray)]) (t:=32) ?_;intro gb5010 hg w20 hbox hb;have n0_:=zk (Kd.R_below (za1 HO5005.out) hb);have n1_:=zk (zb BK5001.out hb);have n2_:=zk (below_step za4 hb);have n3_:=zk (hbox);have n4_:=zk (zs (w:=w) hg za4);have n5_:=zk (zs (w:=w) hg za4);have n6_:=zk ((by rw [hg];exact Nat.ne_of_lt (zl BK5001.out):gb5001 ≠ gb5010));have n7_:=zk ((by rw [hg];exact Nat.ne_of_gt (zl BK5001.out):gb5010 ≠ gb5001));clear HO5005;clear BK5001;clear HB;have HO5005:=n0_;have BK5001:=n1_;have HB:=n2_;have BK5010:=n3_;have GW5010:=n4_;have GE5010:=n5_;have NB5001_5010:=n6_;have NB5010_5001:=n7_;clear n0_ n1_ n2_ n3_ n4_ n5_ n6_ n7_;clear hb hbox hg;have hnb21:=NB5010_5001.out;have hnc21:=NB5001_5010.out;obtain ⟨hcz22_0,hcz22_1,hcz22_2,hfz22_0,hfz22_1,hfz22_2⟩:=blk3 BK5010.out;obtain ⟨hcz23_0,hfz23_0⟩:=blk1 BK5001.out)|((with_reducible refine gate_callee (f:=21) rfl ?_);refine goesL_ (some 24) rfl rfl Tryz.func21 (by kernel_rfl) rfl #[.agg #[.slice A0_0 l0_0.length c0_0]] rfl za5 ?_;(with_reducible refine (laws_toProblem.calls k _ _ l0_0 t5011 _ ?side1 ?side2 A10.out).mono ?_);(case side1=>exact Kd.C_below HR0_0.out za4);(case side2=>exact HC0_0.out);rintro e w24 ⟨v5012,rfl,ho0,hb⟩;refine ⟨_,rfl,?_⟩;have n0_:=zk (Kd.R_elder' za35 (Kd.R_base ho0) hb);have n1_:=zk (Kd.R_lower (Kd.R_new' ho0 (Kd.R_lt za35)) (below_size za4));have n2_:=zk (blk_below (g:=gb5001) (o:=.cells #[.slice A0_0 l0_0.length c0_0] 42 (0,0)) (by (with_reducible repeat (first|refine blk_drewN ?_ _|refine blk_drew ?_|refine blk_alloc ?_ _));refine blk_far ?_ NB5001_5010.out _;(with_reducible repeat (first|refine blk_drewN ?_ _|refine blk_drew ?_|refine blk_alloc ?_ _));refine blk_far ?_ NB5001_5010.out _;(with_reducible repeat (first|refine blk_drewN ?_ _|refine blk_drew ?_|refine blk_alloc ?_ _));refine blk_far ?_ NB5001_5010.out _;(with_reducible repeat (first|refine blk_drewN ?_ _|refine blk_drew ?_|refine blk_alloc ?_ _));exact BK5001.out) hb);have n3_:=zk (blk_below (g:=gb5010) (o:=.cells #[.string t5006,.string t5007,.string t5008] 32 (0,0)) (by (with_reducible repeat (first|refine blk_drewN ?_ _|refine blk_drew ?_|refine blk_alloc ?_ _));refine blk_put (cs:=#[.string t5006,.string t5007,.string (⟨#[]⟩:ByteArray)]) ?_ 2 _ rfl;(with_reducible repeat (first|refine blk_drewN ?_ _|refine blk_drew ?_|refine blk_alloc ?_ _));refine blk_put (cs:=#[.string t5006,.string (⟨#[]⟩:ByteArray),.string (⟨#[]⟩:ByteArray)]) ?_ 1 _ rfl;(with_reducible repeat (first|refine blk_drewN ?_ _|refine blk_drew ?_|refine blk_alloc ?_ _));refine blk_put (cs:=#[.string (⟨#[]⟩:ByteArray),.string (⟨#[]⟩:ByteArray),.string (⟨#[]⟩:ByteArray)]) ?_ 0 _ rfl;(with_reducible repeat (first|refine blk_drewN ?_ _|refine blk_drew ?_|refine blk_alloc ?_ _));exact BK5010.out) hb);have n4_:=zk (below_step za4 hb);clear HO5005;clear BK5001;clear BK5010;clear HB;have HO5005:=n0_;have HO5013:=n1_;have BK5001:=n2_;have BK5010:=n3_;have HB:=n4_;clear n0_ n1_ n2_ n3_ n4_;(try clear hb);(try clear hb2);(try clear hk);(try clear hi);(try clear ho0))|((with_reducible refine gate_dst (N:=8) rfl ?_);refine zE (N:=8) (cs:=#[.slice none 0 0]) (t:=26) ?_;intro gb5014 hg w25 hbox hb;have n0_:=zk (Kd.R_below (za1 HO5005.out) hb);have n1_:=zk (Kd.R_below (za1 HO5013.out) hb);have n2_:=zk (zb BK5001.out hb);have n3_:=zk (zb BK5010.out hb);have n4_:=zk (below_step za4 hb);have n5_:=zk (hbox);have n6_:=zk (zs (w:=w) hg za4);have n7_:=zk (zs (w:=w) hg za4);have n8_:=zk ((by rw [hg];exact Nat.ne_of_lt (zl BK5001.out):gb5001 ≠ gb5014));have n9_:=zk ((by rw [hg];exact Nat.ne_of_gt (zl BK5001.out):gb5014 ≠ gb5001));have n10_:=zk ((by rw [hg];exact Nat.ne_of_lt (zl BK5010.out):gb5010 ≠ gb5014));have n11_:=zk ((by rw [hg];exact Nat.ne_of_gt (zl BK5010.out):gb5014 ≠ gb5010));clear HO5005;clear HO5013;clear BK5001;clear BK5010;clear HB;have HO5005:=n0_;have HO5013:=n1_;have BK5001:=n2_;have BK5010:=n3_;have HB:=n4_;have BK5014:=n5_;have GW5014:=n6_;have GE5014:=n7_;have NB5001_5014:=n8_;have NB5014_5001:=n9_;have NB5010_5014:=n10_;have NB5014_5010:=n11_;clear n0_ n1_ n2_ n3_ n4_ n5_ n6_ n7_ n8_ n9_ n10_ n11_;clear hb hbox hg;obtain ⟨Ao26,co26,eo26⟩:=Kd.R_slice HO5013.out;subst eo26;have hnb27:=NB5014_5001.out;have hnc27:=NB5001_5014.out;have hnb28:=NB5014_5010.out;have hnc28:=NB5010_5014.out;obtain ⟨hcz29_0,hfz29_0⟩:=blk1 BK5014.out)|((with_reducible refine gate_callee (f:=11) rfl ?_);refine goesL_ (some 28) rfl rfl Tryz.func11 (by kernel_rfl) rfl #[.agg #[.slice Ao26 t5011.length co26],.int .i64 a1] rfl za5 ?_;(with_reducible refine (impl_LeastModel.calls k _ _ t5011 a1 t5015 t5016 t5017 t5018 _ ?side1 ?side2 A11.out).mono ?_);(case side1=>refine (Kd.R_reads' (e:=67) (base:=w.heap.size) (ok:=fun k_=>(True∧some k_ ≠ (.slice Ao18 t5003.length co18:Value).ownBlock)) (n:=t5011.length) (c:=co26) ?_).2.2;exact za38);(case side2=>exact (Kd.R_reads' HO5013.out).2.1);rintro e w30 ⟨rfl,hb⟩;refine ⟨_,rfl,?_⟩;have n0_:=zk (Kd.R_below (by (with_reducible repeat (first|apply Kd.R_alloc|apply Kd.R_drewN|apply Kd.R_drew));exact (Kd.R_mono (Kd.R_far (p:=⟨gb5014,0,none⟩) (Kd.R_types HO5005.out BK5014.out (by decide)) (fun _ hk=>hk.2) (.slice Ao26 t5011.length co26)) (fun _ h_=>h_.1))) hb);have n1_:=zk (Kd.R_below za38 hb);have n2_:=zk (blk_below (g:=gb5001) (o:=.cells #[.slice A0_0 l0_0.length c0_0] 42 (0,0)) (by (with_reducible repeat (first|refine blk_drewN ?_ _|refine blk_drew ?_|refine blk_alloc ?_ _));refine blk_far ?_ NB5001_5014.out _;(with_reducible repeat (first|refine blk_drewN ?_ _|refine blk_drew ?_|refine blk_alloc ?_ _));exact BK5001.out) hb);have n3_:=zk (blk_below (g:=gb5010) (o:=.cells #[.string t5006,.string t5007,.string t5008] 32 (0,0)) (by (with_reducible repeat (first|refine blk_drewN ?_ _|refine blk_drew ?_|refine blk_alloc ?_ _));refine blk_far ?_ NB5010_5014.out _;(with_reducible repeat (first|refine blk_drewN ?_ _|refine blk_drew ?_|refine blk_alloc ?_ _));exact BK5010.out) hb);have n4_:=zk (blk_below (g:=gb5014) (o:=.cells #[.slice Ao26 t5011.length co26] 26 (0,0)) (by (with_reducible repeat (first|refine blk_drewN ?_ _|refine blk_drew ?_|refine blk_alloc ?_ _));refine blk_put (cs:=#[.slice none 0 0]) ?_ 0 _ rfl;(with_reducible repeat (first|refine blk_drewN ?_ _|refine blk_drew ?_|refine blk_alloc ?_ _));exact BK5014.out) hb);have n5_:=zk (below_step za4 hb);clear HO5005;clear HO5013;clear BK5001;clear BK5010;clear BK5014;clear HB;have HO5005:=n0_;have HO5013:=n1_;have BK5001:=n2_;have BK5010:=n3_;have BK5014:=n4_;have HB:=n5_;clear n0_ n1_ n2_ n3_ n4_ n5_;(try clear hb);(try clear hb2);(try clear hk);(try clear hi))|((with_reducible refine gate_dst (N:=9) rfl ?_);refine zE (N:=9) (cs:=#[.string (⟨#[]⟩:ByteArray),.string (⟨#[]⟩:ByteArray),.string (⟨#[]⟩:ByteArray)]) (t:=32) ?_;intro gb5019 hg w31 hbox hb;have n0_:=zk (Kd.R_below (za1 HO5005.out) hb);have n1_:=zk (Kd.R_below (za1 HO5013.out) hb);have n2_:=zk (zb BK5001.out hb);have n3_:=zk (zb BK5010.out hb);have n4_:=zk (zb BK5014.out hb);have n5_:=zk (below_step za4 hb);have n6_:=zk (hbox);have n7_:=zk (zs (w:=w) hg za4);have n8_:=zk (zs (w:=w) hg za4);have n9_:=zk ((by rw [hg];exact Nat.ne_of_lt (zl BK5001.out):gb5001 ≠ gb5019));have n10_:=zk ((by rw [hg];exact Nat.ne_of_gt (zl BK5001.out):gb5019 ≠ gb5001));have n11_:=zk ((by rw [hg];exact Nat.ne_of_lt (zl BK5010.out):gb5010 ≠ gb5019));have n12_:=zk ((by rw [hg];exact Nat.ne_of_gt (zl BK5010.out):gb5019 ≠ gb5010));have n13_:=zk ((by rw [hg];exact Nat.ne_of_lt (zl BK5014.out):gb5014 ≠ gb5019));have n14_:=zk ((by rw [hg];exact Nat.ne_of_gt (zl BK5014.out):gb5019 ≠ gb5014));clear HO5005;clear HO5013;clear BK5001;clear BK5010;clear BK5014;clear HB;have HO5005:=n0_;have HO5013:=n1_;have BK5001:=n2_;have BK5010:=n3_;have BK5014:=n4_;have HB:=n5_;have BK5019:=n6_;have GW5019:=n7_;have GE5019:=n8_;have NB5001_5019:=n9_;have NB5019_5001:=n10_;have NB5010_5019:=n11_;have NB5019_5010:=n12_;have NB5014_5019:=n13_;have NB5019_5014:=n14_;clear n0_ n1_ n2_ n3_ n4_ n5_ n6_ n7_ n8_ n9_ n10_ n11_ n12_ n13_ n14_;clear hb hbox hg;have hnb32:=NB5019_5001.out;have hnc32:=NB5001_5019.out;have hnb33:=NB5019_5010.out;have hnc33:=NB5010_5019.out;have hnb34:=NB5019_5014.out;have hnc34:=NB5014_5019.out;obtain ⟨hcz35_0,hcz35_1,hcz35_2,hfz35_0,hfz35_1,hfz35_2⟩:=blk3 BK5019.out))
  (try simp only [Act.put,zt,zu,zv])
  go_cut [39] (fun v39 wc=>∃ (kq:Nat) (x39_11:Bool),v39 = .bool x39_11∧Aside0 (laws_FnExactLeastModel.j0 kq x39_11 l0_0 t5011=some r)∧Aside0 (kq≤k)∧Aside0 (Kd.R k67 67 wc w.heap.size (fun _=>True) (.slice Ao26 t5011.length co26) t5011)∧Aside0 (wc.heap[gb5001]? = some (.cells #[(.slice A0_0 l0_0.length c0_0)] 42 (0,0)))∧Aside0 (wc.heap[gb5010]? = some (.cells #[.string t5006,.string t5007,.string t5008] 32 (0,0)))∧Aside0 (wc.heap[gb5014]? = some (.cells #[(.slice Ao26 t5011.length co26)] 26 (0,0)))∧Aside0 (wc.heap[gb5019]? = some (.cells #[.string t5015,.string t5016,.string t5017] 32 (0,0)))∧Aside0 (Below w.heap.size w wc))
  case first =>
   have H:=HC12.out
   clear HC12
   replace H:=zo H
   obtain ⟨t5020,A360,H⟩:=H
   replace H:(if t5020=true then (laws_FnExactLeastModel.j0 k (t5018 != t5009) l0_0 t5011) else (laws_FnExactLeastModel.j0 k true l0_0 t5011))=some r:=H
   have A36:=zk A360
   clear A360
   by_cases c37:t5020=true
   subst c37
   have H1:(laws_FnExactLeastModel.j0 k (t5018 != t5009) l0_0 t5011)=some r:=by rw [if_pos rfl] at H;exact H
   have fin0_:=zk trivial
   rotate_left
   replace c37:=Bool.eq_false_iff.mpr c37
   subst c37
   have H1:(laws_FnExactLeastModel.j0 k true l0_0 t5011)=some r:=by rw [if_neg (show ¬ (false=true) by decide)] at H;exact H
   have fin1_:=zk trivial
   rotate_left
   all_goals
    clear H
    have H:=H1
    clear H1
    have H':=zk H
    clear H
    have hnb38:=NB5019_5001.out
    have hnc38:=NB5001_5019.out
    have hnb39:=NB5019_5010.out
    have hnc39:=NB5010_5019.out
    have hnb40:=NB5019_5014.out
    have hnc40:=NB5014_5019.out
    obtain ⟨hcz41_0,hcz41_1,hcz41_2,hfz41_0,hfz41_1,hfz41_2⟩:=blk3 BK5019.out
    have hnb42:=NB5010_5001.out
    have hnc42:=NB5001_5010.out
    have hnb43:=NB5010_5014.out
    have hnc43:=NB5014_5010.out
    obtain ⟨hcz44_0,hcz44_1,hcz44_2,hfz44_0,hfz44_1,hfz44_2⟩:=blk3 BK5010.out
    go_wp2_with (((with_reducible refine gate_callee (f:=22) rfl ?_);refine goesL_ (some 33) rfl rfl Tryz.func22 (by kernel_rfl) rfl #[.agg #[.string t5015,.string t5016,.string t5017],.agg #[.string t5006,.string t5007,.string t5008]] rfl za5 ?_;(with_reducible refine (laws_eqValues.calls t5015 t5016 t5017 t5006 t5007 t5008 _ _ A36.out).mono ?_);rintro e w45 ⟨rfl,hb⟩;refine ⟨_,rfl,?_⟩;have n0_:=zk (Kd.R_below (by (with_reducible repeat (first|apply Kd.R_alloc|apply Kd.R_drewN|apply Kd.R_drew));exact (Kd.R_mono (Kd.R_far (p:=⟨gb5019,2,none⟩) (Kd.R_far (p:=⟨gb5019,1,none⟩) (Kd.R_far (p:=⟨gb5019,0,none⟩) (Kd.R_types HO5005.out BK5019.out (by decide)) (fun _ hk=>hk.2) (.string t5015)) (fun _ hk=>hk.2) (.string t5016)) (fun _ hk=>hk.2) (.string t5017)) (fun _ h_=>h_.1))) hb);have n1_:=zk (Kd.R_below (by (with_reducible repeat (first|apply Kd.R_alloc|apply Kd.R_drewN|apply Kd.R_drew));exact (Kd.R_mono (Kd.R_far (p:=⟨gb5019,2,none⟩) (Kd.R_far (p:=⟨gb5019,1,none⟩) (Kd.R_far (p:=⟨gb5019,0,none⟩) (Kd.R_types HO5013.out BK5019.out (by decide)) (fun _ hk=>hk.2) (.string t5015)) (fun _ hk=>hk.2) (.string t5016)) (fun _ hk=>hk.2) (.string t5017)) (fun _ h_=>h_.1))) hb);have n2_:=zk (blk_below (g:=gb5001) (o:=.cells #[.slice A0_0 l0_0.length c0_0] 42 (0,0)) (by (with_reducible repeat (first|refine blk_drewN ?_ _|refine blk_drew ?_|refine blk_alloc ?_ _));refine blk_far ?_ NB5001_5019.out _;(with_reducible repeat (first|refine blk_drewN ?_ _|refine blk_drew ?_|refine blk_alloc ?_ _));refine blk_far ?_ NB5001_5019.out _;(with_reducible repeat (first|refine blk_drewN ?_ _|refine blk_drew ?_|refine blk_alloc ?_ _));refine blk_far ?_ NB5001_5019.out _;(with_reducible repeat (first|refine blk_drewN ?_ _|refine blk_drew ?_|refine blk_alloc ?_ _));exact BK5001.out) hb);have n3_:=zk (blk_below (g:=gb5010) (o:=.cells #[.string t5006,.string t5007,.string t5008] 32 (0,0)) (by (with_reducible repeat (first|refine blk_drewN ?_ _|refine blk_drew ?_|refine blk_alloc ?_ _));refine blk_far ?_ NB5010_5019.out _;(with_reducible repeat (first|refine blk_drewN ?_ _|refine blk_drew ?_|refine blk_alloc ?_ _));refine blk_far ?_ NB5010_5019.out _;(with_reducible repeat (first|refine blk_drewN ?_ _|refine blk_drew ?_|refine blk_alloc ?_ _));refine blk_far ?_ NB5010_5019.out _;(with_reducible repeat (first|refine blk_drewN ?_ _|refine blk_drew ?_|refine blk_alloc ?_ _));exact BK5010.out) hb);have n4_:=zk (blk_below (g:=gb5014) (o:=.cells #[.slice Ao26 t5011.length co26] 26 (0,0)) (by (with_reducible repeat (first|refine blk_drewN ?_ _|refine blk_drew ?_|refine blk_alloc ?_ _));refine blk_far ?_ NB5014_5019.out _;(with_reducible repeat (first|refine blk_drewN ?_ _|refine blk_drew ?_|refine blk_alloc ?_ _));refine blk_far ?_ NB5014_5019.out _;(with_reducible repeat (first|refine blk_drewN ?_ _|refine blk_drew ?_|refine blk_alloc ?_ _));refine blk_far ?_ NB5014_5019.out _;(with_reducible repeat (first|refine blk_drewN ?_ _|refine blk_drew ?_|refine blk_alloc ?_ _));exact BK5014.out) hb);have n5_:=zk (blk_below (g:=gb5019) (o:=.cells #[.string t5015,.string t5016,.string t5017] 32 (0,0)) (by (with_reducible repeat (first|refine blk_drewN ?_ _|refine blk_drew ?_|refine blk_alloc ?_ _));refine blk_put (cs:=#[.string t5015,.string t5016,.string (⟨#[]⟩:ByteArray)]) ?_ 2 _ rfl;(with_reducible repeat (first|refine blk_drewN ?_ _|refine blk_drew ?_|refine blk_alloc ?_ _));refine blk_put (cs:=#[.string t5015,.string (⟨#[]⟩:ByteArray),.string (⟨#[]⟩:ByteArray)]) ?_ 1 _ rfl;(with_reducible repeat (first|refine blk_drewN ?_ _|refine blk_drew ?_|refine blk_alloc ?_ _));refine blk_put (cs:=#[.string (⟨#[]⟩:ByteArray),.string (⟨#[]⟩:ByteArray),.string (⟨#[]⟩:ByteArray)]) ?_ 0 _ rfl;(with_reducible repeat (first|refine blk_drewN ?_ _|refine blk_drew ?_|refine blk_alloc ?_ _));exact BK5019.out) hb);have n6_:=zk (below_step za4 hb);clear HO5005;clear HO5013;clear BK5001;clear BK5010;clear BK5014;clear BK5019;clear HB;have HO5005:=n0_;have HO5013:=n1_;have BK5001:=n2_;have BK5010:=n3_;have BK5014:=n4_;have BK5019:=n5_;have HB:=n6_;clear n0_ n1_ n2_ n3_ n4_ n5_ n6_;(try clear hb);(try clear hb2);(try clear hk);(try clear hi)))
    first
    | (
       clear fin0_
       go_meet
       case rel=>exact ⟨_,((t5018 != t5009)),za8,H',⟨za26⟩,⟨za53⟩,⟨za0 BK5001.out⟩,⟨za0 BK5010.out⟩,⟨za0 BK5014.out⟩,⟨za0 BK5019.out⟩,⟨za4⟩⟩)
    | (
       clear fin1_
       go_meet
       case rel=>exact ⟨_,(true),za8,H',⟨za26⟩,⟨za53⟩,⟨za0 BK5001.out⟩,⟨za0 BK5010.out⟩,⟨za0 BK5014.out⟩,⟨za0 BK5019.out⟩,⟨za4⟩⟩)
  case rest =>
   clear HC12
   try clear c4
   try clear c4b0
   try clear hcz14_0
   try clear hcz16_0
   try clear hcz22_0
   try clear hcz22_1
   try clear hcz22_2
   try clear hcz23_0
   try clear hcz29_0
   try clear hcz35_0
   try clear hcz35_1
   try clear hcz35_2
   try clear hfz14_0
   try clear hfz16_0
   try clear hfz22_0
   try clear hfz22_1
   try clear hfz22_2
   try clear hfz23_0
   try clear hfz29_0
   try clear hfz35_0
   try clear hfz35_1
   try clear hfz35_2
   obtain ⟨kq,x39_11,rfl,HA,HJ11,HO_5015000,BK5001,BK5010,BK5014,BK5019,HB⟩:=hcut
   cases kq with
   | zero=>exact absurd HA.out (by simp [laws_FnExactLeastModel.j0])
   | succ kj11 =>
    have H:=HA.out
    clear HA
    simp only [laws_FnExactLeastModel.j0] at H
    by_cases c54:x39_11=true
    · subst c54
      have H1:(some false)=some r:=by rw [if_pos rfl] at H;exact H
      clear H
      have H:=H1
      clear H1
      obtain rfl:=zi H
      go_wp2
      go_ret
      exact ⟨za7,za4⟩
    replace c54:=Bool.eq_false_iff.mpr c54
    subst c54
    have H1:((laws_toProblem.f kj11 l0_0).bind fun t5021=>((laws_eqProblem.f kj11 t5011 t5021).bind fun t5024=>(if t5024=true then (some true) else (some false))))=some r:=by rw [if_neg (show ¬ (false=true) by decide)] at H;exact H
    clear H
    have H:=H1
    clear H1
    replace H:=zo H
    obtain ⟨t5021,A550,H⟩:=H
    replace H:((laws_eqProblem.f kj11 t5011 t5021).bind fun t5024=>(if t5024=true then (some true) else (some false)))=some r:=H
    have A55:=zk A550
    clear A550
    replace H:=zo H
    obtain ⟨t5024,A560,H⟩:=H
    replace H:(if t5024=true then (some true) else (some false))=some r:=H
    have A56:=zk A560
    clear A560
    by_cases c57:t5024=true
    subst c57
    have H1:(some true)=some r:=by rw [if_pos rfl] at H;exact H
    rotate_left
    replace c57:=Bool.eq_false_iff.mpr c57
    subst c57
    have H1:(some false)=some r:=by rw [if_neg (show ¬ (false=true) by decide)] at H;exact H
    rotate_left
    all_goals
     clear H
     have H:=H1
     clear H1
     obtain rfl:=zi H
     try go_wp2
     have n0_:=zk (Kd.R_drew HO_5015000.out)
     have n1_:=zk (blk_drew BK5001.out)
     have n2_:=zk (blk_drew BK5010.out)
     have n3_:=zk (blk_drew BK5014.out)
     have n4_:=zk (blk_drew BK5019.out)
     have n5_:=zk (below_drew1 HB.out)
     clear HO_5015000
     clear BK5001
     clear BK5010
     clear BK5014
     clear BK5019
     clear HB
     have HO_5015000:=n0_
     have BK5001:=n1_
     have BK5010:=n2_
     have BK5014:=n3_
     have BK5019:=n4_
     have HB:=n5_
     clear n0_ n1_ n2_ n3_ n4_ n5_
     refine start_ (n:=5) (S:=fun w'=>w'.cell? ⟨gb5014,0,none⟩=some (.slice Ao26 t5011.length co26)∧w'.cell? ⟨gb5001,0,none⟩=some (.slice A0_0 l0_0.length c0_0)) (ds:=[]) #[false,false,false,false,false] (by kernel_rfl) rfl rfl ⟨(blk_cell BK5014.out 0).trans rfl,(blk_cell BK5001.out 0).trans rfl⟩ (fun hHeld=>?_)
     generalize wc.drew=w58 at HO_5015000 BK5001 BK5010 BK5014 BK5019 HB hHeld ⊢
     refine take_ (i:=0) (N:=some 40) (v:=?_) (a':=?_) #[true,false,false,false,false] rfl rfl (by kernel_rfl) (fun _ _ _ h=>h) (Or.inl ⟨by rfl,?_⟩) hHeld ?_ ?_
     rotate_left
     · rintro w' ⟨s0,s1⟩
       go_simp
       first|with_reducible rfl|(rw [if_neg (by omega)];done)
     rotate_left
     · simp only [Act.put,zt,zu,zv,i64_w,i32_w]
       rfl
     refine take_ (i:=1) (N:=some 41) (v:=?_) (a':=?_) #[true,true,false,false,false] rfl rfl (by kernel_rfl) (fun _ _ _ h=>h) (Or.inl ⟨by rfl,?_⟩) hHeld ?_ ?_
     rotate_left
     · rintro w' ⟨s0,s1⟩
       go_simp
       first|with_reducible rfl|(rw [if_neg (by omega)];done)
     rotate_left
     · simp only [Act.put,zt,zu,zv,i64_w,i32_w]
       rfl
     refine one_ (i:=2) (N:=some 42) #[true,true,true,false,false] rfl rfl (by kernel_rfl) (by decide) (fun K hK=>?_)
     refine goes_ Tryz.func21 (by kernel_rfl) rfl #[.agg #[.slice A0_0 l0_0.length c0_0]] (by rfl) rfl rfl za5 ?_
     with_reducible refine (laws_toProblem.calls kj11 _ _ l0_0 t5021 _ ?side1 ?side2 A55.out).mono ?_
     (case side1=>repeat (first|exact (Kd.C_below HR0_0.out HB.out)|(with_reducible refine Kd.C_alloc ?_ _)|(with_reducible refine Kd.C_drewN ?_ _)|(with_reducible refine Kd.C_drew ?_)))
     (case side2=>exact HC0_0.out)
     rintro e w59 ⟨v5022,rfl,ho0,hb⟩
     refine ⟨_,rfl,?_⟩
     have n0_:=zk (Kd.R_elder' (za1 HO_5015000.out) (Kd.R_base ho0) hb)
     have n1_:=zk (Kd.R_lower (Kd.R_new' ho0 (Kd.R_lt (za1 HO_5015000.out))) (below_size za4))
     have n2_:=zk (zb BK5001.out hb)
     have n3_:=zk (zb BK5010.out hb)
     have n4_:=zk (zb BK5014.out hb)
     have n5_:=zk (zb BK5019.out hb)
     have n6_:=zk (below_step za4 hb)
     clear HO_5015000
     clear BK5001
     clear BK5010
     clear BK5014
     clear BK5019
     clear HB
     have HO_5015000:=n0_
     have HO5023:=n1_
     have BK5001:=n2_
     have BK5010:=n3_
     have BK5014:=n4_
     have BK5019:=n5_
     have HB:=n6_
     clear n0_ n1_ n2_ n3_ n4_ n5_ n6_
     (try clear hb)
     (try clear hb2)
     (try clear hk)
     (try clear hi)
     (try clear ho0)
     obtain ⟨Ao60,co60,eo60⟩:=Kd.R_slice HO5023.out
     (first|subst eo60|(injection eo60 with f1_ f2_ f3_;have f4_:=f1_.symm;have f5_:=f3_.symm;clear f1_ f2_ f3_;subst f4_;subst f5_))
     refine hK.out _ _ ⟨(blk_cell BK5014.out 0).trans rfl,(blk_cell BK5001.out 0).trans rfl⟩ (fun hHeld=>?_)
     clear hK K
     refine norm_ (a':=?_) ?_ ?_
     rotate_left
     · show Act.put _ (some 42) _=_
       simp only [Act.put,zt,zu,zv,i64_w,i32_w]
       rfl
     refine one_ (i:=3) (N:=some 43) #[true,true,true,true,false] rfl rfl (by kernel_rfl) (by decide) (fun K hK=>?_)
     refine goes_ Tryz.func23 (by kernel_rfl) rfl #[.agg #[.slice Ao26 t5011.length co26],.agg #[.slice Ao60 t5021.length co60]] (by rfl) rfl rfl za5 ?_
     with_reducible refine (laws_eqProblem.calls kj11 _ _ t5011 _ _ t5021 _ _ ?side1 ?side2 ?side3 ?side4 A56.out).mono ?_
     (case side1=>repeat (first|exact (Kd.R_reads' HO_5015000.out).2.2|(with_reducible refine Kd.C_alloc ?_ _)|(with_reducible refine Kd.C_drewN ?_ _)|(with_reducible refine Kd.C_drew ?_)))
     (case side2=>exact (Kd.R_reads' HO_5015000.out).2.1)
     (case side3=>repeat (first|exact (Kd.R_reads' HO5023.out).2.2|(with_reducible refine Kd.C_alloc ?_ _)|(with_reducible refine Kd.C_drewN ?_ _)|(with_reducible refine Kd.C_drew ?_)))
     (case side4=>exact (Kd.R_reads' HO5023.out).2.1)
     rintro e w61 ⟨rfl,hb⟩
     refine ⟨_,rfl,?_⟩
     have n0_:=zk (Kd.R_below (za1 HO_5015000.out) hb)
     have n1_:=zk (Kd.R_below (za1 HO5023.out) hb)
     have n2_:=zk (zb BK5001.out hb)
     have n3_:=zk (zb BK5010.out hb)
     have n4_:=zk (zb BK5014.out hb)
     have n5_:=zk (zb BK5019.out hb)
     have n6_:=zk (below_step za4 hb)
     clear HO_5015000
     clear HO5023
     clear BK5001
     clear BK5010
     clear BK5014
     clear BK5019
     clear HB
     have HO_5015000:=n0_
     have HO5023:=n1_
     have BK5001:=n2_
     have BK5010:=n3_
     have BK5014:=n4_
     have BK5019:=n5_
     have HB:=n6_
     clear n0_ n1_ n2_ n3_ n4_ n5_ n6_
     (try clear hb)
     (try clear hb2)
     (try clear hk)
     (try clear hi)
     refine hK.out _ _ ⟨(blk_cell BK5014.out 0).trans rfl,(blk_cell BK5001.out 0).trans rfl⟩ (fun hHeld=>?_)
     clear hK K
     refine norm_ (a':=?_) ?_ ?_
     rotate_left
     · show Act.put _ (some 43) _=_
       simp only [Act.put,zt,zu,zv,i64_w,i32_w]
       rfl
     refine pure_ (i:=4) (N:=some 44) (v:=?_) (a':=?_) #[true,true,true,true,true] rfl rfl (by kernel_rfl) (fun _ _ _ h=>h) (Or.inl ⟨by rfl,?_⟩) ?_ ?_
     rotate_left
     · intro w'
       go_simp
       first|with_reducible rfl|(rw [if_neg (by omega)];done)
     rotate_left
     · simp only [Act.put,zt,zu,zv,i64_w,i32_w]
       rfl
     refine done_ (by kernel_rfl) ?_
     try go_wp2
     go_ret
     exact ⟨za7,za4⟩
end Go.Proofs.YtffjfdoghofkdaaGreat.A
namespace Go.Proofs.YtffjfdoghofkdaaGreat.Br
open Go YtffjfdoghofkdaaGreatW.PrintWords
def BrN (P:Program) (n:Nat) (t:TypeId) {α:Type} (d:Kd α) (wf:α→Prop):Prop :=
 ∀ (H:Type) (enc:TypeId × Value→H) (w:World) (base:Nat) (spare:Nat→Bool) (held:Bool) (m:Nat) (cs:List Value) (x:DataW H × List MemPlace),
  m≤n→DataW.trod enc P w base spare held m t cs=some x→∃ a,d.K w a cs∧wf a
def Br (P:Program) (t:TypeId) {α:Type} (d:Kd α) (wf:α→Prop):Prop:=∀ n,BrN P n t d wf
def BF (P:Program) (n:Nat) (fs:List Field) (o:Nat) {α:Type} (d:Kd α) (wf:α→Prop):Prop :=
 ∀ (H:Type) (enc:TypeId × Value→H) (w:World) (base:Nat) (spare:Nat→Bool) (held:Bool) (m:Nat) (cs:List Value) (xs:List (DataW H × List MemPlace)),
  m≤n→cs.length=d.sz→xs.length=fs.length →
  (∀ (i:Nat) (f:Field),fs[i]? = some f→DataW.trod enc P w base spare held m f.type ((cs.drop (f.offset - o)).take (P.cellsOf f.type))=xs[i]?)→∃ a,d.K w a cs∧wf a
theorem BrN.mono {P:Program} {n m:Nat} {t:TypeId} {α:Type} {d:Kd α} {wf:α→Prop} (h:BrN P n t d wf) (hm:m≤n):BrN P m t d wf :=
 fun H enc w base spare held k cs x hk=>h H enc w base spare held k cs x (Nat.le_trans hk hm)
theorem BrN.imp {P:Program} {n:Nat} {t:TypeId} {α:Type} {d:Kd α} {wf wf':α→Prop} (h:BrN P n t d wf) (hi:∀ a,wf a→wf' a):BrN P n t d wf' :=
 fun H enc w base spare held k cs x hk hx=>by
  obtain ⟨a,h1,h2⟩:=h H enc w base spare held k cs x hk hx
  exact ⟨a,h1,hi a h2⟩
theorem BrN.zero (P:Program) (t:TypeId) {α:Type} (d:Kd α) (wf:α→Prop):BrN P 0 t d wf:=by
 intro H enc w base spare held m cs x hm hx
 obtain rfl:m=0:=by omega
 simp [DataW.trod] at hx
theorem br_int {P:Program} {t:TypeId} {k:IntKind} (ht:P.underlying t=some (.int k)) (n:Nat):BrN P n t (Kd.int k) (fun a=>(Lit.int k a).wf=true):=by
 intro H enc w base spare held m cs x _ hx
 obtain ⟨a,rfl,_,hw⟩:=DataW.trod_int ht hx
 exact ⟨a,rfl,hw⟩
theorem br_string {P:Program} {t:TypeId} (ht:P.underlying t=some .string) (n:Nat):BrN P n t Kd.string (fun s=>s.size≤9223372036854775807):=by
 intro H enc w base spare held m cs x _ hx
 obtain ⟨a,rfl,_,hw⟩:=DataW.trod_string ht hx
 exact ⟨a,rfl,by simpa [maxLen] using hw⟩
theorem list_of_all {α:Type} {Q:Nat→α→Prop} (n:Nat) (h:∀ i,i < n→∃ a,Q i a):∃ l:List α,l.length=n∧∀ i a,l[i]? = some a→Q i a:=by
 induction n with
 | zero=>exact ⟨[],rfl,fun i a h=>by simp at h⟩
 | succ n ih =>
  obtain ⟨l,hl,hq⟩:=ih (fun i hi=>h i (by omega))
  obtain ⟨a,ha⟩:=h n (by omega)
  refine ⟨l ++ [a],by simp [hl],fun i b hb=>?_⟩
  rcases Nat.lt_or_ge i l.length with hi|hi
  ·rw [List.getElem?_append_left hi] at hb
   exact hq i b hb
  ·rw [List.getElem?_append_right hi] at hb
   obtain ⟨h0,rfl⟩:i - l.length=0∧a=b:=by
    rcases Nat.eq_zero_or_pos (i - l.length) with h0|h0
    ·rw [h0] at hb;exact ⟨h0,by simpa using hb⟩
    ·rw [List.getElem?_eq_none (by simp;omega)] at hb;simp at hb
   obtain rfl:i=n:=by omega
   exact ha
theorem cells_at {w:World} {base:Nat} {a:Addr} {n:Nat} {cs:List Value} (h:w.cells? base a n=some cs):cs.length=n∧∀ i u,cs[i]? = some u→w.cell? (a.add i)=some u:=by
 unfold World.cells? at h
 split at h
 ·have hl:=mapM_some_length h
  refine ⟨by simpa using hl,fun i u hu=>?_⟩
  have hi:i < n:=by
   have:=(List.getElem?_eq_some_iff.1 hu).1
   simp at hl
   omega
  have:=mapM_some_get h i i (by simp [hi])
  rw [this,hu]
 ·simp at h
theorem br_slice {P:Program} {t e:TypeId} {α:Type} {d:Kd α} {wf:α→Prop} {n:Nat} (ht:P.underlying t=some (.slice e)) (hs:P.cellsOf e=d.sz) (h:BrN P n e d wf) :
  BrN P (n+1) t (Kd.slice e d) (fun l=>l.length≤9223372036854775807∧∀ a ∈ l,wf a):=by
 intro H enc w base spare held m cs x hm hx
 rcases DataW.trod_slice ht hx with ⟨rfl,_⟩|⟨a,len,cap,elems,rest,k,rfl,rfl,_,_,hl,hc,he,hg,_,_⟩
 ·exact ⟨[],⟨none,0,rfl,Nat.le_refl _,Kd.C_nil d w⟩,by simp,by simp⟩
 ·have hq:∀ i,i < len→∃ b,(∃ c,c.length=d.sz∧d.K w b c∧∀ j u,c[j]? = some u→w.cell? (a.add (i * d.sz+j))=some u)∧wf b:=by
   intro i hi
   have g:=hg i hi
   rw [List.getElem?_eq_getElem (by omega)] at g
   obtain ⟨c,hc1,hc2⟩:=Option.bind_eq_some_iff.1 g
   obtain ⟨b,hb,hw⟩:=h H enc w base spare held k c _ (by omega) hc2
   obtain ⟨h1,h2⟩:=cells_at hc1
   refine ⟨b,⟨c,by rw [h1,hs],hb,fun j u hu=>?_⟩,hw⟩
   have:=h2 j u hu
   rw [Addr.add_add,hs] at this
   exact this
  obtain ⟨l,hl1,hl2⟩:=list_of_all len hq
  have hlen:len≤9223372036854775807:=by simp only [maxLen] at hc;omega
  refine ⟨l,⟨some a,cap,by rw [hl1],by omega,rfl,by omega,fun _=>⟨a,rfl,fun j p hp=>(hl2 j p hp).1⟩⟩,by omega,fun b hb=>?_⟩
  obtain ⟨i,hi,rfl⟩:=List.mem_iff_getElem.1 hb
  exact (hl2 i _ (List.getElem?_eq_getElem hi)).2
theorem br_slice' {P:Program} {t e:TypeId} {α:Type} {d:Kd α} {wf:α→Prop} (ht:P.underlying t=some (.slice e)) (hs:P.cellsOf e=d.sz) (h:∀ n,BrN P n e d wf) (n:Nat) :
 BrN P n t (Kd.slice e d) (fun l=>l.length≤9223372036854775807∧∀ a ∈ l,wf a):=(br_slice ht hs (h n)).mono (Nat.le_succ n)
theorem bf_one {P:Program} {n o:Nat} {f:Field} {α:Type} {d:Kd α} {wf:α→Prop} (ho:f.offset=o) (hs:P.cellsOf f.type=d.sz) (h:BrN P n f.type d wf):BF P n [f] o d wf:=by
 intro H enc w base spare held m cs xs hm hl hx hf
 have g:=hf 0 f rfl
 rw [ho,Nat.sub_self,List.drop_zero,hs,← hl,List.take_length,List.getElem?_eq_getElem (by simp at hx;omega)] at g
 exact h H enc w base spare held m cs _ hm g
theorem bf_cons {P:Program} {n o:Nat} {f:Field} {fs:List Field} {α β:Type} {d:Kd α} {d':Kd β} {wf:α→Prop} {wf':β→Prop} (ho:f.offset=o) (hs:P.cellsOf f.type=d.sz) (h:BrN P n f.type d wf)
  (hfs:BF P n fs (o+d.sz) d' wf') (hle:∀ g ∈ fs,o+d.sz≤g.offset):BF P n (f :: fs) o (Kd.pair d d') (fun x=>wf x.1∧wf' x.2):=by
 intro H enc w base spare held m cs xs hm hl hx hf
 have hl':cs.length=d.sz+d'.sz:=hl
 have g:=hf 0 f rfl
 rw [ho,Nat.sub_self,List.drop_zero,hs,List.getElem?_eq_getElem (by simp at hx;omega)] at g
 obtain ⟨a,ha,hwa⟩:=h H enc w base spare held m _ _ hm g
 cases xs with
 | nil=>simp at hx
 | cons y ys =>
  obtain ⟨b,hb,hwb⟩:=hfs H enc w base spare held m (cs.drop d.sz) ys hm (by rw [List.length_drop];omega) (by simpa using hx) (fun i q hq=>by
   have g2:=hf (i+1) q (by simpa using hq)
   have hm:q ∈ fs:=List.mem_of_getElem? hq
   have:=hle q hm
   rw [List.drop_drop,show d.sz+(q.offset - (o+d.sz))=q.offset - o by omega]
   simpa using g2)
  exact ⟨(a,b),⟨cs.take d.sz,cs.drop d.sz,(List.take_append_drop _ _).symm,ha,hb⟩,hwa,hwb⟩
theorem br_struct {P:Program} {t:TypeId} {fs:Array Field} {α:Type} {d:Kd α} {wf:α→Prop} {n:Nat} (ht:P.underlying t=some (.struct fs)) (hs:P.cellsOf t=d.sz) (h:BF P n fs.toList 0 d wf):BrN P (n+1) t d wf:=by
 intro H enc w base spare held m cs x hm hx
 obtain ⟨xs,k,rfl,_,hl,hxs,hf⟩:=DataW.trod_struct ht hx
 exact h H enc w base spare held k cs xs (by omega) (by rw [hl,hs]) (by simpa using hxs) (fun i f hi=>by simpa using hf i f (by simpa using hi))
theorem br_struct' {P:Program} {t:TypeId} {fs:Array Field} {α:Type} {d:Kd α} {wf:α→Prop} (ht:P.underlying t=some (.struct fs)) (hs:P.cellsOf t=d.sz) (h:∀ n,BF P n fs.toList 0 d wf) (n:Nat):BrN P n t d wf :=
 (br_struct ht hs (h n)).mono (Nat.le_succ n)
theorem br_iso {P:Program} {n:Nat} {t:TypeId} {α β:Type} {d:Kd α} {wf:α→Prop} {f:β→α} (g:α→β) (hg:∀ y,f (g y)=y) (h:BrN P n t d wf):BrN P n t (Kd.iso d f) (fun x=>wf (f x)):=by
 intro H enc w base spare held m cs x hm hx
 obtain ⟨a,h1,h2⟩:=h H enc w base spare held m cs x hm hx
 exact ⟨g a,by show d.K w (f (g a)) cs;rw [hg];exact h1,by show wf (f (g a));rw [hg];exact h2⟩
theorem br_fix {P:Program} {t:TypeId} {α:Type} {F:Kd α→Kd α} {sz:Nat} {E:List Nat} {hs:∀ n,(Kd.upto F sz E n).sz=sz} {hE:∀ n q,q ∈ (Kd.upto F sz E n).E→q ∈ E} {wf:Nat→α→Prop}
  (h:∀ n,BrN P n t (Kd.upto F sz E n) (wf n)) (n:Nat):BrN P n t (Kd.fix F sz E hs hE) (fun a=>∃ k,wf k a):=by
 intro H enc w base spare held m cs x hm hx
 obtain ⟨a,h1,h2⟩:=h n H enc w base spare held m cs x hm hx
 exact ⟨a,⟨n,h1⟩,n,h2⟩
theorem arr_of {xs:Array Value} {l:List Value} (h:xs.toList=l):xs=l.toArray:=by rw [← h]
end Go.Proofs.YtffjfdoghofkdaaGreat.Br
namespace Go.Proofs.YtffjfdoghofkdaaGreat.BtFnExactLeastModel
open Go Go.RowKit YtffjfdoghofkdaaGreat.A YtffjfdoghofkdaaGreat.Br YtffjfdoghofkdaaGreatW.PrintWords
def wf101N:Nat→S101→Prop
 | 0,_=>False
 | n+1,x=>((Lit.int .i64 x.f0).wf=true)∧((x.f1:ByteArray).size≤9223372036854775807)∧((x.f2:(List S101)).length≤9223372036854775807∧∀ a ∈ x.f2,wf101N n a)
def wf101 (x:S101):Prop:=∃ n,wf101N n x
theorem br101N:∀ n,BrN Tryz.prog n 101 (Kd.upto F101 3 [101] n) (wf101N n)
 | 0=>BrN.zero _ _ _ _
 | n+1=>by
  have ih:=br101N n
  exact (br_iso (f:=(fun x:S101=>(x.f0,x.f1,x.f2))) (fun y=>⟨y.1,y.2.1,y.2.2⟩) (fun _=>rfl) (br_struct Tryz.underlying101 (show Tryz.prog.cellsOf 101=3 by kernel_rfl) (bf_cons rfl (show Tryz.prog.cellsOf 3=1 by kernel_rfl) (br_int Tryz.underlying3 n) (bf_cons rfl (show Tryz.prog.cellsOf 9=1 by kernel_rfl) (br_string Tryz.underlying9 n) (bf_one rfl (show Tryz.prog.cellsOf 99=1 by kernel_rfl) ((br_slice Tryz.underlying99 (show Tryz.prog.cellsOf 101=(Kd.upto F101 3 [101] n).sz by rw [sz101];kernel_rfl) ih).mono (Nat.le_succ n))) (of_decide_eq_true (by kernel_rfl))) (of_decide_eq_true (by kernel_rfl))))).imp (fun _ h=>h)
theorem br101 (n:Nat):BrN Tryz.prog n 101 k101 wf101:=br_fix br101N n
def wf103 (x:S103):Prop:=((Lit.int .i64 x.f0).wf=true)∧((x.f1:ByteArray).size≤9223372036854775807)∧((x.f2:ByteArray).size≤9223372036854775807)∧(wf101 x.f3)∧((x.f4:(List Int)).length≤9223372036854775807∧∀ a ∈ x.f4,(Lit.int .i64 a).wf=true)∧((Lit.int .i64 x.f5).wf=true)
theorem br103 (n:Nat):BrN Tryz.prog n 103 k103 wf103 :=
 (br_iso (f:=(fun x:S103=>(x.f0,x.f1,x.f2,x.f3,x.f4,x.f5))) (fun y=>⟨y.1,y.2.1,y.2.2.1,y.2.2.2.1,y.2.2.2.2.1,y.2.2.2.2.2⟩) (fun _=>rfl) (br_struct' Tryz.underlying103 (show Tryz.prog.cellsOf 103=8 by kernel_rfl) (fun n=>(bf_cons rfl (show Tryz.prog.cellsOf 3=1 by kernel_rfl) (br_int Tryz.underlying3 n) (bf_cons rfl (show Tryz.prog.cellsOf 9=1 by kernel_rfl) (br_string Tryz.underlying9 n) (bf_cons rfl (show Tryz.prog.cellsOf 9=1 by kernel_rfl) (br_string Tryz.underlying9 n) (bf_cons rfl (show Tryz.prog.cellsOf 101=3 by kernel_rfl) (br101 n) (bf_cons rfl (show Tryz.prog.cellsOf 59=1 by kernel_rfl) (br_slice' Tryz.underlying59 (show Tryz.prog.cellsOf 3=1 by kernel_rfl) (fun n=>(br_int Tryz.underlying3 n)) n) (bf_one rfl (show Tryz.prog.cellsOf 3=1 by kernel_rfl) (br_int Tryz.underlying3 n)) (of_decide_eq_true (by kernel_rfl))) (of_decide_eq_true (by kernel_rfl))) (of_decide_eq_true (by kernel_rfl))) (of_decide_eq_true (by kernel_rfl))) (of_decide_eq_true (by kernel_rfl)))) n)).imp (fun _ h=>h)
end Go.Proofs.YtffjfdoghofkdaaGreat.BtFnExactLeastModel
namespace Go.Proofs.YtffjfdoghofkdaaGreat.Pure
open Go Go.RowKit YtffjfdoghofkdaaGreat.Br YtffjfdoghofkdaaGreatW.PrintWords YtffjfdoghofkdaaGreatW.PrintLast YtffjfdoghofkdaaGreat.A YtffjfdoghofkdaaGreat.Ext YtffjfdoghofkdaaGreat.BtFnExactLeastModel
def FnExactLeastModel.Pure:Prop:=∀ (l0_0:(List S103)) (a1:Int),((l0_0:(List S103)).length≤9223372036854775807∧∀ a ∈ l0_0,wf103 a)→((Lit.int .i64 a1).wf=true)→∃ k,laws_FnExactLeastModel.f k l0_0 a1=some true
end Go.Proofs.YtffjfdoghofkdaaGreat.Pure
namespace Go.Proofs.YtffjfdoghofkdaaGreat.Pl
open Go.RowKit YtffjfdoghofkdaaGreatW.PrintWords
def Evt {α:Type} (g:Nat→Option α) (r:α):Prop:=∃ K,∀ k,K≤k→g k=some r
section
variable {α β : Type}
theorem Evt.const {g:Option α} {r:α} (h:g=some r):Evt (fun _=>g) r:=⟨0,fun _ _=>h⟩
theorem Evt.ret (r:α):Evt (fun _=>some r) r:=Evt.const rfl
theorem Evt.bind {g:Nat→Option α} {f:Nat→α→Option β} {a:α} {r:β} (hg:Evt g a) (hf:Evt (fun k=>f k a) r):Evt (fun k=>(g k).bind (f k)) r:=by
 obtain ⟨K,hK⟩:=hg
 obtain ⟨L,hL⟩:=hf
 exact ⟨max K L,fun k hk=>by show (g k).bind (f k)=some r;rw [hK k (by omega)];exact hL k (by omega)⟩
theorem Evt.bindc {g:Option α} {f:Nat→α→Option β} {a:α} {r:β} (hg:g=some a) (hf:Evt (fun k=>f k a) r):Evt (fun k=>g.bind (f k)) r:=Evt.bind (Evt.const hg) hf
theorem Evt.step {g:Nat→Option α} {r:α} (h:Evt (fun k=>g (k+1)) r):Evt g r:=by
 obtain ⟨K,hK⟩:=h
 exact ⟨K+1,fun k hk=>by
  obtain ⟨m,rfl⟩:∃ m,k=m+1:=⟨k - 1,by omega⟩
  exact hK m (by omega)⟩
theorem Evt.pos {c:Prop} [Decidable c] {t e:Nat→Option α} {r:α} (h:c) (ht:Evt t r):Evt (fun k=>if c then t k else e k) r:=by
 obtain ⟨K,hK⟩:=ht
 exact ⟨K,fun k hk=>(if_pos h).trans (hK k hk)⟩
theorem Evt.neg {c:Prop} [Decidable c] {t e:Nat→Option α} {r:α} (h:¬ c) (ht:Evt e r):Evt (fun k=>if c then t k else e k) r:=by
 obtain ⟨K,hK⟩:=ht
 exact ⟨K,fun k hk=>(if_neg h).trans (hK k hk)⟩
theorem Evt.ite {c:Prop} [Decidable c] {t e:Nat→Option α} {x y:α} (ht:c→Evt t x) (he:¬ c→Evt e y):Evt (fun k=>if c then t k else e k) (if c then x else y):=by
 by_cases h:c
 ·rw [if_pos h];exact Evt.pos h (ht h)
 ·rw [if_neg h];exact Evt.neg h (he h)
theorem Evt.get {g:Nat→Option α} {r:α} (h:Evt g r):∃ k,g k=some r:=by
 obtain ⟨K,hK⟩:=h
 exact ⟨K,hK K (Nat.le_refl _)⟩
theorem Evt.of_eq {g g':Nat→Option α} {r:α} (h:∀ k,g k=g' k) (h':Evt g' r):Evt g r:=by
 obtain ⟨K,hK⟩:=h'
 exact ⟨K,fun k hk=>by rw [h];exact hK k hk⟩
theorem Evt.cast {g:Nat→Option α} {r r':α} (h:Evt g r) (e:r=r'):Evt g r':=e ▸ h
theorem Evt.up (l:Nat→Int→Option α) (n:Nat) (R:Nat→α) (hend:Evt (fun k=>l k (n:Int)) (R n))
  (hstep:∀ i:Nat,i < n→Evt (fun k=>l k ((i+1:Nat):Int)) (R (i+1))→Evt (fun k=>l k (i:Int)) (R i)):Evt (fun k=>l k 0) (R 0):=by
 have h:∀ d i:Nat,i+d=n→Evt (fun k=>l k (i:Int)) (R i):=by
  intro d
  induction d with
  | zero =>
   intro i hi
   obtain rfl:i=n:=by omega
   exact hend
  | succ d ih =>
   intro i hi
   exact hstep i (by omega) (ih (i+1) (by omega))
 exact h n 0 (by omega)
end
theorem w64 {x:Int} (h : -9223372036854775808≤x) (h':x≤9223372036854775807):wrap64 x=x:=by unfold wrap64;omega
theorem w64s {i:Nat} (h:i < 9223372036854775807):wrap64 ((i:Int)+1)=((i+1:Nat):Int):=by
 rw [w64 (by omega) (by omega)];omega
theorem bt0 (s:ByteArray) (i:Int):0≤bt s i:=(bt_range s i).1
theorem bt255 (s:ByteArray) (i:Int):bt s i≤255:=(bt_range s i).2
theorem bt_get (s:ByteArray) (i:Nat) (h:i < (bytesOf s).length):bt s (i:Int)=(bytesOf s)[i]:=by
 rw [← rd_bytesOf]
 simp [rd,h]
theorem bytesOf_inj {s t:ByteArray} (h:bytesOf s=bytesOf t):s=t:=by
 have h1:s.data.toList=t.data.toList:=by
  refine List.map_inj_right (f:=fun b:UInt8=>(b.toNat:Int)) (fun x y hxy=>?_) |>.1 h
  exact UInt8.toNat_inj.1 (Int.ofNat_inj.1 hxy)
 cases s;cases t
 simp only [ByteArray.mk.injEq]
 exact Array.toList_inj.1 h1
theorem toList_eq_iff (s t:ByteArray):s.toList=t.toList ↔ s=t:=by
 rw [Lib.toList_data,Lib.toList_data]
 constructor
 ·intro h
  cases s;cases t
  simp only [ByteArray.mk.injEq]
  exact Array.toList_inj.1 h
 ·rintro rfl;rfl
theorem toList_nil_iff (s:ByteArray):s.toList=([]:List UInt8) ↔ s.size=0:=by
 rw [Lib.toList_data,← data_length,List.length_eq_zero_iff]
theorem mem_bytes (s:ByteArray) {c:Int} (h:c ∈ bytesOf s):0≤c∧c≤255:=by
 unfold bytesOf at h
 obtain ⟨b,_,rfl⟩:=List.mem_map.1 h
 have:=b.toNat_lt
 omega
theorem bytesOf_append (s t:ByteArray):bytesOf (s ++ t)=bytesOf s ++ bytesOf t:=by
 simp [bytesOf,ByteArray.data_append]
theorem bytesOf_extract (s:ByteArray) (a b:Nat):bytesOf (s.extract a b)=((bytesOf s).drop a).take (b - a):=by
 have h:=Lib.extract_toList s a b
 rw [Lib.toList_data] at h
 unfold bytesOf
 rw [h,List.map_take,List.map_drop]
theorem bytesOf_tail (s:ByteArray) (a:Nat):bytesOf (s.extract a s.size)=(bytesOf s).drop a:=by
 rw [bytesOf_extract,List.take_of_length_le]
 rw [List.length_drop,bytesOf_length]
 exact Nat.le_refl _
def ltI (c:Int):Int:=if 97=c then 0 else if 98=c then 1 else if 99=c then 2 else -1
def varI (c:Int):Int:=if 88=c then 0 else if 89=c then 1 else if 90=c then 2 else -1
def isVr (c:Int):Bool:=decide (88≤c∧c≤90)
theorem ix_abc:∀ n:Nat,n < 256→Lib.indexByte [97,98,99] n.toUInt8=ltI (n:Int):=by decide +kernel
theorem ix_XYZ:∀ n:Nat,n < 256→Lib.indexByte [88,89,90] n.toUInt8=varI (n:Int):=by decide +kernel
theorem varI_isVar (c:Int):decide (varI c ≥ 0)=isVr c:=by
 unfold varI isVr
 split
 ·subst_vars;rfl
 ·split
  ·subst_vars;rfl
  ·split
   ·subst_vars;rfl
   ·simp;omega
theorem ltI_nonneg (c:Int):0≤ltI c ↔ (97≤c∧c≤99):=by
 unfold ltI
 split
 ·subst_vars;simp
 ·split
  ·subst_vars;simp
  ·split
   ·subst_vars;simp
   ·simp;omega
theorem ltI_le (c:Int):ltI c≤2:=by
 unfold ltI
 repeat' split
 all_goals omega
theorem ltI_ge (c:Int) : -1≤ltI c:=by
 unfold ltI
 repeat' split
 all_goals omega
theorem bt_abc0:bt (⟨#[97,98,99]⟩:ByteArray) 0=97:=by decide
theorem bt_abc1:bt (⟨#[97,98,99]⟩:ByteArray) 1=98:=by decide
theorem bt_abc2:bt (⟨#[97,98,99]⟩:ByteArray) 2=99:=by decide
theorem bt_XYZ0:bt (⟨#[88,89,90]⟩:ByteArray) 0=88:=by decide
theorem bt_XYZ1:bt (⟨#[88,89,90]⟩:ByteArray) 1=89:=by decide
theorem bt_XYZ2:bt (⟨#[88,89,90]⟩:ByteArray) 2=90:=by decide
theorem w64_a:wrap64 1=1:=by unfold wrap64;omega
theorem w64_b:wrap64 2=2:=by unfold wrap64;omega
theorem w64_c:wrap64 3=3:=by unfold wrap64;omega
theorem w64_1:wrap64 (0+1)=1:=by unfold wrap64;omega
theorem w64_2:wrap64 (1+1)=2:=by unfold wrap64;omega
theorem w64_3:wrap64 (2+1)=3:=by unfold wrap64;omega
theorem indexByte_nonneg (l:List UInt8) (c:UInt8):0≤Lib.indexByte l c ↔ c ∈ l:=by
 induction l with
 | nil=>simp [Lib.indexByte]
 | cons b l ih =>
  unfold Lib.indexByte
  by_cases h:b=c
  ·subst h;simp
  ·have hb:(b == c)=false:=by simpa using h
   rw [hb]
   have hge:=Lib.indexByte_ge l c
   by_cases h2:Lib.indexByte l c = -1
   ·simp only [h2]
    simp
    refine ⟨fun e=>h e.symm,fun hm=>?_⟩
    have:=ih.2 hm
    omega
   ·have h3:(Lib.indexByte l c == -1)=false:=by simpa using h2
    rw [h3]
    simp
    constructor
    ·intro _;exact .inr (ih.1 (by omega))
    ·rintro (e|hm)
     ·exact absurd e.symm h
     ·have:=ih.2 hm;omega
theorem mem_data (s:ByteArray) (n:Nat) (hn:n < 256):n.toUInt8 ∈ s.data.toList ↔ (n:Int) ∈ bytesOf s:=by
 unfold bytesOf
 rw [List.mem_map]
 constructor
 ·intro h
  exact ⟨_,h,by simp [Nat.mod_eq_of_lt hn]⟩
 ·rintro ⟨b,hb,e⟩
  have e2:b.toNat=n:=by omega
  subst e2
  simpa using hb
theorem w64_sub {a:Int} {n:Nat} (ha : -1≤a) (ha':a≤1048576) (hn:n≤9223372036854775807):wrap64 (a - (n:Int))=a - (n:Int):=w64 (by omega) (by omega)
end Go.Proofs.YtffjfdoghofkdaaGreat.Pl
namespace Go.Proofs.YtffjfdoghofkdaaGreat.F
open Go.RowKit YtffjfdoghofkdaaGreatW.PrintWords YtffjfdoghofkdaaGreat.Pl YtffjfdoghofkdaaGreat.A YtffjfdoghofkdaaGreat.Ext
def Evt2 {α:Type} (g:Nat→Nat→Option α) (r:α):Prop:=∃ K,∀ i j,K≤i→K≤j→g i j=some r
theorem Evt2.ret {α:Type} (r:α):Evt2 (fun _ _=>some r) r:=⟨0,fun _ _ _ _=>rfl⟩
theorem Evt2.bind {α β:Type} {g:Nat→Option α} {f:Nat→Nat→α→Option β} {a:α} {r:β} (hg:Evt g a) (hf:Evt2 (fun i j=>f i j a) r):Evt2 (fun i j=>(g i).bind (f i j)) r:=by
 obtain ⟨K,hK⟩:=hg
 obtain ⟨L,hL⟩:=hf
 exact ⟨max K L,fun i j hi hj=>by show (g i).bind (f i j)=some r;rw [hK i (by omega)];exact hL i j (by omega) (by omega)⟩
theorem Evt2.bind2 {α β:Type} {g:Nat→Nat→Option α} {f:Nat→Nat→α→Option β} {a:α} {r:β} (hg:Evt2 g a) (hf:Evt2 (fun i j=>f i j a) r):Evt2 (fun i j=>(g i j).bind (f i j)) r:=by
 obtain ⟨K,hK⟩:=hg
 obtain ⟨L,hL⟩:=hf
 exact ⟨max K L,fun i j hi hj=>by show (g i j).bind (f i j)=some r;rw [hK i j (by omega) (by omega)];exact hL i j (by omega) (by omega)⟩
theorem Evt2.pos {α:Type} {c:Prop} [Decidable c] {t e:Nat→Nat→Option α} {r:α} (h:c) (ht:Evt2 t r):Evt2 (fun i j=>if c then t i j else e i j) r:=by
 obtain ⟨K,hK⟩:=ht
 exact ⟨K,fun i j hi hj=>by show (if c then t i j else e i j)=some r;rw [if_pos h];exact hK i j hi hj⟩
theorem Evt2.neg {α:Type} {c:Prop} [Decidable c] {t e:Nat→Nat→Option α} {r:α} (h:¬ c) (he:Evt2 e r):Evt2 (fun i j=>if c then t i j else e i j) r:=by
 obtain ⟨K,hK⟩:=he
 exact ⟨K,fun i j hi hj=>by show (if c then t i j else e i j)=some r;rw [if_neg h];exact hK i j hi hj⟩
theorem Evt2.step {α:Type} {g:Nat→Nat→Option α} {r:α} (h:Evt2 (fun i j=>g i (j+1)) r):Evt2 g r:=by
 obtain ⟨K,hK⟩:=h
 refine ⟨K+1,fun i j hi hj=>?_⟩
 obtain ⟨j,rfl⟩:∃ m,j=m+1:=⟨j - 1,by omega⟩
 exact hK i j (by omega) (by omega)
theorem Evt2.diag {α:Type} {g:Nat→Nat→Option α} {r:α} (h:Evt2 g r):Evt (fun k=>g k k) r:=by
 obtain ⟨K,hK⟩:=h
 exact ⟨K,fun k hk=>hK k k hk hk⟩
theorem Evt2.cast {α:Type} {g:Nat→Nat→Option α} {r r':α} (h:Evt2 g r) (e:r=r'):Evt2 g r':=e ▸ h
def RxOk:Nat→S101→Prop
 | 0,_=>False
 | n+1,x=>x.f1.size≤9223372036854775807∧x.f2.length≤9223372036854775807∧∀ a ∈ x.f2,RxOk n a
inductive Sm : S65 → Prop
 | mk (a:Int) (b:ByteArray) (l:List S65) (h:l.length≤1048576) (hs:∀ x ∈ l,Sm x):Sm ⟨a,b,l⟩
theorem Sm.len {x:S65} (h:Sm x):x.f2.length≤1048576:=by cases h;assumption
theorem rxL_at (l:List S101) (i:Nat) (h:i < l.length):rd_T101 l (i:Int)=l[i]:=by simp [rd_T101,h]
theorem rxI_at (l:List S65) (i:Nat) (h:i < l.length):rd_T65 l (i:Int)=l[i]:=by simp [rd_T65,h]
theorem rx_eta (y:S65):(⟨y.f0,y.f1,y.f2⟩:S65)=y:=by cases y;rfl
def Cp (x:S101) (y:S65):Prop:=Sm y∧Evt (fun k=>laws_toRegex.f k x.f0 x.f1 x.f2) (y.f0,y.f1,y.f2)
theorem copies (l:List S101) (h:∀ x ∈ l,∃ y,Cp x y):∃ ys:List S65,ys.length=l.length∧∀ (i:Nat) (h:i < l.length) (h':i < ys.length),Cp l[i] ys[i]:=by
 induction l with
 | nil=>exact ⟨[],rfl,fun i h=>absurd h (by simp)⟩
 | cons x l ih =>
  obtain ⟨y,hy⟩:=h x (by simp)
  obtain ⟨ys,h1,h2⟩:=ih (fun z hz=>h z (by simp [hz]))
  refine ⟨y :: ys,by simp [h1],fun i hi hi' => ?_⟩
  cases i with
  | zero=>exact hy
  | succ i=>exact h2 i (by simpa using hi) (by simpa using hi')
theorem toRegex_ev (a:Int) (b:ByteArray) (l:List S101) (hl:l.length≤1048576) (h:∀ x ∈ l,∃ y,Cp x y):∃ y,Cp ⟨a,b,l⟩ y:=by
 obtain ⟨ys,e,hc⟩:=copies l h
 refine ⟨⟨a,b,ys⟩,Sm.mk a b ys (by omega) (fun y hy=>?_),?_⟩
 ·obtain ⟨i,hi,rfl⟩:=List.mem_iff_getElem.1 hy
  exact (hc i (by omega) hi).1
 ·refine Evt.step ?_
  simp only [laws_toRegex.f]
  refine Evt2.diag (g:=fun i j=>laws_toRegexG.f (fun _=>laws_toRegex.f i) j a b l) ?_
  simp only [laws_toRegexG.f,laws_toRegexSG.f]
  refine Evt2.bind2 (a:=ys) (Evt2.pos (by omega) (Evt2.pos (by omega) ?_)) (Evt2.ret _)
  rw [Int.toNat_natCast]
  have hh:∀ d i:Nat,i+d=l.length→Evt2 (fun p q=>laws_toRegexSG.l0 (fun _=>laws_toRegex.f p) q l (ys.take i ++ List.replicate (l.length - i) z65) (i:Int)) ys:=by
   intro d
   induction d with
   | zero =>
    intro i hi
    refine Evt2.step ?_
    simp only [laws_toRegexSG.l0]
    refine Evt2.neg (by omega) ((Evt2.ret _).cast ?_)
    rw [show l.length - i=0 by omega,List.take_of_length_le (by omega)]
    simp
   | succ d ih =>
    intro i hi
    have hi':i < l.length:=by omega
    refine Evt2.step ?_
    simp only [laws_toRegexSG.l0]
    rw [rxL_at l i hi']
    refine Evt2.pos (by omega) (Evt2.pos (by omega) (Evt2.bind (hc i hi' (by omega)).2 (Evt2.pos (by simp;omega) ?_)))
    rw [Int.toNat_natCast,w64s (by omega)]
    have hx:(ys.take i).length=i:=by rw [List.length_take];omega
    have e2:(ys.take i ++ List.replicate (l.length - i) z65).set i (ys[i]'(by omega))=ys.take (i+1) ++ List.replicate (l.length - (i+1)) z65:=by
     rw [List.set_append_right _ _ (by omega),hx,Nat.sub_self,show l.length - i=(l.length - (i+1))+1 by omega,List.replicate_succ,zu,List.take_succ_eq_append_getElem (by omega),List.append_assoc]
     rfl
    simp only [rx_eta,e2]
    exact ih (i+1) (by omega)
  simpa using hh l.length 0 (by omega)
theorem szRegex_ev:∀ n (x:S101),RxOk n x→∀ v:Int,0≤v→v≤1048576→∃ t,Evt (fun k=>laws_szRegex.f k x.f0 x.f1 x.f2 v) t∧(t = -1∨(0≤t∧t≤v∧∃ y,Cp x y)):=by
 intro n
 induction n with
 | zero=>intro x h;exact h.elim
 | succ n ih =>
  rintro ⟨a,b,l⟩ ⟨h1,h2,h3⟩ v hv hv'
  simp only at h1 h2 h3
  have hs:∃ t,Evt2 (fun i j=>laws_szRegexG.f (fun _=>laws_szRegex.f i) j a b l v) t∧(t = -1∨(0≤t∧t≤v∧∃ y,Cp ⟨a,b,l⟩ y)):=by
   simp only [laws_szRegexG.f,laws_szRegexSG.f]
   rw [w64_sub (by omega) (by omega) h1]
   by_cases c1:v - b.size < 0
   ·exact ⟨-1,Evt2.pos c1 (Evt2.ret _),.inl rfl⟩
   rw [w64_sub (by omega) (by omega) h2]
   by_cases c2:v - b.size - l.length < 0
   ·exact ⟨-1,Evt2.neg c1 (Evt2.bind2 (Evt2.pos c2 (Evt2.ret _)) (Evt2.pos (by decide) (Evt2.ret _))),.inl rfl⟩
   have hh:∀ d i:Nat,i+d=l.length→∀ u:Int,0≤u→u≤1048576→∃ t,Evt2 (fun p q=>laws_szRegexSG.l0 (fun _=>laws_szRegex.f p) q l u (i:Int)) t∧(t = -1∨(0≤t∧t≤u∧∀ x ∈ l.drop i,∃ y,Cp x y)):=by
    intro d
    induction d with
    | zero =>
     intro i hi u hu hu'
     refine ⟨u,Evt2.step ?_,.inr ⟨hu,Int.le_refl _,?_⟩⟩
     ·simp only [laws_szRegexSG.l0]
      exact Evt2.neg (by omega) (Evt2.ret _)
     ·rw [List.drop_of_length_le (by omega)]
      intro x hx
      cases hx
    | succ d ihd =>
     intro i hi u hu hu'
     have hi':i < l.length:=by omega
     obtain ⟨t,ht,hc⟩:=ih l[i] (h3 _ (List.getElem_mem hi')) u hu hu'
     by_cases c3:t < 0
     ·refine ⟨-1,Evt2.step ?_,.inl rfl⟩
      simp only [laws_szRegexSG.l0]
      rw [rxL_at l i hi']
      exact Evt2.pos (by omega) (Evt2.pos (by omega) (Evt2.bind ht (Evt2.pos c3 (Evt2.ret _))))
     ·have hc':=hc.resolve_left (by omega)
      obtain ⟨t',ht',hc2⟩:=ihd (i+1) (by omega) t (by omega) (by omega)
      refine ⟨t',Evt2.step ?_,?_⟩
      ·simp only [laws_szRegexSG.l0]
       rw [rxL_at l i hi',w64s (by omega)]
       exact Evt2.pos (by omega) (Evt2.pos (by omega) (Evt2.bind ht (Evt2.neg c3 ht')))
      ·rcases hc2 with h4|⟨h4,h5,h6⟩
       ·exact .inl h4
       ·refine .inr ⟨h4,by omega,?_⟩
        rw [List.drop_eq_getElem_cons hi']
        intro x hx
        rcases List.mem_cons.1 hx with rfl|hx
        ·exact hc'.2.2
        ·exact h6 x hx
   obtain ⟨t,ht,hc⟩:=hh l.length 0 (by omega) (v - b.size - l.length) (by omega) (by omega)
   by_cases c4:t < 0
   ·exact ⟨-1,Evt2.neg c1 (Evt2.bind2 (Evt2.neg c2 ht) (Evt2.pos c4 (Evt2.ret _))),.inl rfl⟩
   ·have hc':=hc.resolve_left (by omega)
    refine ⟨t,Evt2.neg c1 (Evt2.bind2 (Evt2.neg c2 ht) (Evt2.neg c4 (Evt2.ret _))),.inr ⟨hc'.1,by omega,toRegex_ev a b l (by omega) (by simpa using hc'.2.2)⟩⟩
  obtain ⟨t,ht,hc⟩:=hs
  refine ⟨t,Evt.step ?_,hc⟩
  simp only [laws_szRegex.f]
  exact Evt2.diag ht
theorem spec_LetterIndex_ev (c:Int):Evt (fun k=>spec_LetterIndex.f k c) (ltI c):=by
 refine ⟨4,fun k hk=>?_⟩
 obtain ⟨m,rfl⟩:∃ m,k=m+4:=⟨k - 4,by omega⟩
 unfold ltI
 by_cases h0:(97:Int)=c
 ·simp [spec_LetterIndex.f,spec_LetterIndex.l0,w64_a,w64_b,w64_c,bt_abc0,bt_abc1,bt_abc2,h0]
 ·by_cases h1:(98:Int)=c
  ·simp [spec_LetterIndex.f,spec_LetterIndex.l0,w64_a,w64_b,w64_c,bt_abc0,bt_abc1,bt_abc2,h0,h1]
  ·by_cases h2:(99:Int)=c
   ·simp [spec_LetterIndex.f,spec_LetterIndex.l0,w64_a,w64_b,w64_c,bt_abc0,bt_abc1,bt_abc2,h0,h1,h2]
   ·simp [spec_LetterIndex.f,spec_LetterIndex.l0,w64_a,w64_b,w64_c,bt_abc0,bt_abc1,bt_abc2,h0,h1,h2]
theorem impl_LetterIndex_eq {c:Int} (h0:0≤c) (h1:c≤255):impl_LetterIndex.f c=some (ltI c):=by
 obtain ⟨n,rfl⟩:=Int.eq_ofNat_of_zero_le h0
 simp only [impl_LetterIndex.f,strings_IndexByte.f,Option.bind_some]
 rw [Int.toNat_natCast]
 exact congrArg some (ix_abc n (by omega))
def allL (l:List Int):Bool:=l.all fun c=>decide (0≤ltI c)
theorem impl_isLetters_ev (s:ByteArray) (hs:s.size≤9223372036854775807):Evt (fun k=>impl_isLetters.f k s) (allL (bytesOf s)):=by
 have h:=Evt.up (fun k i=>impl_isLetters.l0 k s i) s.size (fun i=>allL ((bytesOf s).drop i)) ?_ ?_
 ·simpa [impl_isLetters.f] using h
 ·refine Evt.step ?_
  simp only [impl_isLetters.l0]
  rw [List.drop_of_length_le za44]
  exact Evt.neg (by omega) (Evt.ret _)
 ·intro i hi h
  refine Evt.step ?_
  simp only [impl_isLetters.l0]
  refine Evt.pos (by omega) (Evt.pos (by omega) (Evt.bindc (impl_LetterIndex_eq (bt0 _ _) (bt255 _ _)) ?_))
  have hl:i < (bytesOf s).length:=by rw [bytesOf_length];exact hi
  rw [List.drop_eq_getElem_cons hl,← bt_get s i hl]
  by_cases hc:ltI (bt s i) < 0
  ·exact Evt.pos hc (Evt.const (by simp [allL,show ¬ (0≤ltI (bt s i)) by omega]))
  ·rw [w64s (by omega)]
   exact Evt.neg hc (h.cast (by simp [allL,show 0≤ltI (bt s i) by omega]))
def isW (s:ByteArray):Bool:=allL (bytesOf s) && decide (s.size≤30)
theorem impl_IsWord_ev (s:ByteArray) (hs:s.size≤9223372036854775807):Evt (fun k=>impl_IsWord.f k s) (isW s):=by
 unfold isW
 simp only [impl_IsWord.f]
 by_cases h:s.size≤30
 ·exact Evt.pos (by omega) (Evt.bind (impl_isLetters_ev s hs) (Evt.const (by simp [h])))
 ·exact Evt.neg (by omega) (Evt.const (by simp [h]))
theorem spec_IsWord_ev (s:ByteArray) (hs:s.size≤9223372036854775807):Evt (fun k=>spec_IsWord.f k s) (isW s):=by
 have h:=Evt.up (fun k i=>spec_IsWord.l0 k s i) s.size (fun i=>allL ((bytesOf s).drop i) && decide (s.size≤30)) ?_ ?_
 ·simpa [spec_IsWord.f,isW] using h
 ·refine Evt.step ?_
  simp only [spec_IsWord.l0]
  rw [List.drop_of_length_le za44]
  refine Evt.neg (by omega) (Evt.const ?_)
  have e:((s.size:Int)≤30)=(s.size≤30):=by apply propext;omega
  simp [allL,e]
 ·intro i hi h
  refine Evt.step ?_
  simp only [spec_IsWord.l0]
  refine Evt.pos (by omega) (Evt.pos (by omega) (Evt.bind (spec_LetterIndex_ev _) ?_))
  have hl:i < (bytesOf s).length:=by rw [bytesOf_length];exact hi
  rw [List.drop_eq_getElem_cons hl,← bt_get s i hl]
  by_cases hc:ltI (bt s i) < 0
  ·exact Evt.pos hc (Evt.const (by simp [allL,show ¬ (0≤ltI (bt s i)) by omega]))
  ·rw [w64s (by omega)]
   exact Evt.neg hc (h.cast (by simp [allL,show 0≤ltI (bt s i) by omega]))
def arN (a:Int):Nat:=if a=5∨a=6∨a=7 then 2 else if a=8∨a=9 then 1 else 0
theorem arN_le (a:Int):arN a≤2:=by
 unfold arN
 split
 ·omega
 ·split <;> omega
def kOk (a:Int) (b:ByteArray) (n:Nat):Bool :=
 if a=3 then decide (b.size=1) && isW b && decide (n=0) else decide (1≤a∧a≤9) && decide (b.size=0) && decide (n=arN a)
theorem kOk_len {a:Int} {b:ByteArray} {n:Nat} (h:kOk a b n=true):n=arN a:=by
 unfold kOk at h
 split at h
 ·next e=>subst e;simp at h;simp [h.2,arN]
 ·simp at h;exact h.2
def nds:Nat→S65→Nat
 | 0,_=>17
 | n+1,x=>if kOk x.f0 x.f1 x.f2.length=true then min (1+(x.f2.map (nds n)).sum) 17 else 17
theorem nds_le (n:Nat) (x:S65):nds n x≤17:=by
 cases n with
 | zero=>exact Nat.le_refl _
 | succ n=>unfold nds;split <;> omega
def Ht:Nat→S65→Prop
 | 0,_=>False
 | n+1,x=>x.f2.length≤1048576∧∀ a ∈ x.f2,Ht n a
theorem Ht_mono:∀ n (x:S65),Ht n x→Ht (n+1) x:=by
 intro n
 induction n with
 | zero=>intro x h;exact h.elim
 | succ n ih=>intro x h;exact ⟨h.1,fun a ha=>ih a (h.2 a ha)⟩
theorem Ht_le {n m:Nat} (h:n≤m) (x:S65) (hx:Ht n x):Ht m x:=by
 induction h with
 | refl=>exact hx
 | step _ ih=>exact Ht_mono _ _ ih
theorem Sm.ht {x:S65} (h:Sm x):∃ n,Ht n x:=by
 induction h with
 | mk a b l hl hs ih =>
  have h3:∃ n,∀ a ∈ l,Ht n a:=by
   clear hl hs
   induction l with
   | nil=>exact ⟨0,fun a ha=>by cases ha⟩
   | cons x l ihl =>
    obtain ⟨n,hn⟩:=ihl (fun a ha=>ih a (List.mem_cons_of_mem _ ha))
    obtain ⟨m,hm⟩:=ih x (List.mem_cons_self ..)
    refine ⟨max n m,fun a ha=>?_⟩
    rcases List.mem_cons.1 ha with rfl|ha
    ·exact Ht_le (by omega) _ hm
    ·exact Ht_le (by omega) _ (hn a ha)
  obtain ⟨n,hn⟩:=h3
  exact ⟨n+1,hl,hn⟩
def siz:Nat→S65→Nat
 | 0,_=>1
 | n+1,x=>1+(x.f2.map (siz n)).sum
def dep:Nat→S65→Nat
 | 0,_=>1
 | n+1,x=>(x.f2.map (dep n)).foldr max 0+1
def alls:Nat→S65→Bool
 | 0,_=>true
 | n+1,x=>(x.f2.all (alls n)) && kOk x.f0 x.f1 x.f2.length
theorem siz_pos (n:Nat) (x:S65):1≤siz n x:=by cases n <;> simp [siz]
theorem dep_pos (n:Nat) (x:S65):1≤dep n x:=by cases n <;> simp [dep]
theorem dep_le_siz (n:Nat):∀ x:S65,dep n x≤siz n x:=by
 induction n with
 | zero=>intro x;simp [dep,siz]
 | succ n ih =>
  intro x
  simp only [dep,siz]
  generalize x.f2=l
  induction l with
  | nil=>simp
  | cons y l ihl=>simp only [List.map_cons,List.foldr_cons,List.sum_cons];have:=ih y;omega
theorem nds_eq (n:Nat):∀ (x:S65) (e:Nat),Ht n x→nds e x=if alls n x=true∧dep n x≤e∧siz n x≤16 then siz n x else 17:=by
 induction n with
 | zero=>intro x e h;exact h.elim
 | succ n ih =>
  intro x e h
  cases e with
  | zero =>
   have:=dep_pos (n+1) x
   rw [if_neg (by omega)]
   rfl
  | succ e =>
   unfold nds
   by_cases hk:kOk x.f0 x.f1 x.f2.length=true
   ·rw [if_pos hk]
    have hl:=kOk_len hk
    have h2:=arN_le x.f0
    obtain ⟨_,hm⟩:=h
    simp only [alls,dep,siz,hk,Bool.and_true]
    generalize x.f2=l at *
    match l with
    | []=>simp
    | [p] =>
     have ip:=ih p e (hm p (by simp))
     have hp:=siz_pos n p
     have hq:=dep_pos n p
     simp only [List.map_cons,List.map_nil,List.sum_cons,List.sum_nil,List.foldr_cons,List.foldr_nil,List.all_cons,List.all_nil,Bool.and_true,ip]
     by_cases c1:alls n p=true <;> by_cases c2:dep n p≤e <;> by_cases c3:siz n p≤16 <;> simp only [c1,c2,c3,true_and,false_and,and_true,and_false,if_true,if_false,Bool.false_eq_true] <;> first|omega|(split <;> omega)
    | [p,q] =>
     have ip:=ih p e (hm p (by simp))
     have iq:=ih q e (hm q (by simp))
     have hp:=siz_pos n p
     have hq:=siz_pos n q
     have hp':=dep_pos n p
     have hq':=dep_pos n q
     simp only [List.map_cons,List.map_nil,List.sum_cons,List.sum_nil,List.foldr_cons,List.foldr_nil,List.all_cons,List.all_nil,Bool.and_true,ip,iq,Bool.and_eq_true]
     by_cases c1:alls n p=true <;> by_cases c2:dep n p≤e <;> by_cases c3:siz n p≤16 <;> by_cases c1':alls n q=true <;> by_cases c2':dep n q≤e <;> by_cases c3':siz n q≤16 <;> simp only [c1,c2,c3,c1',c2',c3',true_and,false_and,and_true,and_false,if_true,if_false,Bool.false_eq_true] <;> first|omega|(split <;> omega)
    | p :: q :: r :: l=>simp at hl;omega
   ·rw [if_neg hk,if_neg]
    simp [alls,hk]
theorem impl_isVariable_eq {c:Int} (h0:0≤c) (h1:c≤255):impl_isVariable.f c=some (isVr c):=by
 obtain ⟨n,rfl⟩:=Int.eq_ofNat_of_zero_le h0
 simp only [impl_isVariable.f,strings_IndexByte.f,Option.bind_some]
 rw [Int.toNat_natCast,← varI_isVar,← ix_XYZ n (by omega)]
theorem spec_l8Var_eq (c:Int):spec_l8Var.f c=some (isVr c):=by
 unfold spec_l8Var.f isVr
 by_cases h:c ≥ 88
 ·rw [if_pos h];simp [show 88≤c from h]
 ·rw [if_neg h];simp [show ¬ 88≤c from h]
def isT (c:Int):Bool:=decide (0≤ltI c) || isVr c
def isTm (s:ByteArray):Bool:=(bytesOf s).all isT && decide (s.size≤12)
theorem spec_IsTerm_ev (s:ByteArray) (hs:s.size≤9223372036854775807):Evt (fun k=>spec_IsTerm.f k s) (isTm s):=by
 have h:=Evt.up (fun k i=>spec_IsTerm.l0 k s i) s.size (fun i=>((bytesOf s).drop i).all isT && decide (s.size≤12)) ?_ ?_
 ·simpa [spec_IsTerm.f,isTm] using h
 ·refine Evt.step ?_
  simp only [spec_IsTerm.l0]
  rw [List.drop_of_length_le za44]
  refine Evt.neg (by omega) (Evt.const ?_)
  have e:((s.size:Int)≤12)=(s.size≤12):=by apply propext;omega
  simp [e]
 ·intro i hi h
  refine Evt.step ?_
  simp only [spec_IsTerm.l0]
  refine Evt.pos (by omega) (Evt.pos (by omega) (Evt.bind (spec_LetterIndex_ev _) ?_))
  have hl:i < (bytesOf s).length:=by rw [bytesOf_length];exact hi
  rw [List.drop_eq_getElem_cons hl,← bt_get s i hl,w64s (by omega)]
  by_cases hc:ltI (bt s i) < 0
  ·refine Evt.pos hc (Evt.bindc (spec_l8Var_eq _) ?_)
   by_cases hv:isVr (bt s i)=true
   ·exact Evt.pos hv (h.cast (by simp [isT,hv]))
   ·exact Evt.neg hv (Evt.const (by simp [isT,hv,show ¬ (0≤ltI (bt s i)) by omega]))
  ·exact Evt.neg hc (h.cast (by simp [isT,show 0≤ltI (bt s i) by omega]))
theorem impl_IsTerm_ev (s:ByteArray):Evt (fun k=>impl_IsTerm.f k s) (isTm s):=by
 simp only [impl_IsTerm.f]
 by_cases h12:(s.size:Int) > 12
 ·exact Evt.pos h12 (Evt.const (by simp [isTm,show ¬ s.size≤12 by omega]))
 refine Evt.neg h12 ?_
 have h:=Evt.up (fun k i=>impl_IsTerm.l0 k s i) s.size (fun i=>((bytesOf s).drop i).all isT) ?_ ?_
 ·exact h.cast (by simp [isTm,show s.size≤12 by omega])
 ·refine Evt.step ?_
  simp only [impl_IsTerm.l0]
  rw [List.drop_of_length_le za44]
  exact Evt.neg (by omega) (Evt.ret _)
 ·intro i hi h
  refine Evt.step ?_
  simp only [impl_IsTerm.l0]
  refine Evt.pos (by omega) (Evt.pos (by omega) (Evt.bindc (impl_LetterIndex_eq (bt0 _ _) (bt255 _ _)) ?_))
  have hl:i < (bytesOf s).length:=by rw [bytesOf_length];exact hi
  rw [List.drop_eq_getElem_cons hl,← bt_get s i hl,w64s (by omega)]
  by_cases hc:ltI (bt s i) < 0
  ·refine Evt.pos hc (Evt.bindc (impl_isVariable_eq (bt0 _ _) (bt255 _ _)) ?_)
   by_cases hv:isVr (bt s i)=true
   ·exact Evt.pos hv (h.cast (by simp [isT,hv]))
   ·exact Evt.neg hv (Evt.const (by simp [isT,hv,show ¬ (0≤ltI (bt s i)) by omega]))
  ·exact Evt.neg hc (h.cast (by simp [isT,show 0≤ltI (bt s i) by omega]))
def cntB (l:List Int) (c:Int):Nat:=l.count c
theorem spec_CountByte_ev (s:ByteArray) (c:Int) (hs:s.size≤9223372036854775807):Evt (fun k=>spec_CountByte.f k s c) ((cntB (bytesOf s) c:Nat):Int):=by
 have h:∀ d i n:Nat,i+d=s.size→n≤i→Evt (fun k=>spec_CountByte.l0 k s c (n:Int) (i:Int)) (((n+cntB ((bytesOf s).drop i) c:Nat)):Int):=by
  intro d
  induction d with
  | zero =>
   intro i n hi hn
   refine Evt.step ?_
   simp only [spec_CountByte.l0]
   rw [List.drop_of_length_le za44]
   exact Evt.neg (by omega) (Evt.const (by simp [cntB]))
  | succ d ih =>
   intro i n hi hn
   refine Evt.step ?_
   simp only [spec_CountByte.l0]
   have hl:i < (bytesOf s).length:=by rw [bytesOf_length];omega
   rw [List.drop_eq_getElem_cons hl,← bt_get s i hl,w64s (i:=i) (by omega),w64s (i:=n) (by omega)]
   refine Evt.pos (by omega) (Evt.pos (by omega) ?_)
   by_cases hc:bt s i=c
   ·exact Evt.pos hc ((ih (i+1) (n+1) (by omega) (by omega)).cast (by simp [cntB,hc];omega))
   ·exact Evt.neg hc ((ih (i+1) n (by omega) (by omega)).cast (by simp [cntB,hc]))
 have:=h s.size 0 0 (by omega) (by omega)
 simpa [spec_CountByte.f] using this
theorem cntB_pos (l:List Int) (c:Int):((cntB l c:Nat):Int) > 0 ↔ c ∈ l:=by
 unfold cntB
 rw [show (((l.count c:Nat):Int) > 0)=(0 < l.count c) by apply propext;omega]
 exact List.count_pos_iff
def vr (p:Int→Bool):Nat→Int→ByteArray→ByteArray
 | 0,_,acc=>acc
 | n+1,i,acc=>vr p n (i+1) (if p (bt (⟨#[88,89,90]⟩:ByteArray) i)=true then acc ++ ((⟨#[88,89,90]⟩:ByteArray).extract (i:Int).toNat ((i+1):Int).toNat) else acc)
def varsB (s:ByteArray):ByteArray:=vr (fun c=>decide (c ∈ bytesOf s)) 3 0 (⟨#[]⟩:ByteArray)
theorem ext_size (i:Int) (h0:0≤i) (h:i < 3):((⟨#[88,89,90]⟩:ByteArray).extract (i:Int).toNat ((i+1):Int).toNat).size=1:=by
 have:i=0∨i=1∨i=2:=by omega
 rcases this with rfl|rfl|rfl <;> rfl
theorem spec_VarsOf_ev (s:ByteArray) (hs:s.size≤9223372036854775807):Evt (fun k=>spec_VarsOf.f k s) (varsB s):=by
 have h:∀ (n:Nat) (i:Int) (acc:ByteArray),0≤i→i+n=3→acc.size+n≤3→Evt (fun k=>spec_VarsOf.l0 k s acc i) (vr (fun c=>decide (c ∈ bytesOf s)) n i acc):=by
  intro n
  induction n with
  | zero =>
   intro i acc h0 hi ha
   refine Evt.step ?_
   simp only [spec_VarsOf.l0]
   exact Evt.neg (by omega) (Evt.ret _)
  | succ n ih =>
   intro i acc h0 hi ha
   have hx:=ext_size i h0 (by omega)
   have hw:wrap64 (i+1)=i+1:=w64 (by omega) (by omega)
   refine Evt.step ?_
   simp only [spec_VarsOf.l0,hw,hx]
   refine Evt.pos (by omega) (Evt.pos (by omega) (Evt.bind (spec_CountByte_ev s _ hs) ?_))
   unfold vr
   by_cases hc:bt (⟨#[88,89,90]⟩:ByteArray) i ∈ bytesOf s
   ·refine Evt.pos ((cntB_pos _ _).2 hc) (Evt.pos (by omega) (Evt.pos (by omega) (Evt.pos (by omega) ?_)))
    exact (ih (i+1) _ (by omega) (by omega) (by rw [ByteArray.size_append,hx];omega)).cast (by simp [hc])
   ·exact Evt.neg (fun h=>hc ((cntB_pos _ _).1 h)) ((ih (i+1) acc (by omega) (by omega) (by omega)).cast (by simp [hc]))
 simpa [spec_VarsOf.f,varsB] using h 3 0 (⟨#[]⟩:ByteArray) (by omega) (by omega) (by decide)
theorem ib_nonneg (s:ByteArray) {c:Int} (h0:0≤c) (h1:c≤255):Lib.indexByte s.data.toList c.toNat.toUInt8 ≥ 0 ↔ c ∈ bytesOf s:=by
 obtain ⟨n,rfl⟩:=Int.eq_ofNat_of_zero_le h0
 rw [Int.toNat_natCast,ge_iff_le,indexByte_nonneg,mem_data s n (by omega)]
theorem impl_VarsOf_ev (s:ByteArray):Evt (fun k=>impl_VarsOf.f k s) (varsB s):=by
 have h:∀ (n:Nat) (i:Int) (acc:ByteArray),0≤i→i+n=3→acc.size+n≤3→Evt (fun k=>impl_VarsOf.l0 k s acc i) (vr (fun c=>decide (c ∈ bytesOf s)) n i acc):=by
  intro n
  induction n with
  | zero =>
   intro i acc h0 hi ha
   refine Evt.step ?_
   simp only [impl_VarsOf.l0]
   exact Evt.neg (by omega) (Evt.ret _)
  | succ n ih =>
   intro i acc h0 hi ha
   have hx:=ext_size i h0 (by omega)
   have hw:wrap64 (i+1)=i+1:=w64 (by omega) (by omega)
   refine Evt.step ?_
   simp only [impl_VarsOf.l0,hw,hx]
   refine Evt.pos (by omega) (Evt.pos (by omega) (Evt.bindc rfl ?_))
   unfold vr
   by_cases hc:bt (⟨#[88,89,90]⟩:ByteArray) i ∈ bytesOf s
   ·refine Evt.pos ((ib_nonneg s (bt0 _ _) (bt255 _ _)).2 hc) (Evt.pos (by omega) (Evt.pos (by omega) (Evt.pos (by omega) ?_)))
    exact (ih (i+1) _ (by omega) (by omega) (by rw [ByteArray.size_append,hx];omega)).cast (by simp [hc])
   ·exact Evt.neg (fun h=>hc ((ib_nonneg s (bt0 _ _) (bt255 _ _)).1 h)) ((ih (i+1) acc (by omega) (by omega) (by omega)).cast (by simp [hc]))
 simpa [impl_VarsOf.f,varsB] using h 3 0 (⟨#[]⟩:ByteArray) (by omega) (by omega) (by decide)
theorem impl_argsOf_ev (a:Int):Evt (fun k=>impl_argsOf.f k a) (if 1≤a∧a≤9 then (arN a:Int) else -1):=by
 refine ⟨3,fun k hk=>?_⟩
 obtain ⟨m,rfl⟩:∃ m,k=m+3:=⟨k - 3,by omega⟩
 have h:a=1∨a=2∨a=3∨a=4∨a=5∨a=6∨a=7∨a=8∨a=9∨¬ (1≤a∧a≤9):=by omega
 rcases h with rfl|rfl|rfl|rfl|rfl|rfl|rfl|rfl|rfl|h
 all_goals first
  | simp [impl_argsOf.f,impl_argsOf.j0,impl_argsOf.j1,arN,-Int.reduceNeg];done
  | skip
 rw [if_neg h]
 have e:∀ c:Int,1≤c→c≤9→¬ a=c:=fun c h1 h2 h3=>h (by omega)
 have eb:∀ c:Int,1≤c→c≤9→(a == c)=false:=fun c h1 h2=>by simpa using e c h1 h2
 simp [impl_argsOf.f,impl_argsOf.j0,impl_argsOf.j1,e 1,e 2,e 3,e 4,e 5,e 6,e 7,e 8,e 9,eb 4,eb 9]
theorem impl_nodesOf_j0t (v a:Int) (b:ByteArray) (l:List S65):Evt (fun k=>impl_nodesOf.j0 k v true a b l) 17:=by
 refine Evt.step ?_
 simp only [impl_nodesOf.j0]
 exact Evt.pos trivial (Evt.ret _)
theorem impl_nodesOf_l0 (n:Nat) (hn:n≤6) (l:List S65) (hl:l.length≤2) (ih:∀ x ∈ l,Evt (fun k=>impl_nodesOf.f k x.f0 x.f1 x.f2 (n:Int)) ((nds n x:Nat):Int)) :
  ∀ d i acc:Nat,i+d=l.length→acc≤1+17 * i→Evt (fun k=>impl_nodesOf.l0 k ((n+1:Nat):Int) (acc:Int) l (l.length:Int) (i:Int)) ((min (acc+((l.drop i).map (nds n)).sum) 17:Nat):Int):=by
 intro d
 induction d with
 | zero =>
  intro i acc hi ha
  refine Evt.step ?_
  simp only [impl_nodesOf.l0]
  refine Evt.neg (by omega) ((Evt.ret _).cast ?_)
  rw [List.drop_of_length_le (by omega)]
  simp only [mn,List.map_nil,List.sum_nil,Nat.add_zero]
  split <;> omega
 | succ d ihd =>
  intro i acc hi ha
  have hi':i < l.length:=by omega
  have hx:=nds_le n l[i]
  refine Evt.step ?_
  simp only [impl_nodesOf.l0]
  rw [rxI_at l i hi',w64s (by omega),w64 (x:=((n+1:Nat):Int) - 1) (by omega) (by omega),show ((n+1:Nat):Int) - 1=(n:Int) by omega]
  refine Evt.pos (by omega) (Evt.pos (by omega) (Evt.pos (by omega) (Evt.bind (ih _ (List.getElem_mem hi')) ?_)))
  rw [w64 (by omega) (by omega),show (acc:Int)+((nds n l[i]:Nat):Int)=((acc+nds n l[i]:Nat):Int) by omega]
  refine (ihd (i+1) (acc+nds n l[i]) (by omega) (by omega)).cast ?_
  rw [List.drop_eq_getElem_cons hi',List.map_cons,List.sum_cons,Nat.add_assoc]
theorem impl_nodesOf_ev (n:Nat):n≤6→∀ x:S65,Evt (fun k=>impl_nodesOf.f k x.f0 x.f1 x.f2 (n:Int)) ((nds n x:Nat):Int):=by
 induction n with
 | zero =>
  intro _ x
  refine Evt.step ?_
  simp only [impl_nodesOf.f]
  exact Evt.pos (by omega) ((impl_nodesOf_j0t _ _ _ _).cast (by simp [nds]))
 | succ n ih =>
  intro hn x
  refine Evt.step ?_
  simp only [impl_nodesOf.f]
  refine Evt.neg (by omega) (Evt.bind (impl_argsOf_ev _) ?_)
  unfold nds
  by_cases hlen:(x.f2.length:Int)=(if 1≤x.f0∧x.f0≤9 then (arN x.f0:Int) else -1)
  ·have e:((x.f2.length:Int) != (if 1≤x.f0∧x.f0≤9 then (arN x.f0:Int) else -1))=false:=by simp [hlen]
   rw [e]
   have hr:1≤x.f0∧x.f0≤9:=by
    by_cases hr:1≤x.f0∧x.f0≤9
    ·exact hr
    ·rw [if_neg hr] at hlen;omega
   rw [if_pos hr] at hlen
   have ha:=arN_le x.f0
   have hj1:Evt (fun k=>impl_nodesOf.j1 k ((n+1:Nat):Int) x.f0 x.f1 x.f2) ((min (1+(x.f2.map (nds n)).sum) 17:Nat):Int):=by
    refine Evt.step ?_
    simp only [impl_nodesOf.j1]
    have:=impl_nodesOf_l0 n (by omega) x.f2 (by omega) (fun y _=>ih (by omega) y) x.f2.length 0 1 (by omega) (by omega)
    simpa using this
   refine Evt.step ?_
   simp only [impl_nodesOf.j0]
   refine Evt.neg (by decide) ?_
   by_cases h3:x.f0=3
   ·refine Evt.pos h3 ?_
    have h0:x.f2.length=0:=by rw [h3] at hlen;simp [arN] at hlen;simp [hlen]
    by_cases h1:x.f1.size=1
    ·refine Evt.pos (by omega) (Evt.bind (impl_IsWord_ev _ (by omega)) ?_)
     cases hw:isW x.f1 with
     | true=>exact Evt.pos rfl (hj1.cast (by simp [kOk,h3,h1,hw,h0]))
     | false=>exact Evt.neg (by decide) ((Evt.ret _).cast (by simp [kOk,h3,h1,hw]))
    ·exact Evt.neg (by omega) ((Evt.ret _).cast (by simp [kOk,h3,h1]))
   ·refine Evt.neg h3 ?_
    by_cases h1:x.f1.size=0
    ·have h4:x.f2.length=arN x.f0:=by omega
     exact Evt.pos ((toList_nil_iff _).2 h1) (hj1.cast (by simp [kOk,h3,h1,hr,h4]))
    ·exact Evt.neg (fun h=>h1 ((toList_nil_iff _).1 h)) ((Evt.ret _).cast (by simp [kOk,h3,h1]))
  ·have e:((x.f2.length:Int) != (if 1≤x.f0∧x.f0≤9 then (arN x.f0:Int) else -1))=true:=bne_iff_ne.mpr hlen
   rw [e]
   refine (impl_nodesOf_j0t _ _ _ _).cast ?_
   rw [if_neg]
   ·rfl
   ·intro hk
    have:=kOk_len hk
    refine hlen ?_
    have hr:1≤x.f0∧x.f0≤9:=by
     unfold kOk at hk
     split at hk
     ·omega
     ·simp at hk;exact hk.1.1
    rw [if_pos hr];omega
theorem impl_IsValidRegex_ev (x:S65):Evt (fun k=>impl_IsValidRegex.f k x.f0 x.f1 x.f2) (decide (nds 6 x≤16)):=by
 simp only [impl_IsValidRegex.f]
 refine Evt.bind (impl_nodesOf_ev 6 (Nat.le_refl _) x) ((Evt.ret _).cast ?_)
 have e:(((nds 6 x:Nat):Int)≤16)=(nds 6 x≤16):=by apply propext;omega
 simp [e]
theorem spec_l3Left_ev (n:Nat):∀ x:S65,Ht n x→∀ v:Int,0≤v→v≤16→∃ r,Evt (fun k=>spec_l3Left.f k x.f0 x.f1 x.f2 v) r∧r≤16∧(if (siz n x:Int)≤v then r=v - siz n x else r < 0):=by
 induction n with
 | zero=>intro x h;exact h.elim
 | succ n ih =>
  rintro ⟨a,b,l⟩ ⟨hl,hm⟩ v h0 h1
  simp only at hl hm
  have hh:∀ d i:Nat,i+d=l.length→∀ u:Int,u≤16→∃ r,Evt (fun k=>spec_l3Left.l0 k u (i:Int) a b l) r∧r≤16∧(if ((((l.drop i).map (siz n)).sum:Nat):Int)≤u then r=u - (((l.drop i).map (siz n)).sum:Nat) else r < 0):=by
   intro d
   induction d with
   | zero =>
    intro i hi u hu
    refine ⟨u,Evt.step ?_,hu,?_⟩
    ·simp only [spec_l3Left.l0]
     exact Evt.neg (by omega) (Evt.ret _)
    ·rw [List.drop_of_length_le (by omega)]
     simp only [List.map_nil,List.sum_nil]
     split <;> omega
   | succ d ihd =>
    intro i hi u hu
    have hi':i < l.length:=by omega
    rw [List.drop_eq_getElem_cons hi',List.map_cons,List.sum_cons]
    by_cases hu0:u ≥ 0
    ·obtain ⟨r,hr,hr',hc⟩:=ih l[i] (hm _ (List.getElem_mem hi')) u hu0 hu
     obtain ⟨r2,hr2,hr2',hc2⟩:=ihd (i+1) (by omega) r hr'
     refine ⟨r2,Evt.step ?_,hr2',?_⟩
     ·simp only [spec_l3Left.l0]
      rw [rxI_at l i hi',w64s (by omega)]
      exact Evt.pos (by omega) (Evt.pos hu0 (Evt.pos (by omega) (Evt.bind hr hr2)))
     ·generalize (((l.drop (i+1)).map (siz n)).sum)=s at *
      generalize siz n l[i]=t at *
      split at hc <;> split at hc2 <;> split <;> omega
    ·refine ⟨u,Evt.step ?_,hu,?_⟩
     ·simp only [spec_l3Left.l0]
      exact Evt.pos (by omega) (Evt.neg hu0 (Evt.ret _))
     ·rw [if_neg (by omega)];omega
  obtain ⟨r,hr,hr',hc⟩:=hh l.length 0 (by omega) (v - 1) (by omega)
  refine ⟨r,Evt.step ?_,hr',?_⟩
  ·simp only [spec_l3Left.f]
   rw [w64 (by omega) (by omega)]
   exact hr
  ·rw [List.drop_zero] at hc
   have e:siz (n+1) (⟨a,b,l⟩:S65)=1+(l.map (siz n)).sum:=by simp [siz]
   by_cases hs:((siz (n+1) (⟨a,b,l⟩:S65):Nat):Int)≤v
   ·rw [if_pos hs]
    rw [if_pos (by omega)] at hc
    omega
   ·rw [if_neg hs]
    rw [if_neg (by omega)] at hc
    exact hc
theorem mem_sum {n:Nat} (l:List S65) (y:S65) (h:y ∈ l):siz n y≤(l.map (siz n)).sum:=by
 induction l with
 | nil=>cases h
 | cons x l ih =>
  rw [List.map_cons,List.sum_cons]
  rcases List.mem_cons.1 h with rfl|h
  ·omega
  ·have:=ih h;omega
theorem spec_l3Depth_ev (n:Nat):∀ x:S65,Ht n x→siz n x≤16→Evt (fun k=>spec_l3Depth.f k x.f0 x.f1 x.f2) (dep n x:Int):=by
 induction n with
 | zero=>intro x h;exact h.elim
 | succ n ih =>
  rintro ⟨a,b,l⟩ ⟨hl,hm⟩ hs
  simp only at hl hm
  simp only [siz] at hs
  have hx:∀ y ∈ l,siz n y≤16:=by
   intro y hy
   have:siz n y≤(l.map (siz n)).sum:=mem_sum l y hy
   omega
  have hh:∀ d i:Nat,i+d=l.length→∀ u:Nat,u≤16→Evt (fun k=>spec_l3Depth.l0 k (u:Int) (i:Int) a b l) ((max u (((l.drop i).map (dep n)).foldr max 0)+1:Nat):Int):=by
   intro d
   induction d with
   | zero =>
    intro i hi u hu
    refine Evt.step ?_
    simp only [spec_l3Depth.l0]
    rw [List.drop_of_length_le (by omega)]
    refine Evt.neg (by omega) ((Evt.ret _).cast ?_)
    rw [w64 (by omega) (by omega)]
    simp
   | succ d ihd =>
    intro i hi u hu
    have hi':i < l.length:=by omega
    have h1:=hx _ (List.getElem_mem hi')
    have h2:=dep_le_siz n l[i]
    refine Evt.step ?_
    simp only [spec_l3Depth.l0]
    rw [List.drop_eq_getElem_cons hi',List.map_cons,List.foldr_cons]
    rw [rxI_at l i hi',w64s (by omega)]
    refine Evt.pos (by omega) (Evt.pos (by omega) (Evt.bind (ih _ (hm _ (List.getElem_mem hi')) h1) (Evt.bindc (a:=((max u (dep n l[i]):Nat):Int)) ?_ ?_)))
    ·simp only [spec_l1Max.f]
     split
     ·congr 1;omega
     ·congr 1;omega
    ·refine (ihd (i+1) (by omega) (max u (dep n l[i])) (by omega)).cast ?_
     congr 1
     generalize ((l.drop (i+1)).map (dep n)).foldr max 0=z
     omega
  refine Evt.step ?_
  simp only [spec_l3Depth.f]
  refine (hh l.length 0 (by omega) 0 (by omega)).cast ?_
  simp [dep]
theorem spec_l3Args_ev (a:Int):Evt (fun k=>spec_l3Args.f k a) (arN a:Int):=by
 refine ⟨1,fun k hk=>?_⟩
 obtain ⟨m,rfl⟩:∃ m,k=m+1:=⟨k - 1,by omega⟩
 have h:a=5∨a=6∨a=7∨a=8∨a=9∨(a ≠ 5∧a ≠ 6∧a ≠ 7∧a ≠ 8∧a ≠ 9):=by omega
 rcases h with rfl|rfl|rfl|rfl|rfl|⟨h1,h2,h3,h4,h5⟩
 all_goals simp [spec_l3Args.f,spec_l3Args.j0,arN, *]
theorem spec_l3All_ev (n:Nat):∀ x:S65,Ht n x→Evt (fun k=>spec_l3All.f k x.f0 x.f1 x.f2) (alls n x):=by
 induction n with
 | zero=>intro x h;exact h.elim
 | succ n ih =>
  rintro ⟨a,b,l⟩ ⟨hl,hm⟩
  simp only at hl hm
  refine Evt.step ?_
  simp only [spec_l3All.f,alls]
  have hh:=Evt.up (fun k i=>spec_l3All.l0 k i a b l) l.length (fun i=>(l.drop i).all (alls n) && kOk a b l.length) ?_ ?_
  ·simpa using hh
  ·refine Evt.step ?_
   simp only [spec_l3All.l0]
   rw [List.drop_of_length_le (by omega)]
   refine Evt.neg (by omega) ?_
   simp only [List.all_nil,Bool.true_and]
   unfold kOk
   by_cases h3:a=3
   ·rw [if_pos h3]
    refine Evt.pos h3 ?_
    by_cases h1:b.size=1
    ·refine Evt.pos (by omega) (Evt.bind (spec_IsWord_ev _ (by omega)) ?_)
     cases hw:isW b with
     | true =>
      refine Evt.pos rfl ((Evt.ret _).cast ?_)
      have e:((l.length:Int) == 0)=decide (l.length=0):=by rw [show ((l.length:Int) == 0)=decide ((l.length:Int)=0) from rfl];congr 1;apply propext;omega
      simp [h1,e]
     | false=>exact Evt.neg (by decide) ((Evt.ret _).cast (by simp))
    ·exact Evt.neg (by omega) ((Evt.ret _).cast (by simp [h1]))
   ·rw [if_neg h3]
    refine Evt.neg h3 ?_
    by_cases hr:1≤a∧a≤9
    ·refine Evt.bindc (a:=true) (by simp [spec_l1In.f,hr.1,hr.2]) (Evt.pos rfl ?_)
     by_cases h1:b.size=0
     ·refine Evt.pos ((toList_nil_iff _).2 h1) (Evt.bind (spec_l3Args_ev _) ((Evt.ret _).cast ?_))
      have e:((l.length:Int) == (arN a:Int))=decide (l.length=arN a):=by rw [show ((l.length:Int) == (arN a:Int))=decide ((l.length:Int)=(arN a:Int)) from rfl];congr 1;apply propext;omega
      simp [h1,hr.1,hr.2,e]
     ·exact Evt.neg (fun h=>h1 ((toList_nil_iff _).1 h)) ((Evt.ret _).cast (by simp [h1]))
    ·refine Evt.bindc (a:=false) ?_ (Evt.neg (by decide) ((Evt.ret _).cast (by simp [hr])))
     simp only [spec_l1In.f]
     by_cases hr1:a ≥ 1
     ·rw [if_pos hr1];congr 1;simp;omega
     ·rw [if_neg hr1]
  ·intro i hi h
   refine Evt.step ?_
   simp only [spec_l3All.l0]
   rw [rxI_at l i hi,w64s (by omega),List.drop_eq_getElem_cons hi]
   refine Evt.pos (by omega) (Evt.pos (by omega) (Evt.bind (ih _ (hm _ (List.getElem_mem hi))) ?_))
   rw [List.all_cons]
   cases alls n l[i] with
   | true=>exact Evt.pos rfl (h.cast (by simp))
   | false=>exact Evt.neg (by decide) ((Evt.ret _).cast (by simp))
theorem spec_IsValidRegex_ev (x:S65) (h:Sm x):Evt (fun k=>spec_IsValidRegex.f k x.f0 x.f1 x.f2) (decide (nds 6 x≤16)):=by
 obtain ⟨n,hn⟩:=h.ht
 rw [nds_eq n x 6 hn]
 simp only [spec_IsValidRegex.f]
 obtain ⟨r,hr,_,hc⟩:=spec_l3Left_ev n x hn 16 (by omega) (by omega)
 refine Evt.bind hr ?_
 by_cases h1:siz n x≤16
 ·rw [if_pos (by omega)] at hc
  refine Evt.pos (by omega) (Evt.bind (spec_l3Depth_ev n x hn h1) ?_)
  by_cases h2:dep n x≤6
  ·refine Evt.pos (by omega) (Evt.bind (spec_l3All_ev n x hn) ((Evt.ret _).cast ?_))
   cases ha:alls n x <;> simp [h1,h2]
  ·exact Evt.neg (by omega) ((Evt.ret _).cast (by simp [h2]))
 ·rw [if_neg (by omega)] at hc
  exact Evt.neg (by omega) ((Evt.ret _).cast (by simp [h1]))
theorem eqRegex_ev (x:S65) (h:Sm x):Evt (fun k=>laws_eqRegex.f k x.f0 x.f1 x.f2 x.f0 x.f1 x.f2) true:=by
 induction h with
 | mk a b l hl hs ih =>
  refine Evt.step ?_
  simp only [laws_eqRegex.f]
  refine Evt2.diag (g:=fun i j=>laws_eqRegexG.f (fun _=>laws_eqRegex.f i) j a b l a b l) ?_
  simp only [laws_eqRegexG.f,laws_eqRegexSG.f]
  refine Evt2.pos trivial (Evt2.pos trivial (Evt2.bind2 (a:=true) (Evt2.pos trivial ?_) (Evt2.pos rfl (Evt2.ret _))))
  have hh:∀ d i:Nat,i+d=l.length→Evt2 (fun p q=>laws_eqRegexSG.l0 (fun _=>laws_eqRegex.f p) q l l (i:Int)) true:=by
   intro d
   induction d with
   | zero =>
    intro i hi
    refine Evt2.step ?_
    simp only [laws_eqRegexSG.l0]
    exact Evt2.neg (by omega) (Evt2.ret _)
   | succ d ihd =>
    intro i hi
    have hi':i < l.length:=by omega
    refine Evt2.step ?_
    simp only [laws_eqRegexSG.l0]
    rw [rxI_at l i hi',w64s (by omega)]
    exact Evt2.pos (by omega) (Evt2.pos (by omega) (Evt2.pos (by omega) (Evt2.bind (ih _ (List.getElem_mem hi')) (Evt2.pos rfl (ihd (i+1) (by omega))))))
  exact hh l.length 0 (by omega)
end Go.Proofs.YtffjfdoghofkdaaGreat.F
namespace Go.Proofs.YtffjfdoghofkdaaGreat.F
open Go.RowKit YtffjfdoghofkdaaGreatW.PrintWords YtffjfdoghofkdaaGreat.Pl YtffjfdoghofkdaaGreat.A
theorem szIntS_eq (l:List Int) (a:Int) (ha : -1≤a) (ha':a≤1048576) (hl:l.length≤9223372036854775807) :
  ∃ t,laws_szIntS.f l a=some t∧(t = -1∨(0≤t∧t=a - l.length)):=by
 unfold laws_szIntS.f
 rw [w64_sub ha ha' hl]
 by_cases h1:a - l.length < 0
 ·exact ⟨-1,by rw [if_pos h1],.inl rfl⟩
 ·rw [if_neg h1];exact ⟨_,rfl,.inr ⟨by omega,rfl⟩⟩
theorem set_next (l:List Int) (i n:Nat) (hn:l.length=n) (hi:i < n):(l.take i ++ List.replicate (n - i) 0).set i (rd l (i:Int))=l.take (i+1) ++ List.replicate (n - (i+1)) 0:=by
 have hl:(l.take i).length=i:=by rw [List.length_take];omega
 have e:rd l (i:Int)=l[i]:=by simp [rd,show i < l.length by omega]
 rw [List.set_append_right _ _ (by omega),hl,Nat.sub_self,show n - i=(n - (i+1))+1 by omega,List.replicate_succ,zu,List.take_succ_eq_append_getElem (by omega),e,List.append_assoc]
 rfl
theorem toIntS_ev (l:List Int) (hl:l.length≤35184372088832):Evt (fun k=>laws_toIntS.f k l) l:=by
 simp only [laws_toIntS.f]
 refine Evt.pos (by omega) (Evt.pos (by omega) ?_)
 rw [Int.toNat_natCast]
 have h:∀ d i:Nat,i+d=l.length→Evt (fun k=>laws_toIntS.l0 k l (l.take i ++ List.replicate (l.length - i) 0) (i:Int)) l:=by
  intro d
  induction d with
  | zero =>
   intro i hi
   refine Evt.step ?_
   simp only [laws_toIntS.l0]
   refine Evt.neg (by omega) (Evt.const ?_)
   obtain rfl:i=l.length:=by omega
   simp
  | succ d ih =>
   intro i hi
   refine Evt.step ?_
   simp only [laws_toIntS.l0]
   rw [w64s (by omega),Int.toNat_natCast,set_next l i l.length rfl (by omega)]
   exact Evt.pos (by omega) (Evt.pos (by omega) (Evt.pos (by simp;omega) (ih (i+1) (by omega))))
 simpa using h l.length 0 (by omega)
theorem eqIntS_ev (l l':List Int) (hl:l.length≤9223372036854775807):Evt (fun k=>laws_eqIntS.f k l l') (decide (l=l')):=by
 simp only [laws_eqIntS.f]
 by_cases he:l.length=l'.length
 ·refine Evt.pos (by omega) ?_
  have h:=Evt.up (fun k i=>laws_eqIntS.l0 k l l' i) l.length (fun i=>decide (l.drop i=l'.drop i)) ?_ ?_
  ·simpa using h
  ·refine Evt.step ?_
   simp only [laws_eqIntS.l0]
   refine Evt.neg (by omega) (Evt.const ?_)
   rw [List.drop_of_length_le (Nat.le_refl _),List.drop_of_length_le (by omega)]
   rfl
  ·intro i hi h
   refine Evt.step ?_
   simp only [laws_eqIntS.l0]
   have hi':i < l'.length:=by omega
   refine Evt.pos (by omega) (Evt.pos (by omega) (Evt.pos (by omega) ?_))
   rw [List.drop_eq_getElem_cons hi,List.drop_eq_getElem_cons hi',w64s (by omega)]
   have e1:rd l (i:Int)=l[i]:=by simp [rd,hi]
   have e2:rd l' (i:Int)=l'[i]:=by simp [rd,hi']
   rw [e1,e2]
   by_cases hc:l[i]=l'[i]
   ·exact Evt.pos hc (h.cast (by rw [hc];simp only [List.cons.injEq,true_and]))
   ·exact Evt.neg hc (Evt.const (by rw [decide_eq_false (fun e=>hc (List.cons.inj e).1)]))
 ·refine Evt.neg (by omega) (Evt.const ?_)
  have:l ≠ l':=fun e=>he (by rw [e])
  simp [this]
end Go.Proofs.YtffjfdoghofkdaaGreat.F
namespace Go.Proofs.YtffjfdoghofkdaaGreat.F
open Go.RowKit YtffjfdoghofkdaaGreatW.PrintWords YtffjfdoghofkdaaGreat.Pl YtffjfdoghofkdaaGreat.A YtffjfdoghofkdaaGreat.Ext
def CpC (a:Int) (b c:ByteArray) (d:Int) (e:ByteArray) (l:List S101) (m:List Int) (n:Int) (y:List S65):Prop :=
 Sm ⟨d,e,y⟩∧m.length≤1048576∧Evt (fun k=>laws_toConstraint.f k a b c d e l m n) (a,b,c,d,e,y,m,n)
theorem szConstraint_ev (a:Int) (b c:ByteArray) (d:Int) (e:ByteArray) (l:List S101) (m:List Int) (n:Int) (N:Nat) (v:Int) (hv:0≤v) (hv':v≤1048576) (hb:b.size≤9223372036854775807) (hc:c.size≤9223372036854775807) (hr:RxOk N ⟨d,e,l⟩) (hm:m.length≤9223372036854775807) :
  ∃ t,Evt (fun k=>laws_szConstraint.f k a b c d e l m n v) t∧(t = -1∨(0≤t∧t≤v∧∃ y,CpC a b c d e l m n y)):=by
 simp only [laws_szConstraint.f]
 rw [w64_sub (by omega) (by omega) hb]
 by_cases c1:v - b.size < 0
 ·exact ⟨-1,Evt.pos c1 (Evt.ret _),.inl rfl⟩
 rw [w64_sub (by omega) (by omega) hc]
 by_cases c2:v - b.size - c.size < 0
 ·exact ⟨-1,Evt.neg c1 (Evt.pos c2 (Evt.ret _)),.inl rfl⟩
 obtain ⟨t,ht,h1⟩:=szRegex_ev N ⟨d,e,l⟩ hr (v - b.size - c.size) (by omega) (by omega)
 simp only at ht
 rcases h1 with rfl|⟨h1,h2,h3⟩
 ·exact ⟨-1,Evt.neg c1 (Evt.neg c2 (Evt.bind ht (Evt.pos (by decide) (Evt.ret _)))),.inl rfl⟩
 obtain ⟨u,hu,h4⟩:=szIntS_eq m t (by omega) (by omega) hm
 rcases h4 with rfl|⟨h4,h5⟩
 ·exact ⟨-1,Evt.neg c1 (Evt.neg c2 (Evt.bind ht (Evt.neg (by omega) (Evt.bindc hu (Evt.pos (by decide) (Evt.ret _)))))),.inl rfl⟩
 refine ⟨u,Evt.neg c1 (Evt.neg c2 (Evt.bind ht (Evt.neg (by omega) (Evt.bindc hu (Evt.neg (by omega) (Evt.ret _)))))),.inr ⟨h4,by omega,?_⟩⟩
 obtain ⟨⟨d',e',y⟩,hs,he⟩:=h3
 simp only at he
 have hde:d'=d∧e'=e:=by
  obtain ⟨K,hK⟩:=he
  have h6:=hK (K+1) (by omega)
  simp only [laws_toRegex.f,laws_toRegexG.f] at h6
  obtain ⟨z,_,h7⟩:=zo h6
  simp only [Option.some.injEq,Prod.mk.injEq] at h7
  exact ⟨h7.1.symm,h7.2.1.symm⟩
 obtain ⟨rfl,rfl⟩:=hde
 refine ⟨y,hs,by omega,?_⟩
 simp only [laws_toConstraint.f]
 exact Evt.bind he (Evt.bind (toIntS_ev m (by omega)) (Evt.ret _))
theorem eqConstraint_ev (a:Int) (b c:ByteArray) (d:Int) (e:ByteArray) (y:List S65) (m:List Int) (n:Int) (hy:Sm ⟨d,e,y⟩) (hm:m.length≤1048576):Evt (fun k=>laws_eqConstraint.f k a b c d e y m n a b c d e y m n) true:=by
 simp only [laws_eqConstraint.f]
 exact Evt.pos trivial (Evt.pos trivial (Evt.pos trivial (Evt.bind (eqRegex_ev _ hy) (Evt.pos rfl (Evt.bind (eqIntS_ev m m (by omega)) (Evt.pos (by simp) (Evt.pos trivial (Evt.ret _))))))))
def zR (d:Int) (e:ByteArray) (l:List S65):Bool:=decide (d=0) && decide (e.size=0) && ((l.length:Int) == 0)
theorem spec_l9Zero_eq (d:Int) (e:ByteArray) (l:List S65):spec_l9Zero.f d e l=some (zR d e l):=by
 unfold spec_l9Zero.f zR
 by_cases h1:d=0
 ·by_cases h2:e.size=0
  ·rw [if_pos h1,if_pos ((toList_nil_iff _).2 h2)];simp [h1,h2]
  ·rw [if_pos h1,if_neg (fun h=>h2 ((toList_nil_iff _).1 h))];simp [h2]
 ·rw [if_neg h1];simp [h1]
theorem impl_isZeroRegex_eq (d:Int) (e:ByteArray) (l:List S65):impl_isZeroRegex.f d e l=some (zR d e l):=by
 unfold impl_isZeroRegex.f zR
 by_cases h1:d=0
 ·by_cases h2:e.size=0
  ·rw [if_pos h1,if_pos ((toList_nil_iff _).2 h2)];simp [h1,h2]
  ·rw [if_pos h1,if_neg (fun h=>h2 ((toList_nil_iff _).1 h))];simp [h2]
 ·rw [if_neg h1];simp [h1]
def inR (a lo hi:Int):Bool:=decide (lo≤a∧a≤hi)
theorem spec_l1In_eq (a lo hi:Int):spec_l1In.f a lo hi=some (inR a lo hi):=by
 unfold spec_l1In.f inR
 by_cases h:a ≥ lo
 ·rw [if_pos h];congr 1;simp [show lo≤a from h]
 ·rw [if_neg h];congr 1;simp;omega
theorem impl_within_eq (a lo hi:Int):impl_within.f a lo hi=some (inR a lo hi):=by
 unfold impl_within.f inR
 by_cases h:a ≥ lo
 ·rw [if_pos h];congr 1;simp [show lo≤a from h]
 ·rw [if_neg h];congr 1;simp;omega
def cfs (m:List Int):Bool:=m.all fun c=>inR c (-9) 9
theorem rdI_at (m:List Int) (i:Nat) (h:i < m.length):rd m (i:Int)=m[i]:=by simp [rd,h]
theorem spec_l9Coeffs_ev (m:List Int) (hm:m.length≤1048576):Evt (fun k=>spec_l9Coeffs.f k m) (cfs m && ((m.length:Int) == 3)):=by
 have h:=Evt.up (fun k i=>spec_l9Coeffs.l0 k m i) m.length (fun i=>cfs (m.drop i) && ((m.length:Int) == 3)) ?_ ?_
 ·simpa [spec_l9Coeffs.f] using h
 ·refine Evt.step ?_
  simp only [spec_l9Coeffs.l0]
  rw [List.drop_of_length_le (by omega)]
  exact Evt.neg (by omega) ((Evt.ret _).cast (by simp [cfs]))
 ·intro i hi h
  refine Evt.step ?_
  simp only [spec_l9Coeffs.l0]
  rw [rdI_at m i hi,w64s (by omega),List.drop_eq_getElem_cons hi]
  refine Evt.pos (by omega) (Evt.pos (by omega) (Evt.bindc (spec_l1In_eq _ _ _) ?_))
  have e:cfs (m[i] :: m.drop (i+1))=(inR m[i] (-9) 9 && cfs (m.drop (i+1))):=rfl
  rw [e]
  cases inR m[i] (-9) 9 with
  | true=>exact Evt.pos rfl (h.cast (by simp))
  | false=>exact Evt.neg (by decide) ((Evt.ret _).cast (by simp))
theorem impl_coeffs_ev (m:List Int) (hm:m.length≤1048576):Evt (fun k=>slices_ContainsFunc_int_int.f k m) (!cfs m):=by
 simp only [slices_ContainsFunc_int_int.f,slices_IndexFunc_int_int.f]
 have h:∀ d i:Nat,i+d=m.length→∃ r,Evt (fun k=>slices_IndexFunc_int_int.l0 k m (m.length:Int) (i:Int)) r∧decide (r ≥ 0) = !cfs (m.drop i):=by
  intro d
  induction d with
  | zero =>
   intro i hi
   refine ⟨-1,Evt.step ?_,?_⟩
   ·simp only [slices_IndexFunc_int_int.l0]
    exact Evt.neg (by omega) (Evt.ret _)
   ·rw [List.drop_of_length_le (by omega)];rfl
  | succ d ih =>
   intro i hi
   have hi':i < m.length:=by omega
   have e:cfs (m[i] :: m.drop (i+1))=(inR m[i] (-9) 9 && cfs (m.drop (i+1))):=rfl
   rw [List.drop_eq_getElem_cons hi',e]
   obtain ⟨r,hr,hc⟩:=ih (i+1) (by omega)
   cases hq:inR m[i] (-9) 9 with
   | true =>
    refine ⟨r,Evt.step ?_,by simpa using hc⟩
    simp only [slices_IndexFunc_int_int.l0,impl_IsValidConstraint_1.f]
    rw [rdI_at m i hi',w64s (by omega)]
    exact Evt.pos (by omega) (Evt.pos (by omega) (Evt.pos (by omega) (Evt.bind (Evt.bindc (impl_within_eq _ _ _) (Evt.ret _)) (Evt.neg (by simp [hq]) hr))))
   | false =>
    refine ⟨(i:Int),Evt.step ?_,by simp⟩
    simp only [slices_IndexFunc_int_int.l0,impl_IsValidConstraint_1.f]
    rw [rdI_at m i hi']
    exact Evt.pos (by omega) (Evt.pos (by omega) (Evt.pos (by omega) (Evt.bind (Evt.bindc (impl_within_eq _ _ _) (Evt.ret _)) (Evt.pos (by simp [hq]) (Evt.ret _)))))
 obtain ⟨r,hr,hc⟩:=h m.length 0 (by omega)
 exact Evt.bind hr ((Evt.ret _).cast (by rw [hc];rfl))
def valX (x:Bool) (a:Int) (b c:ByteArray) (d:Int) (e:ByteArray) (l:List S65) (m:List Int) (n:Int):Bool :=
 if a=1∨a=2 then isTm b && (isTm c && (zR d e l && x))
 else if a=3∨a=4 then isTm b && (decide (c.size=0) && (decide (nds 6 ⟨d,e,l⟩≤16) && x))
 else if a=5 then decide (b.size=0) && (decide (c.size=0) && (zR d e l && ((cfs m && ((m.length:Int) == 3)) && inR n (-99) 99)))
 else false
def valC (a:Int) (b c:ByteArray) (d:Int) (e:ByteArray) (l:List S65) (m:List Int) (n:Int):Bool :=
 valX (decide (m.length=0) && (n == 0)) a b c d e l m n
section
variable {a : Int} {b c : ByteArray} {d : Int} {e : ByteArray} {l : List S65} {m : List Int} {n : Int}
theorem and_ev {g h:Nat→Option Bool} {p q:Bool} (hg:Evt g p) (hh:p=true→Evt h q):Evt (fun k=>(g k).bind fun t=>if t=true then h k else some false) (p && q):=by
 refine Evt.bind hg ?_
 cases p with
 | true=>exact Evt.pos rfl ((hh rfl).cast (by simp))
 | false=>exact Evt.neg (by decide) ((Evt.ret _).cast (by simp))
theorem nil_ev {s:ByteArray} {h:Nat→Option Bool} {q:Bool} (hh:s.size=0→Evt h q):Evt (fun k=>if s.toList=([]:List UInt8) then h k else some false) (decide (s.size=0) && q):=by
 by_cases hs:s.size=0
 ·exact Evt.pos ((toList_nil_iff _).2 hs) ((hh hs).cast (by simp [hs]))
 ·exact Evt.neg (fun h=>hs ((toList_nil_iff _).1 h)) ((Evt.ret _).cast (by simp [hs]))
theorem last_ev {g:Nat→Option Bool} {p:Bool} (hg:Evt g p):Evt (fun k=>(g k).bind fun t=>some t) p:=Evt.bind hg (Evt.ret _)
theorem spec_j1t (x:Bool) (v:Int) (hb:b.size≤9223372036854775807) (hc:c.size≤9223372036854775807):Evt (fun k=>spec_IsValidConstraint.j1 k x v true a b c d e l m n) (isTm b && (isTm c && (zR d e l && x))):=by
 refine Evt.step ?_
 simp only [spec_IsValidConstraint.j1]
 exact Evt.pos trivial (and_ev (spec_IsTerm_ev b hb) fun _=>and_ev (spec_IsTerm_ev c hc) fun _=>and_ev (Evt.const (spec_l9Zero_eq d e l)) fun _=>Evt.ret _)
theorem spec_j2t (x:Bool) (v:Int) (hb:b.size≤9223372036854775807) (hr:Sm ⟨d,e,l⟩):Evt (fun k=>spec_IsValidConstraint.j2 k x v true a b c d e l m n) (isTm b && (decide (c.size=0) && (decide (nds 6 ⟨d,e,l⟩≤16) && x))):=by
 refine Evt.step ?_
 simp only [spec_IsValidConstraint.j2]
 exact Evt.pos trivial (and_ev (spec_IsTerm_ev b hb) fun _=>nil_ev fun _=>and_ev (spec_IsValidRegex_ev ⟨d,e,l⟩ hr) fun _=>Evt.ret _)
theorem spec_IsValidConstraint_ev (hb:b.size≤9223372036854775807) (hc:c.size≤9223372036854775807) (hr:Sm ⟨d,e,l⟩) (hm:m.length≤1048576):Evt (fun k=>spec_IsValidConstraint.f k a b c d e l m n) (valC a b c d e l m n):=by
 have hj:∀ x:Bool,Evt (fun k=>spec_IsValidConstraint.j0 k x a b c d e l m n) (valX x a b c d e l m n):=by
  intro x
  refine Evt.step ?_
  simp only [spec_IsValidConstraint.j0]
  unfold valX
  by_cases h1:a=1
  ·subst h1;exact Evt.pos rfl ((spec_j1t x _ hb hc).cast (by simp))
  refine Evt.neg h1 ?_
  by_cases h2:a=2
  ·subst h2;exact (spec_j1t x _ hb hc).cast (by simp)
  rw [show (a == 2)=false by simpa using h2,if_neg (by omega)]
  refine Evt.step ?_
  simp only [spec_IsValidConstraint.j1]
  refine Evt.neg (by decide) ?_
  by_cases h3:a=3
  ·subst h3;exact Evt.pos rfl ((spec_j2t x _ hb hr).cast (by simp))
  refine Evt.neg h3 ?_
  by_cases h4:a=4
  ·subst h4;exact (spec_j2t x _ hb hr).cast (by simp)
  rw [show (a == 4)=false by simpa using h4,if_neg (by omega)]
  refine Evt.step ?_
  simp only [spec_IsValidConstraint.j2]
  refine Evt.neg (by decide) ?_
  by_cases h5:a=5
  ·rw [if_pos h5]
   exact Evt.pos h5 (nil_ev fun _=>nil_ev fun _=>and_ev (Evt.const (spec_l9Zero_eq d e l)) fun _=>and_ev (spec_l9Coeffs_ev m hm) fun _=>last_ev (Evt.const (spec_l1In_eq _ _ _)))
  ·rw [if_neg h5]
   exact Evt.neg h5 (Evt.ret _)
 simp only [spec_IsValidConstraint.f]
 unfold valC
 by_cases h0:m.length=0
 ·exact Evt.pos (by omega) ((hj _).cast (by simp [h0]))
 ·exact Evt.neg (by omega) ((hj _).cast (by simp [h0]))
theorem impl_j1t (v:Int):Evt (fun k=>impl_IsValidConstraint.j1 k v true a b c d e l m n) (isTm b && (isTm c && (zR d e l))):=by
 refine Evt.step ?_
 simp only [impl_IsValidConstraint.j1]
 exact Evt.pos trivial (and_ev (impl_IsTerm_ev b) fun _=>and_ev (impl_IsTerm_ev c) fun _=>last_ev (Evt.const (impl_isZeroRegex_eq d e l)))
theorem impl_j2t (v:Int):Evt (fun k=>impl_IsValidConstraint.j2 k v true a b c d e l m n) (isTm b && (decide (c.size=0) && (decide (nds 6 ⟨d,e,l⟩≤16)))):=by
 refine Evt.step ?_
 simp only [impl_IsValidConstraint.j2]
 exact Evt.pos trivial (and_ev (impl_IsTerm_ev b) fun _=>nil_ev fun _=>last_ev (impl_IsValidRegex_ev ⟨d,e,l⟩))
theorem impl_j0t:Evt (fun k=>impl_IsValidConstraint.j0 k true a b c d e l m n) false:=by
 refine Evt.step ?_
 simp only [impl_IsValidConstraint.j0]
 exact Evt.pos trivial (Evt.ret _)
theorem impl_IsValidConstraint_ev (hm:m.length≤1048576):Evt (fun k=>impl_IsValidConstraint.f k a b c d e l m n) (valC a b c d e l m n):=by
 have hj:Evt (fun k=>impl_IsValidConstraint.j0 k false a b c d e l m n) (valX true a b c d e l m n):=by
  refine Evt.step ?_
  simp only [impl_IsValidConstraint.j0]
  unfold valX
  refine Evt.neg (by decide) ?_
  by_cases h1:a=1
  ·subst h1;exact Evt.pos rfl ((impl_j1t _).cast (by simp))
  refine Evt.neg h1 ?_
  by_cases h2:a=2
  ·subst h2;exact (impl_j1t _).cast (by simp)
  rw [show (a == 2)=false by simpa using h2,if_neg (by omega)]
  refine Evt.step ?_
  simp only [impl_IsValidConstraint.j1]
  refine Evt.neg (by decide) ?_
  by_cases h3:a=3
  ·subst h3;exact Evt.pos rfl ((impl_j2t _).cast (by simp))
  refine Evt.neg h3 ?_
  by_cases h4:a=4
  ·subst h4;exact (impl_j2t _).cast (by simp)
  rw [show (a == 4)=false by simpa using h4,if_neg (by omega)]
  refine Evt.step ?_
  simp only [impl_IsValidConstraint.j2]
  refine Evt.neg (by decide) ?_
  by_cases h5:a=5
  ·rw [if_pos h5]
   refine Evt.pos h5 (nil_ev fun _=>nil_ev fun _=>and_ev (Evt.const (impl_isZeroRegex_eq d e l)) fun _=>?_)
   by_cases h3':m.length=3
   ·refine Evt.pos (by omega) ?_
    rw [show ((m.length:Int) == 3)=true by simp [h3'],Bool.and_true,Bool.and_comm (cfs m)]
    exact and_ev (Evt.const (impl_within_eq _ _ _)) fun _=>Evt.bind (impl_coeffs_ev m hm) ((Evt.ret _).cast (by simp))
   ·refine Evt.neg (by omega) ((Evt.ret _).cast ?_)
    have e3:((m.length:Int) == 3)=false:=by simp;omega
    simp [e3]
  ·rw [if_neg h5]
   exact Evt.neg h5 (Evt.ret _)
 simp only [impl_IsValidConstraint.f]
 unfold valC
 have hx:∀ x,a=5→valX x a b c d e l m n=valX true a b c d e l m n:=by
  intro x h;subst h;simp [valX]
 have hy:¬ a=5→valX false a b c d e l m n=false:=by
  intro h;unfold valX;simp [h]
 by_cases h5:a=5
 ·exact Evt.pos h5 (hj.cast (hx _ h5).symm)
 refine Evt.neg h5 ?_
 by_cases h0:m.length=0
 ·refine Evt.pos (by omega) ?_
  by_cases hn:n=0
  ·rw [show (n != 0)=false by simp [hn]]
   exact hj.cast (by simp [h0,hn])
  ·rw [show (n != 0)=true by simp [hn]]
   exact impl_j0t.cast (by rw [show (n == 0)=false by simp [hn]];simp [hy h5])
 ·exact Evt.neg (by omega) (impl_j0t.cast (by simp [h0,hy h5]))
end
theorem bytesOf_strOf (s:ByteArray):strOfNums (bytesOf s)=s:=by
 apply bytesOf_inj
 unfold strOfNums bytesOf
 simp
theorem one_byte (s:ByteArray) (i:Nat) (h:i < s.size):bytesOf (s.extract i (i+1)) = [bt s (i:Int)]:=by
 have hl:i < (bytesOf s).length:=by rw [bytesOf_length];exact h
 rw [bytesOf_extract,List.drop_eq_getElem_cons hl,bt_get s i hl,show i+1 - i=1 by omega]
 rfl
theorem size_le_of (s:ByteArray):s.size=(bytesOf s).length:=(bytesOf_length s).symm
theorem strOfNums_size (l:List Int):(strOfNums l).size=l.length:=by
 unfold strOfNums
 show (List.toArray _).size=_
 simp
theorem impl_ApplyValues_eq (s x y z:ByteArray) (hs:s.size≤9223372036854775807) (hx:x.size≤1048576) (hy:y.size≤1048576) (hz:z.size≤1048576):impl_ApplyValues.f s x y z=some (replB (wordOf x y z) s):=by
 unfold impl_ApplyValues.f
 rw [if_pos ⟨hs,hx,hy,hz⟩]
theorem wordOf_var (x y z:ByteArray) {c:Int} (h0:0≤c) (h1:c≤255):(wordOf x y z c).2=isVr c:=by
 unfold wordOf
 rw [impl_isVariable_eq h0 h1]
 rfl
theorem spec_ValueOf_eq (x y z:ByteArray) (c:Int):spec_ValueOf.f x y z c=some (wordOf x y z c).1:=valueOf_some x y z c
theorem spec_ApplyValues_ev (s x y z:ByteArray) (hs:s.size≤9223372036854775807) (hx:x.size≤1048576) (hy:y.size≤1048576) (hz:z.size≤1048576):Evt (fun k=>spec_ApplyValues.f k s x y z) (replB (wordOf x y z) s):=by
 have h:∀ (d i:Nat) (acc:ByteArray),i+d=s.size→acc.size≤1048576→Evt (fun k=>spec_ApplyValues.l0 k s acc (i:Int) x y z) (strOfNums (repl (wordOf x y z) ((bytesOf s).drop i) (bytesOf acc))):=by
  intro d
  induction d with
  | zero =>
   intro i acc hi ha
   refine Evt.step ?_
   simp only [spec_ApplyValues.l0]
   refine Evt.neg (by omega) (Evt.const ?_)
   rw [List.drop_of_length_le za44]
   exact congrArg some (bytesOf_strOf acc).symm
  | succ d ih =>
   intro i acc hi ha
   have hl:i < (bytesOf s).length:=by rw [bytesOf_length];omega
   have hx1:((s.extract i (i+1)).size:Nat)=1:=by rw [size_le_of,one_byte s i (by omega)];rfl
   refine Evt.step ?_
   simp only [spec_ApplyValues.l0]
   rw [w64s (by omega),Int.toNat_natCast,Int.toNat_natCast]
   rw [List.drop_eq_getElem_cons hl,← bt_get s i hl]
   have hv:=wordOf_var x y z (bt0 s i) (bt255 s i)
   have hw:=wordOf_size x y z (bt s i) hx hy hz
   have hs2:=spec_ValueOf_eq x y z (bt s i)
   refine Evt.pos (by omega) (Evt.pos (by omega) (Evt.bindc (spec_l8Var_eq _) ?_))
   by_cases hc:isVr (bt s i)=true
   ·have e:(if (wordOf x y z (bt s (i:Int))).2=true then bytesOf (wordOf x y z (bt s (i:Int))).1 else [bt s (i:Int)])=bytesOf (wordOf x y z (bt s (i:Int))).1:=by rw [hv,if_pos hc]
    refine Evt.pos hc (Evt.bindc hs2 (Evt.pos (by omega) ?_))
    by_cases hbig:((acc ++ (wordOf x y z (bt s (i:Int))).1).size:Int) > 1048576
    ·refine Evt.pos hbig (Evt.const ?_)
     unfold repl
     simp only [e]
     rw [if_pos (by rw [← bytesOf_append,bytesOf_length];omega)]
     rfl
    ·refine Evt.neg hbig ((ih (i+1) (acc ++ (wordOf x y z (bt s (i:Int))).1) (by omega) (by omega)).cast ?_)
     rw [bytesOf_append]
     conv=>rhs;unfold repl
     simp only [e]
     rw [if_neg (by rw [← bytesOf_append,bytesOf_length];omega)]
   ·have e:(if (wordOf x y z (bt s (i:Int))).2=true then bytesOf (wordOf x y z (bt s (i:Int))).1 else [bt s (i:Int)]) = [bt s (i:Int)]:=by rw [hv,if_neg hc]
    refine Evt.neg hc (Evt.pos (by omega) (Evt.pos (by omega) (Evt.pos (by omega) ?_)))
    by_cases hbig:((acc ++ s.extract i (i+1)).size:Int) > 1048576
    ·refine Evt.pos hbig (Evt.const ?_)
     unfold repl
     simp only [e]
     rw [if_pos (by rw [← one_byte s i (by omega),← bytesOf_append,bytesOf_length];omega)]
     rfl
    ·refine Evt.neg hbig ((ih (i+1) (acc ++ s.extract i (i+1)) (by omega) (by omega)).cast ?_)
     rw [bytesOf_append,one_byte s i (by omega)]
     conv=>rhs;unfold repl
     simp only [e]
     rw [if_neg (by rw [← one_byte s i (by omega),← bytesOf_append,bytesOf_length];omega)]
 have:=h s.size 0 (⟨#[]⟩:ByteArray) (by omega) (by decide)
 rw [show bytesOf (⟨#[]⟩:ByteArray) = [] from rfl] at this
 simpa [spec_ApplyValues.f,replB] using this
theorem rx_of_nds:∀ (n m:Nat) (x:S65),n≤m→nds n x≤16→∃ t,rxOf m x=some t∧t.size=nds n x:=by
 intro n
 induction n with
 | zero=>intro m x _ h;exact absurd h (by simp [nds])
 | succ n ih =>
  intro m x hm h
  obtain ⟨m,rfl⟩:∃ m',m=m'+1:=⟨m - 1,by omega⟩
  unfold nds at h ⊢
  by_cases hk:kOk x.f0 x.f1 x.f2.length=true
  ·rw [if_pos hk] at h ⊢
   obtain ⟨a,b,l⟩:=x
   simp only at hk h ⊢
   have hlen:=kOk_len hk
   match l,hk,h,hlen with
   | [],hk,h,hlen =>
    have ha:a=1∨a=2∨a=3∨a=4:=by
     by_cases h3:a=3
     ·exact .inr (.inr (.inl h3))
     ·simp only [kOk,if_neg h3,Bool.and_eq_true,decide_eq_true_eq] at hk
      unfold arN at hlen
      simp only [List.length_nil] at hlen
      split at hlen
      ·omega
      ·split at hlen <;> omega
    rcases ha with rfl|rfl|rfl|rfl <;> exact ⟨_,rfl,rfl⟩
   | [x],hk,h,hlen =>
    simp only [List.map_cons,List.map_nil,List.sum_cons,List.sum_nil] at h ⊢
    obtain ⟨t,h1,h2⟩:=ih m x (by omega) (by omega)
    have ha:a=8∨a=9:=by
     unfold arN at hlen
     simp only [List.length_cons,List.length_nil] at hlen
     split at hlen
     ·omega
     ·split at hlen <;> omega
    rcases ha with rfl|rfl <;> refine ⟨_,by simp only [rxOf,h1];rfl,?_⟩ <;> simp only [Rx.size,h2] <;> omega
   | [x,y],hk,h,hlen =>
    simp only [List.map_cons,List.map_nil,List.sum_cons,List.sum_nil] at h ⊢
    obtain ⟨t,h1,h2⟩:=ih m x (by omega) (by omega)
    obtain ⟨u,h3,h4⟩:=ih m y (by omega) (by omega)
    have ha:a=5∨a=6∨a=7:=by
     unfold arN at hlen
     simp only [List.length_cons,List.length_nil] at hlen
     split at hlen
     ·assumption
     ·split at hlen <;> omega
    rcases ha with rfl|rfl|rfl <;> refine ⟨_,by simp only [rxOf,h1,h3];rfl,?_⟩ <;> simp only [Rx.size,h2,h4] <;> omega
   | _ :: _ :: _ :: _,hk,h,hlen =>
    have:=arN_le a
    simp only [List.length_cons] at hlen
    omega
  ·rw [if_neg hk] at h
   omega
theorem repl_le (G:Int→ByteArray × Bool) (m:Nat) (hm:1≤m) (hG:∀ c,(G c).1.size≤m):∀ (l acc:List Int),(repl G l acc).length≤acc.length+m * l.length:=by
 intro l
 induction l with
 | nil=>intro acc;exact Nat.le_refl _
 | cons c l ih =>
  intro acc
  have h1:(if (G c).2=true then bytesOf (G c).1 else [c]).length≤m:=by
   split
   ·rw [bytesOf_length];exact hG c
   ·exact hm
  unfold repl
  by_cases h2:(acc ++ (if (G c).2=true then bytesOf (G c).1 else [c])).length > 1048576
  ·rw [if_pos h2]
   exact Nat.zero_le _
  ·rw [if_neg h2]
   refine Nat.le_trans (ih _) ?_
   rw [List.length_append,List.length_cons,Nat.mul_succ]
   omega
theorem replB_le (G:Int→ByteArray × Bool) (m:Nat) (hm:1≤m) (hG:∀ c,(G c).1.size≤m) (s:ByteArray):(replB G s).size≤m * s.size:=by
 have:=repl_le G m hm hG (bytesOf s) []
 unfold replB
 rw [strOfNums_size]
 rw [bytesOf_length] at this
 simpa using this
theorem wordOf_le (x y z:ByteArray) (m:Nat) (hx:x.size≤m) (hy:y.size≤m) (hz:z.size≤m) (c:Int):(wordOf x y z c).1.size≤m:=by
 unfold wordOf impl_ValueOf.f
 repeat' split
 all_goals first|exact hx|exact hy|exact hz|exact Nat.zero_le _
theorem rxMatch_def (d:Int) (e:ByteArray) (l:List S65) (s:ByteArray) (h:nds 6 ⟨d,e,l⟩≤16) (hs:s.size≤400):∃ r,rxMatch d e l s=some r:=by
 obtain ⟨t,h1,h2⟩:=rx_of_nds 6 7 _ (by omega) h
 refine ⟨mt s t 0 s.size,?_⟩
 unfold rxMatch
 rw [if_pos hs,h1]
 show (if t.size≤16 then _ else _)=_
 rw [if_pos (by omega)]
theorem isW_size {s:ByteArray} (h:isW s=true):s.size≤30:=by
 simp only [isW,Bool.and_eq_true,decide_eq_true_eq] at h
 exact h.2
def isVs (x y z:ByteArray):Bool:=isW x && (isW y && isW z)
theorem impl_IsValues_ev (x y z:ByteArray) (hx:x.size≤9223372036854775807) (hy:y.size≤9223372036854775807) (hz:z.size≤9223372036854775807):Evt (fun k=>impl_IsValues.f k x y z) (isVs x y z) :=
 and_ev (impl_IsWord_ev x hx) fun _=>and_ev (impl_IsWord_ev y hy) fun _=>last_ev (impl_IsWord_ev z hz)
section
variable {a : Int} {b c : ByteArray} {d : Int} {e : ByteArray} {l : List S65} {m : List Int} {n : Int} {x y z : ByteArray}
theorem valC_use (h:valC a b c d e l m n=true):((a=1∨a=2)∧b.size≤12∧c.size≤12)∨((a=3∨a=4)∧b.size≤12∧nds 6 ⟨d,e,l⟩≤16)∨(a=5∧b.size≤12∧m.length=3):=by
 unfold valC valX at h
 split at h
 ·next ha =>
  simp only [isTm,Bool.and_eq_true,decide_eq_true_eq,beq_iff_eq] at h
  obtain ⟨⟨_,h1⟩,⟨_,h2⟩,_⟩:=h
  exact .inl ⟨ha,by omega,by omega⟩
 ·split at h
  ·next ha =>
   simp only [isTm,Bool.and_eq_true,decide_eq_true_eq,beq_iff_eq] at h
   obtain ⟨⟨_,h1⟩,_,h3,_⟩:=h
   exact .inr (.inl ⟨ha,by omega,h3⟩)
  ·split at h
   ·next ha =>
    simp only [Bool.and_eq_true,decide_eq_true_eq,beq_iff_eq] at h
    obtain ⟨h1,_,_,⟨_,h4⟩,_⟩:=h
    exact .inr (.inr ⟨ha,by omega,by omega⟩)
   ·cases h
theorem holds_ev (hv:valC a b c d e l m n=true) (hw:isVs x y z=true):∃ r,Evt (fun k=>spec_l9Holds.f k a b c d e l m n x y z) r∧impl_holds.f a b c d e l m n x y z=some r:=by
 simp only [isVs,Bool.and_eq_true] at hw
 have hx:=isW_size hw.1
 have hy:=isW_size hw.2.1
 have hz:=isW_size hw.2.2
 have hsz:∀ s:ByteArray,s.size≤12→(replB (wordOf x y z) s).size≤400:=fun s hs=>by
  have:=replB_le (wordOf x y z) 30 (by omega) (wordOf_le x y z 30 hx hy hz) s
  omega
 have sp:∀ s:ByteArray,s.size≤12→Evt (fun k=>spec_ApplyValues.f k s x y z) (replB (wordOf x y z) s):=fun s hs=>spec_ApplyValues_ev s x y z (by omega) (by omega) (by omega) (by omega)
 have im:∀ s:ByteArray,s.size≤12→impl_ApplyValues.f s x y z=some (replB (wordOf x y z) s):=fun s hs=>impl_ApplyValues_eq s x y z (by omega) (by omega) (by omega) (by omega)
 simp only [spec_l9Holds.f]
 unfold impl_holds.f
 rcases valC_use hv with ⟨ha,hb,hc⟩|⟨ha,hb,hn⟩|⟨ha,hb,hl⟩
 ·rcases ha with rfl|rfl
  ·exact ⟨_,Evt.bind (sp b hb) (Evt.pos rfl (Evt.bind (sp c hc) (Evt.ret _))),by rw [im b hb,im c hc];rfl⟩
  ·exact ⟨_,Evt.bind (sp b hb) (Evt.neg (by decide) (Evt.pos rfl (Evt.bind (sp c hc) (Evt.ret _)))),by rw [im b hb,im c hc];rfl⟩
 ·obtain ⟨r,hr⟩:=rxMatch_def d e l (replB (wordOf x y z) b) hn (hsz b hb)
  rcases ha with rfl|rfl
  ·exact ⟨r,Evt.bind (sp b hb) (Evt.neg (by decide) (Evt.neg (by decide) (Evt.pos rfl (Evt.bindc hr (Evt.ret _))))),by rw [im b hb,Option.bind_some,if_neg (show ¬ (3:Int)=1 by decide),if_neg (show ¬ (3:Int)=2 by decide),if_pos rfl,show impl_matches.f d e l (replB (wordOf x y z) b)=some r from hr];rfl⟩
  ·exact ⟨!r,Evt.bind (sp b hb) (Evt.neg (by decide) (Evt.neg (by decide) (Evt.neg (by decide) (Evt.pos rfl (Evt.bindc hr (Evt.ret _)))))),by rw [im b hb,Option.bind_some,if_neg (show ¬ (4:Int)=1 by decide),if_neg (show ¬ (4:Int)=2 by decide),if_neg (show ¬ (4:Int)=3 by decide),if_pos rfl,show impl_matches.f d e l (replB (wordOf x y z) b)=some r from hr];rfl⟩
 ·subst ha
  have h0:(0:Int) < (m.length:Int):=by omega
  have h1:(1:Int) < (m.length:Int):=by omega
  have h2:(2:Int) < (m.length:Int):=by omega
  have hs:spec_l9Sum.f m x y z=some (wrap64 ((wrap64 ((wrap64 ((rd m 0) * (x.size:Int)))+(wrap64 ((rd m 1) * (y.size:Int)))))+(wrap64 ((rd m 2) * (z.size:Int))))):=by
   unfold spec_l9Sum.f
   rw [if_pos h0,if_pos h1,if_pos h2]
  refine ⟨_,Evt.bind (sp b hb) (Evt.neg (by decide) (Evt.neg (by decide) (Evt.neg (by decide) (Evt.neg (by decide) (Evt.bindc hs (Evt.ret _)))))),?_⟩
  rw [im b hb,Option.bind_some,if_neg (show ¬ (5:Int)=1 by decide),if_neg (show ¬ (5:Int)=2 by decide),if_neg (show ¬ (5:Int)=3 by decide),if_neg (show ¬ (5:Int)=4 by decide),if_pos h0,if_pos h1,if_pos h2]
end
theorem csL_at (l:List S103) (i:Nat) (h:i < l.length):rd_T103 l (i:Int)=l[i]:=by simp [rd_T103,h]
theorem csI_at (l:List S67) (i:Nat) (h:i < l.length):rd_T67 l (i:Int)=l[i]:=by simp [rd_T67,h]
theorem rxL_eta (y:S101):(⟨y.f0,y.f1,y.f2⟩:S101)=y:=by cases y;rfl
def CsOk (x:S103):Prop:=x.f1.size≤9223372036854775807∧x.f2.size≤9223372036854775807∧(∃ n,RxOk n x.f3)∧x.f4.length≤9223372036854775807
def CsSm (y:S67):Prop:=Sm y.f3∧y.f4.length≤1048576∧y.f1.size≤1048576∧y.f2.size≤1048576
def CpK (x:S103) (y:S67):Prop:=CsSm y∧Evt (fun k=>laws_toConstraint.f k x.f0 x.f1 x.f2 x.f3.f0 x.f3.f1 x.f3.f2 x.f4 x.f5) (y.f0,y.f1,y.f2,y.f3.f0,y.f3.f1,y.f3.f2,y.f4,y.f5)
theorem csI_eta (y:S67):(⟨y.f0,y.f1,y.f2,(⟨y.f3.f0,y.f3.f1,y.f3.f2⟩:S65),y.f4,y.f5⟩:S67)=y:=by
 have h:=rx_eta y.f3
 rw [h]
theorem szCs_ev (x:S103) (h:CsOk x) (v:Int) (hv:0≤v) (hv':v≤1048576):∃ t,Evt (fun k=>laws_szConstraint.f k x.f0 x.f1 x.f2 x.f3.f0 x.f3.f1 x.f3.f2 x.f4 x.f5 v) t∧(t = -1∨(0≤t∧t≤v∧∃ y,CpK x y)):=by
 obtain ⟨h1,h2,⟨N,h3⟩,h4⟩:=h
 by_cases c1:v - x.f1.size < 0
 ·refine ⟨-1,?_,.inl rfl⟩
  simp only [laws_szConstraint.f]
  rw [w64_sub (by omega) (by omega) h1]
  exact Evt.pos c1 (Evt.ret _)
 by_cases c2:v - x.f1.size - x.f2.size < 0
 ·refine ⟨-1,?_,.inl rfl⟩
  simp only [laws_szConstraint.f]
  rw [w64_sub (by omega) (by omega) h1,w64_sub (by omega) (by omega) h2]
  exact Evt.neg c1 (Evt.pos c2 (Evt.ret _))
 obtain ⟨t,ht,hc⟩:=szConstraint_ev x.f0 x.f1 x.f2 x.f3.f0 x.f3.f1 x.f3.f2 x.f4 x.f5 N v hv hv' h1 h2 (by rw [rxL_eta];exact h3) h4
 refine ⟨t,ht,hc.imp id ?_⟩
 rintro ⟨g1,g2,y,y1,y2,y3⟩
 exact ⟨g1,g2,⟨x.f0,x.f1,x.f2,⟨x.f3.f0,x.f3.f1,y⟩,x.f4,x.f5⟩,⟨y1,y2,show x.f1.size≤1048576 by omega,show x.f2.size≤1048576 by omega⟩,y3⟩
theorem copiesK (l:List S103) (h:∀ x ∈ l,∃ y,CpK x y):∃ ys:List S67,ys.length=l.length∧∀ (i:Nat) (h:i < l.length) (h':i < ys.length),CpK l[i] ys[i]:=by
 induction l with
 | nil=>exact ⟨[],rfl,fun i h=>absurd h (by simp)⟩
 | cons x l ih =>
  obtain ⟨y,hy⟩:=h x (by simp)
  obtain ⟨ys,h1,h2⟩:=ih (fun z hz=>h z (by simp [hz]))
  refine ⟨y :: ys,by simp [h1],fun i hi hi' => ?_⟩
  cases i with
  | zero=>exact hy
  | succ i=>exact h2 i (by simpa using hi) (by simpa using hi')
def CpL (l:List S103) (ys:List S67):Prop:=ys.length≤1048576∧(∀ y ∈ ys,CsSm y)∧Evt (fun k=>laws_toConstraintS.f k l) ys
theorem toCsS_ev (l:List S103) (hl:l.length≤1048576) (h:∀ x ∈ l,∃ y,CpK x y):∃ ys,CpL l ys:=by
 obtain ⟨ys,e,hc⟩:=copiesK l h
 refine ⟨ys,by omega,fun y hy=>?_,?_⟩
 ·obtain ⟨i,hi,rfl⟩:=List.mem_iff_getElem.1 hy
  exact (hc i (by omega) hi).1
 ·simp only [laws_toConstraintS.f]
  refine Evt.pos (by omega) (Evt.pos (by omega) ?_)
  rw [Int.toNat_natCast]
  have hh:∀ d i:Nat,i+d=l.length→Evt (fun k=>laws_toConstraintS.l0 k l (ys.take i ++ List.replicate (l.length - i) z67) (i:Int)) ys:=by
   intro d
   induction d with
   | zero =>
    intro i hi
    refine Evt.step ?_
    simp only [laws_toConstraintS.l0]
    refine Evt.neg (by omega) ((Evt.ret _).cast ?_)
    rw [show l.length - i=0 by omega,List.take_of_length_le (by omega)]
    simp
   | succ d ih =>
    intro i hi
    have hi':i < l.length:=by omega
    refine Evt.step ?_
    simp only [laws_toConstraintS.l0]
    rw [csL_at l i hi']
    refine Evt.pos (by omega) (Evt.pos (by omega) (Evt.bind (hc i hi' (by omega)).2 (Evt.pos (by simp;omega) ?_)))
    rw [Int.toNat_natCast,w64s (by omega)]
    have hx:(ys.take i).length=i:=by rw [List.length_take];omega
    have e2:(ys.take i ++ List.replicate (l.length - i) z67).set i (ys[i]'(by omega))=ys.take (i+1) ++ List.replicate (l.length - (i+1)) z67:=by
     rw [List.set_append_right _ _ (by omega),hx,Nat.sub_self,show l.length - i=(l.length - (i+1))+1 by omega,List.replicate_succ,zu,List.take_succ_eq_append_getElem (by omega),List.append_assoc]
     rfl
    simp only [csI_eta,e2]
    exact ih (i+1) (by omega)
  simpa using hh l.length 0 (by omega)
theorem szCsS_ev (l:List S103) (hl:l.length≤9223372036854775807) (h:∀ x ∈ l,CsOk x) (v:Int) (hv:0≤v) (hv':v≤1048576):∃ t,Evt (fun k=>laws_szConstraintS.f k l v) t∧(t = -1∨(0≤t∧t≤v∧∃ ys,CpL l ys)):=by
 simp only [laws_szConstraintS.f]
 rw [w64_sub (by omega) hv' hl]
 by_cases h1:v - l.length < 0
 ·exact ⟨-1,Evt.pos h1 (Evt.ret _),.inl rfl⟩
 have hh:∀ d i:Nat,i+d=l.length→∀ b:Int,0≤b→b≤1048576→∃ t,Evt (fun k=>laws_szConstraintS.l0 k l b (i:Int)) t∧(t = -1∨(0≤t∧t≤b∧∀ x ∈ l.drop i,∃ y,CpK x y)):=by
  intro d
  induction d with
  | zero =>
   intro i hi b hb hb'
   refine ⟨b,Evt.step ?_,.inr ⟨hb,Int.le_refl _,?_⟩⟩
   ·simp only [laws_szConstraintS.l0]
    exact Evt.neg (by omega) (Evt.ret _)
   ·rw [List.drop_of_length_le (by omega)]
    intro x hx
    cases hx
  | succ d ih =>
   intro i hi b hb hb'
   have hi':i < l.length:=by omega
   obtain ⟨t,ht,hc⟩:=szCs_ev l[i] (h _ (List.getElem_mem hi')) b hb hb'
   by_cases h2:t < 0
   ·refine ⟨-1,Evt.step ?_,.inl rfl⟩
    simp only [laws_szConstraintS.l0]
    rw [csL_at l i hi']
    exact Evt.pos (by omega) (Evt.pos (by omega) (Evt.bind ht (Evt.pos h2 (Evt.ret _))))
   ·have hc':=hc.resolve_left (by omega)
    obtain ⟨t',ht',hc2⟩:=ih (i+1) (by omega) t (by omega) (by omega)
    refine ⟨t',Evt.step ?_,?_⟩
    ·simp only [laws_szConstraintS.l0]
     rw [csL_at l i hi',w64s (by omega)]
     exact Evt.pos (by omega) (Evt.pos (by omega) (Evt.bind ht (Evt.neg h2 ht')))
    ·rcases hc2 with h3|⟨h3,h4,h5⟩
     ·exact .inl h3
     ·refine .inr ⟨h3,by omega,?_⟩
      rw [List.drop_eq_getElem_cons hi']
      intro x hx
      rcases List.mem_cons.1 hx with rfl|hx
      ·exact hc'.2.2
      ·exact h5 x hx
 obtain ⟨t,ht,hc⟩:=hh l.length 0 (by omega) (v - l.length) (by omega) (by omega)
 refine ⟨t,Evt.neg h1 ht,hc.imp id ?_⟩
 rintro ⟨g1,g2,g3⟩
 exact ⟨g1,by omega,toCsS_ev l (by omega) (by simpa using g3)⟩
theorem eqCsS_ev (ys:List S67) (hl:ys.length≤1048576) (h:∀ y ∈ ys,CsSm y):Evt (fun k=>laws_eqConstraintS.f k ys ys) true:=by
 simp only [laws_eqConstraintS.f]
 refine Evt.pos trivial ?_
 have hh:=Evt.up (fun k i=>laws_eqConstraintS.l0 k ys ys i) ys.length (fun _=>true) ?_ ?_
 ·exact hh
 ·refine Evt.step ?_
  simp only [laws_eqConstraintS.l0]
  exact Evt.neg (by omega) (Evt.ret _)
 ·intro i hi ih
  refine Evt.step ?_
  simp only [laws_eqConstraintS.l0]
  rw [csI_at ys i hi,w64s (by omega)]
  obtain ⟨g1,g2,_,_⟩:=h _ (List.getElem_mem hi)
  exact Evt.pos (by omega) (Evt.pos (by omega) (Evt.pos (by omega) (Evt.bind (eqConstraint_ev _ _ _ _ _ _ _ _ (by rw [rx_eta];exact g1) g2) (Evt.pos rfl ih))))
theorem szProblem_ev (l:List S103) (hl:l.length≤9223372036854775807) (h:∀ x ∈ l,CsOk x) (v:Int) (hv:0≤v) (hv':v≤1048576):∃ t,Evt (fun k=>laws_szProblem.f k l v) t∧(t = -1∨(0≤t∧t≤v∧∃ ys,CpL l ys)):=by
 obtain ⟨t,ht,hc⟩:=szCsS_ev l hl h v hv hv'
 simp only [laws_szProblem.f]
 rcases hc with rfl|⟨h0,h1,h2⟩
 ·exact ⟨-1,Evt.bind ht (Evt.pos (by decide) (Evt.ret _)),.inl rfl⟩
 ·exact ⟨t,Evt.bind ht (Evt.neg (by omega) (Evt.ret _)),.inr ⟨h0,h1,h2⟩⟩
theorem toProblem_ev {l:List S103} {ys:List S67} (h:CpL l ys):Evt (fun k=>laws_toProblem.f k l) ys:=by
 simp only [laws_toProblem.f]
 exact Evt.bind h.2.2 (Evt.ret _)
theorem eqProblem_ev {l:List S103} {ys:List S67} (h:CpL l ys):Evt (fun k=>laws_eqProblem.f k ys ys) true:=by
 simp only [laws_eqProblem.f]
 exact Evt.bind (eqCsS_ev ys h.1 h.2.1) (Evt.pos rfl (Evt.ret _))
section
variable {a : Int} {b c : ByteArray} {d : Int} {e : ByteArray} {l : List S65} {m : List Int} {n : Int}
theorem valC_bounds (h:valC a b c d e l m n=true):m.length≤3∧b.size≤12∧c.size≤12:=by
 unfold valC valX at h
 split at h
 ·simp only [isTm,Bool.and_eq_true,decide_eq_true_eq,beq_iff_eq] at h
  obtain ⟨⟨_,h1⟩,⟨_,h2⟩,_,h4,_⟩:=h
  omega
 ·split at h
  ·simp only [isTm,Bool.and_eq_true,decide_eq_true_eq,beq_iff_eq] at h
   obtain ⟨⟨_,h1⟩,h2,_,h4,_⟩:=h
   omega
  ·split at h
   ·simp only [Bool.and_eq_true,decide_eq_true_eq,beq_iff_eq] at h
    obtain ⟨h1,h2,_,⟨_,h4⟩,_⟩:=h
    omega
   ·cases h
def catV:List Int→Nat→ByteArray→ByteArray
 | [],_,acc=>acc
 | q :: m,i,acc=>catV m (i+1) (if q=0 then acc else acc ++ (⟨#[88,89,90]⟩:ByteArray).extract ((i:Nat):Int).toNat ((i+1:Nat):Int).toNat)
def varsC (a:Int) (b c:ByteArray) (d:Int) (e:ByteArray) (l:List S65) (m:List Int) (n:Int):ByteArray :=
 if valC a b c d e l m n=true then varsB (catV m 0 (b ++ c)) else (⟨#[]⟩:ByteArray)
theorem spec_VarsOfConstraint_ev (hb:b.size≤9223372036854775807) (hc:c.size≤9223372036854775807) (hr:Sm ⟨d,e,l⟩) (hm:m.length≤1048576):Evt (fun k=>spec_VarsOfConstraint.f k a b c d e l m n) (varsC a b c d e l m n):=by
 simp only [spec_VarsOfConstraint.f]
 unfold varsC
 refine Evt.bind (spec_IsValidConstraint_ev hb hc hr hm) ?_
 cases hv:valC a b c d e l m n with
 | false=>exact Evt.neg (by decide) (Evt.ret _)
 | true =>
  obtain ⟨g1,g2,g3⟩:=valC_bounds hv
  refine Evt.pos rfl (Evt.pos (by omega) ?_)
  have hh:∀ j i:Nat,i+j=m.length→∀ acc:ByteArray,acc.size≤100+i→Evt (fun k=>spec_VarsOfConstraint.l0 k acc (i:Int) a b c d e l m n) (varsB (catV (m.drop i) i acc)):=by
   intro j
   induction j with
   | zero =>
    intro i hi acc ha
    refine Evt.step ?_
    simp only [spec_VarsOfConstraint.l0]
    rw [List.drop_of_length_le (by omega)]
    exact Evt.neg (by omega) (Evt.bind (spec_VarsOf_ev acc (by omega)) (Evt.ret _))
   | succ j ih =>
    intro i hi acc ha
    have hi':i < m.length:=by omega
    have hx:=ext_size (i:Int) (by omega) (by omega)
    refine Evt.step ?_
    simp only [spec_VarsOfConstraint.l0]
    rw [List.drop_eq_getElem_cons hi',rdI_at m i hi',w64s (by omega)]
    refine Evt.pos (by omega) (Evt.pos (by omega) ?_)
    simp only [catV]
    by_cases hq:m[i]=0
    ·rw [if_pos hq]
     exact Evt.pos hq (ih (i+1) (by omega) acc (by omega))
    ·rw [if_neg hq]
     have hs:((⟨#[88,89,90]⟩:ByteArray).extract ((i:Nat):Int).toNat ((i+1:Nat):Int).toNat).size=1:=by
      rw [show ((i+1:Nat):Int)=(i:Int)+1 by omega,hx]
     refine Evt.neg hq (Evt.pos (by omega) (Evt.pos (by omega) (Evt.pos (by rw [hs];omega) ?_)))
     exact ih (i+1) (by omega) _ (by rw [ByteArray.size_append,hs];omega)
  have:=hh m.length 0 (by omega) (b ++ c) (by rw [ByteArray.size_append];omega)
  rw [if_pos rfl]
  simpa using this
theorem impl_VarsOfConstraint_ev (hm:m.length≤1048576):Evt (fun k=>impl_VarsOfConstraint.f k a b c d e l m n) (varsC a b c d e l m n):=by
 simp only [impl_VarsOfConstraint.f]
 unfold varsC
 refine Evt.bind (impl_IsValidConstraint_ev hm) ?_
 cases hv:valC a b c d e l m n with
 | false=>exact Evt.neg (by decide) (Evt.ret _)
 | true =>
  obtain ⟨g1,g2,g3⟩:=valC_bounds hv
  refine Evt.pos rfl (Evt.pos (by omega) ?_)
  have hh:∀ j i:Nat,i+j=m.length→∀ acc:ByteArray,acc.size≤100+i→Evt (fun k=>impl_VarsOfConstraint.l0 k acc m (m.length:Int) (i:Int)) (varsB (catV (m.drop i) i acc)):=by
   intro j
   induction j with
   | zero =>
    intro i hi acc ha
    refine Evt.step ?_
    simp only [impl_VarsOfConstraint.l0]
    rw [List.drop_of_length_le (by omega)]
    exact Evt.neg (by omega) (Evt.bind (impl_VarsOf_ev acc) (Evt.ret _))
   | succ j ih =>
    intro i hi acc ha
    have hi':i < m.length:=by omega
    have hx:=ext_size (i:Int) (by omega) (by omega)
    refine Evt.step ?_
    simp only [impl_VarsOfConstraint.l0]
    rw [List.drop_eq_getElem_cons hi',rdI_at m i hi',w64s (by omega)]
    refine Evt.pos (by omega) (Evt.pos (by omega) (Evt.pos (by omega) ?_))
    simp only [catV]
    by_cases hq:m[i]=0
    ·rw [if_pos hq]
     exact Evt.pos hq (ih (i+1) (by omega) acc (by omega))
    ·rw [if_neg hq]
     have hs:((⟨#[88,89,90]⟩:ByteArray).extract ((i:Nat):Int).toNat ((i+1:Nat):Int).toNat).size=1:=by
      rw [show ((i+1:Nat):Int)=(i:Int)+1 by omega,hx]
     refine Evt.neg hq (Evt.pos (by omega) (Evt.pos (by omega) (Evt.pos (by rw [hs];omega) ?_)))
     exact ih (i+1) (by omega) _ (by rw [ByteArray.size_append,hs];omega)
  have:=hh m.length 0 (by omega) (b ++ c) (by rw [ByteArray.size_append];omega)
  rw [if_pos rfl]
  simpa using this
end
theorem vr_size (p:Int→Bool) (n:Nat):∀ (i:Int) (acc:ByteArray),0≤i→i+n=3→(vr p n i acc).size≤acc.size+n:=by
 induction n with
 | zero=>intro i acc _ _;exact Nat.le_refl _
 | succ n ih =>
  intro i acc h0 hi
  have hx:=ext_size i h0 (by omega)
  unfold vr
  split
  ·have:=ih (i+1) (acc ++ ((⟨#[88,89,90]⟩:ByteArray).extract (i:Int).toNat ((i+1):Int).toNat)) (by omega) (by omega)
   rw [ByteArray.size_append,hx] at this
   omega
  ·have:=ih (i+1) acc (by omega) (by omega)
   omega
theorem varsB_size (s:ByteArray):(varsB s).size≤3:=by
 have:=vr_size (fun c=>decide (c ∈ bytesOf s)) 3 0 (⟨#[]⟩:ByteArray) (by omega) (by omega)
 have e:(⟨#[]⟩:ByteArray).size=0:=rfl
 unfold varsB
 omega
def valK (y:S67):Bool:=valC y.f0 y.f1 y.f2 y.f3.f0 y.f3.f1 y.f3.f2 y.f4 y.f5
def varsK (y:S67):ByteArray:=varsC y.f0 y.f1 y.f2 y.f3.f0 y.f3.f1 y.f3.f2 y.f4 y.f5
def valP (ys:List S67):Bool:=ys.all valK && decide ((ys.length:Int)≤6)
theorem varsK_size (y:S67):(varsK y).size≤3:=by
 unfold varsK varsC
 split
 ·exact varsB_size _
 ·exact Nat.zero_le _
theorem spec_IsValidProblem_ev (ys:List S67) (hl:ys.length≤1048576) (h:∀ y ∈ ys,CsSm y):Evt (fun k=>spec_IsValidProblem.f k ys) (valP ys):=by
 have hh:=Evt.up (fun k i=>spec_IsValidProblem.l0 k i ys) ys.length (fun i=>(ys.drop i).all valK && decide ((ys.length:Int)≤6)) ?_ ?_
 ·simpa [spec_IsValidProblem.f,valP] using hh
 ·refine Evt.step ?_
  simp only [spec_IsValidProblem.l0]
  rw [List.drop_of_length_le (by omega)]
  exact Evt.neg (by omega) ((Evt.ret _).cast (by simp))
 ·intro i hi hn
  obtain ⟨g1,g2,g3,g4⟩:=h _ (List.getElem_mem hi)
  have hv:=spec_IsValidConstraint_ev (a:=ys[i].f0) (d:=ys[i].f3.f0) (n:=ys[i].f5) (Nat.le_trans g3 (by decide)) (Nat.le_trans g4 (by decide)) (by rw [rx_eta];exact g1) g2
  refine Evt.step ?_
  simp only [spec_IsValidProblem.l0]
  rw [csI_at ys i hi,w64s (by omega),List.drop_eq_getElem_cons hi,List.all_cons]
  refine Evt.pos (by omega) (Evt.pos (by omega) (Evt.bind hv ?_))
  change Evt (fun k=>if valK ys[i]=true then _ else _) _
  cases valK ys[i] with
  | true=>exact Evt.pos rfl (hn.cast (by simp))
  | false=>exact Evt.neg (by decide) ((Evt.ret _).cast (by simp))
theorem anyO_cons (f:S67→Option Bool) (c:S67) (l:List S67) (p q:Bool) (h:f c=some p) (h':anyO f l=some q):anyO f (c :: l)=some (p || q):=by
 unfold anyO at h' ⊢
 split at h'
 ·next ha =>
  rw [if_pos (by rw [List.all_cons,h,ha];rfl),List.any_cons,h,zi h']
  cases p <;> rfl
 ·cases h'
theorem anyO_ev {f:Nat→S67→Option Bool} {p:S67→Bool} : ∀ (l:List S67),(∀ c ∈ l,Evt (fun k=>f k c) (p c))→Evt (fun k=>anyO (f k) l) (l.any p):=by
 intro l
 induction l with
 | nil=>intro _;exact Evt.const rfl
 | cons c l ih =>
  intro h
  obtain ⟨K1,h1⟩:=h c (by simp)
  obtain ⟨K2,h2⟩:=ih fun c hc=>h c (by simp [hc])
  exact ⟨max K1 K2,fun k hk=>anyO_cons (f k) c l _ _ (h1 k (by omega)) (h2 k (by omega))⟩
theorem impl_IsValidProblem_ev (ys:List S67) (hl:ys.length≤1048576) (h:∀ y ∈ ys,CsSm y):Evt (fun k=>impl_IsValidProblem.f k ys) (valP ys):=by
 unfold impl_IsValidProblem.f valP
 by_cases h6:ys.length≤6
 ·refine Evt.pos h6 (Evt.bind (anyO_ev (p:=fun y => !valK y) ys fun y hy=>?_) ((Evt.ret _).cast ?_))
  ·obtain ⟨g1,g2,g3,g4⟩:=h y hy
   have hv:Evt (fun k=>impl_IsValidConstraint.f k y.f0 y.f1 y.f2 y.f3.f0 y.f3.f1 y.f3.f2 y.f4 y.f5) (valK y):=impl_IsValidConstraint_ev g2
   unfold notValid
   exact Evt.bind hv (Evt.ret _)
  ·rw [show decide ((ys.length:Int)≤6)=true from decide_eq_true (by omega),Bool.and_true]
   clear h hl h6
   induction ys with
   | nil=>rfl
   | cons y ys ih=>rw [List.any_cons,List.all_cons,Bool.not_or,ih,Bool.not_not]
 ·exact Evt.neg h6 ((Evt.ret _).cast (by simp;omega))
def catP:List S67→ByteArray→ByteArray
 | [],acc=>acc
 | y :: ys,acc=>catP ys (acc ++ varsK y)
def varsP (ys:List S67):ByteArray:=if valP ys=true then varsB (catP ys (⟨#[]⟩:ByteArray)) else (⟨#[]⟩:ByteArray)
theorem varsP_size (ys:List S67):(varsP ys).size≤3:=by
 unfold varsP
 split
 ·exact varsB_size _
 ·exact Nat.zero_le _
theorem varsB_nil:varsB (⟨#[]⟩:ByteArray)=(⟨#[]⟩:ByteArray):=by decide
theorem valP_len {ys:List S67} (h:valP ys=true):ys.length≤6:=by
 unfold valP at h
 simp at h
 omega
theorem impl_VarsOfProblem_ev (ys:List S67) (hl:ys.length≤1048576) (h:∀ y ∈ ys,CsSm y):Evt (fun k=>impl_VarsOfProblem.f k ys) (varsP ys):=by
 simp only [impl_VarsOfProblem.f]
 unfold varsP
 refine Evt.bind (impl_IsValidProblem_ev ys hl h) ?_
 cases hv:valP ys with
 | false=>exact Evt.neg (by decide) (Evt.ret _)
 | true =>
  have h6:=valP_len hv
  refine Evt.pos rfl ?_
  rw [if_pos rfl]
  have hh:∀ d i:Nat,i+d=ys.length→∀ acc:ByteArray,acc.size≤3 * i→Evt (fun k=>impl_VarsOfProblem.l0 k acc ys (ys.length:Int) (i:Int)) (varsB (catP (ys.drop i) acc)):=by
   intro d
   induction d with
   | zero =>
    intro i hi acc ha
    refine Evt.step ?_
    simp only [impl_VarsOfProblem.l0]
    rw [List.drop_of_length_le (by omega)]
    exact Evt.neg (by omega) (Evt.bind (impl_VarsOf_ev acc) (Evt.ret _))
   | succ d ih =>
    intro i hi acc ha
    have hi':i < ys.length:=by omega
    obtain ⟨g1,g2,g3,g4⟩:=h _ (List.getElem_mem hi')
    have hv:Evt (fun k=>impl_VarsOfConstraint.f k ys[i].f0 ys[i].f1 ys[i].f2 ys[i].f3.f0 ys[i].f3.f1 ys[i].f3.f2 ys[i].f4 ys[i].f5) (varsK ys[i]):=impl_VarsOfConstraint_ev g2
    have hs:=varsK_size ys[i]
    refine Evt.step ?_
    simp only [impl_VarsOfProblem.l0]
    rw [csI_at ys i hi',w64s (by omega),List.drop_eq_getElem_cons hi']
    exact Evt.pos (by omega) (Evt.pos (by omega) (Evt.pos (by omega) (Evt.bind hv (Evt.pos (by omega) (ih (i+1) (by omega) _ (by rw [ByteArray.size_append];omega))))))
  exact hh ys.length 0 (by omega) _ (Nat.zero_le _)
theorem spec_VarsOfProblem_ev (ys:List S67) (hl:ys.length≤1048576) (h:∀ y ∈ ys,CsSm y):Evt (fun k=>spec_VarsOfProblem.f k ys) (varsP ys):=by
 simp only [spec_VarsOfProblem.f]
 unfold varsP
 have hp:=spec_IsValidProblem_ev ys hl h
 cases hv:valP ys with
 | false =>
  refine Evt.step ?_
  simp only [spec_VarsOfProblem.l0]
  have hn:0 < ys.length:=by
   cases ys with
   | nil=>simp [valP] at hv
   | cons y ys=>simp
  rw [hv] at hp
  exact Evt.pos (by omega) (Evt.bind hp (Evt.neg (by decide) (Evt.bind (spec_VarsOf_ev _ (by decide)) ((Evt.ret _).cast varsB_nil))))
 | true =>
  have h6:=valP_len hv
  rw [hv] at hp
  rw [if_pos rfl]
  have hh:∀ d i:Nat,i+d=ys.length→∀ acc:ByteArray,acc.size≤3 * i→Evt (fun k=>spec_VarsOfProblem.l0 k acc (i:Int) ys) (varsB (catP (ys.drop i) acc)):=by
   intro d
   induction d with
   | zero =>
    intro i hi acc ha
    refine Evt.step ?_
    simp only [spec_VarsOfProblem.l0]
    rw [List.drop_of_length_le (by omega)]
    exact Evt.neg (by omega) (Evt.bind (spec_VarsOf_ev acc (by omega)) (Evt.ret _))
   | succ d ih =>
    intro i hi acc ha
    have hi':i < ys.length:=by omega
    obtain ⟨g1,g2,g3,g4⟩:=h _ (List.getElem_mem hi')
    have hv:Evt (fun k=>spec_VarsOfConstraint.f k ys[i].f0 ys[i].f1 ys[i].f2 ys[i].f3.f0 ys[i].f3.f1 ys[i].f3.f2 ys[i].f4 ys[i].f5) (varsK ys[i]):=spec_VarsOfConstraint_ev (Nat.le_trans g3 (by decide)) (Nat.le_trans g4 (by decide)) (by rw [rx_eta];exact g1) g2
    have hs:=varsK_size ys[i]
    refine Evt.step ?_
    simp only [spec_VarsOfProblem.l0]
    rw [csI_at ys i hi',w64s (by omega),List.drop_eq_getElem_cons hi']
    exact Evt.pos (by omega) (Evt.bind hp (Evt.pos rfl (Evt.pos (by omega) (Evt.bind hv (Evt.pos (by omega) (ih (i+1) (by omega) _ (by rw [ByteArray.size_append];omega)))))))
  exact hh ys.length 0 (by omega) _ (Nat.zero_le _)
def boundP (ys:List S67):Int:=if valP ys=true then (if (varsP ys).size≤1 then 5 else if (varsP ys).size=2 then 3 else 2) else -1
theorem impl_BoundOf_ev (ys:List S67) (hl:ys.length≤1048576) (h:∀ y ∈ ys,CsSm y):Evt (fun k=>impl_BoundOf.f k ys) (boundP ys):=by
 simp only [impl_BoundOf.f]
 unfold boundP
 refine Evt.bind (impl_IsValidProblem_ev ys hl h) ?_
 cases hv:valP ys with
 | false=>exact Evt.neg (by decide) (Evt.ret _)
 | true =>
  have h3:=varsP_size ys
  rw [if_pos rfl]
  refine Evt.pos rfl (Evt.bindc rfl (Evt.bind (impl_VarsOfProblem_ev ys hl h) (Evt.pos (by omega) (Evt.pos (by simp;omega) ((Evt.ret _).cast ?_)))))
  generalize (varsP ys).size=s at *
  match s,h3 with
  | 0,_=>rfl
  | 1,_=>rfl
  | 2,_=>rfl
  | 3,_=>rfl
theorem spec_BoundOf_ev (ys:List S67) (hl:ys.length≤1048576) (h:∀ y ∈ ys,CsSm y):Evt (fun k=>spec_BoundOf.f k ys) (boundP ys):=by
 simp only [spec_BoundOf.f]
 unfold boundP
 refine Evt.bind (spec_IsValidProblem_ev ys hl h) ?_
 cases hv:valP ys with
 | false=>exact Evt.neg (by decide) (Evt.ret _)
 | true =>
  have h3:=varsP_size ys
  rw [if_pos rfl]
  refine Evt.pos rfl (Evt.bind (spec_VarsOfProblem_ev ys hl h) ?_)
  have hj:∀ (s:Nat) (x:Bool),s≤3→(x=true ↔ s≤1)→Evt (fun k=>spec_BoundOf.j0 k (s:Int) x) (if s≤1 then 5 else if s=2 then 3 else 2):=by
   intro s x hs hx
   refine Evt.step ?_
   simp only [spec_BoundOf.j0]
   by_cases h1:s≤1
   ·rw [if_pos h1];exact Evt.pos (hx.2 h1) (Evt.ret _)
   ·rw [if_neg h1]
    refine Evt.neg (fun h=>h1 (hx.1 h)) ?_
    by_cases h2:s=2
    ·rw [if_pos h2];exact Evt.pos (by omega) (Evt.ret _)
    ·rw [if_neg h2];exact Evt.neg (by omega) (Evt.ret _)
  generalize (varsP ys).size=s at *
  by_cases h0:s=0
  ·subst h0;exact Evt.pos rfl (hj 0 _ (by omega) (by simp))
  ·refine Evt.neg (by omega) (hj s _ h3 ?_)
   simp;omega
def clr (vs x y z:ByteArray):ByteArray × ByteArray × ByteArray:=(if 88 ∈ bytesOf vs then x else (⟨#[]⟩:ByteArray),if 89 ∈ bytesOf vs then y else (⟨#[]⟩:ByteArray),if 90 ∈ bytesOf vs then z else (⟨#[]⟩:ByteArray))
theorem impl_cleared_ev (vs x y z:ByteArray):Evt (fun k=>impl_cleared.f k x y z vs) (clr vs x y z):=by
 simp only [impl_cleared.f]
 have h3:∀ x y z,Evt (fun k=>impl_cleared.l0 k vs 3 x y z) (x,y,z):=fun x y z=>by
  refine Evt.step ?_
  simp only [impl_cleared.l0]
  exact Evt.neg (by decide) (Evt.ret _)
 have h2:∀ x y z,Evt (fun k=>impl_cleared.l0 k vs 2 x y z) (x,y,if 90 ∈ bytesOf vs then z else (⟨#[]⟩:ByteArray)):=fun x y z=>by
  refine Evt.step ?_
  simp only [impl_cleared.l0,bt_XYZ2,w64_3]
  refine Evt.pos (by decide) (Evt.pos (by decide) (Evt.bindc rfl ?_))
  have e:=ib_nonneg vs (c:=90) (by decide) (by decide)
  by_cases hc:(90:Int) ∈ bytesOf vs
  ·rw [if_pos hc]
   exact Evt.neg (by have:=e.2 hc;omega) (h3 _ _ _)
  ·rw [if_neg hc]
   exact Evt.pos (by have:=mt e.1 hc;omega) (Evt.bindc rfl (h3 _ _ _))
 have h1:∀ x y z,Evt (fun k=>impl_cleared.l0 k vs 1 x y z) (x,if 89 ∈ bytesOf vs then y else (⟨#[]⟩:ByteArray),if 90 ∈ bytesOf vs then z else (⟨#[]⟩:ByteArray)):=fun x y z=>by
  refine Evt.step ?_
  simp only [impl_cleared.l0,bt_XYZ1,w64_2]
  refine Evt.pos (by decide) (Evt.pos (by decide) (Evt.bindc rfl ?_))
  have e:=ib_nonneg vs (c:=89) (by decide) (by decide)
  by_cases hc:(89:Int) ∈ bytesOf vs
  ·rw [if_pos hc]
   exact Evt.neg (by have:=e.2 hc;omega) (h2 _ _ _)
  ·rw [if_neg hc]
   exact Evt.pos (by have:=mt e.1 hc;omega) (Evt.bindc rfl (h2 _ _ _))
 refine Evt.step ?_
 simp only [impl_cleared.l0,bt_XYZ0,w64_1]
 refine Evt.pos (by decide) (Evt.pos (by decide) (Evt.bindc rfl ?_))
 have e:=ib_nonneg vs (c:=88) (by decide) (by decide)
 unfold clr
 by_cases hc:(88:Int) ∈ bytesOf vs
 ·rw [if_pos hc]
  exact Evt.neg (by have:=e.2 hc;omega) (h1 _ _ _)
 ·rw [if_neg hc]
  exact Evt.pos (by have:=mt e.1 hc;omega) (Evt.bindc rfl (h1 _ _ _))
def hldB (x y z:ByteArray) (c:S67):Bool:=impl_holds.f c.f0 c.f1 c.f2 c.f3.f0 c.f3.f1 c.f3.f2 c.f4 c.f5 x y z == some true
theorem Evt.same {α:Type} {g:Nat→Option α} {a b:α} (h:Evt g a) (h':Evt g b):a=b:=by
 obtain ⟨K,h⟩:=h
 obtain ⟨L,h'⟩:=h'
 exact zi ((h (max K L) (by omega)).symm.trans (h' (max K L) (by omega)))
theorem holds_use {x y z:ByteArray} (hw:isVs x y z=true) (c:S67) (hv:valK c=true):impl_holds.f c.f0 c.f1 c.f2 c.f3.f0 c.f3.f1 c.f3.f2 c.f4 c.f5 x y z=some (hldB x y z c):=by
 obtain ⟨r,_,h2⟩:=holds_ev (a:=c.f0) (b:=c.f1) (c:=c.f2) (d:=c.f3.f0) (e:=c.f3.f1) (l:=c.f3.f2) (m:=c.f4) (n:=c.f5) hv hw
 unfold hldB
 rw [h2]
 cases r <;> rfl
theorem valP_all {ys:List S67} (h:valP ys=true):∀ c ∈ ys,valK c=true:=by
 unfold valP at h
 rw [Bool.and_eq_true,List.all_eq_true] at h
 exact h.1
def mdl (ys:List S67) (x y z:ByteArray):Bool:=valP ys && (isVs x y z && (decide (clr (varsP ys) x y z=(x,y,z)) && ys.all (hldB x y z)))
theorem impl_IsModel_ev {x y z:ByteArray} (hx:x.size≤9223372036854775807) (hy:y.size≤9223372036854775807) (hz:z.size≤9223372036854775807) (ys:List S67) (hl:ys.length≤1048576) (h:∀ y ∈ ys,CsSm y):Evt (fun k=>impl_IsModel.f k ys x y z) (mdl ys x y z):=by
 unfold impl_IsModel.f mdl
 refine and_ev (impl_IsValidProblem_ev ys hl h) fun hv=>and_ev (impl_IsValues_ev x y z hx hy hz) fun hw=>Evt.bind (impl_VarsOfProblem_ev ys hl h) (Evt.bind (impl_cleared_ev _ x y z) ?_)
 by_cases hc:clr (varsP ys) x y z=(x,y,z)
 ·rw [decide_eq_true hc,Bool.true_and]
  refine Evt.pos hc (Evt.bind (anyO_ev (p:=fun c => !hldB x y z c) ys fun c hq=>?_) ((Evt.ret _).cast ?_))
  ·unfold notHolds
   exact Evt.bindc (holds_use hw c (valP_all hv c hq)) (Evt.ret _)
  ·clear hc hv h hl
   induction ys with
   | nil=>rfl
   | cons y ys ih=>rw [List.any_cons,List.all_cons,Bool.not_or,ih,Bool.not_not]
 ·rw [decide_eq_false hc,Bool.false_and]
  exact Evt.neg hc (Evt.ret _)
end Go.Proofs.YtffjfdoghofkdaaGreat.F
