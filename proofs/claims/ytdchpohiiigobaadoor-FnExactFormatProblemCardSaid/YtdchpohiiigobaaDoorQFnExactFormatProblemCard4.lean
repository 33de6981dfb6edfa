/- FnExactFormatProblemCard: what its proof needs, put together by this session's program wip/merge.py out of the texts that wip/xp.py printed and of this session's own. -/
import Derived.Test.YtdchpohiiigobaaDoorQFnExactFormatProblemCard3
import Derived.Shelf.Strings.OnBuilder
import Derived.Test.YtdchpohiiigobaaDoorProg
import Derived.Lib.Join
set_option linter.unusedVariables false
set_option linter.unusedSimpArgs false
set_option linter.unusedSectionVars false
set_option maxHeartbeats 8000000
set_option maxRecDepth 100000
namespace Go.Proofs.YtdchpohiiigobaaDoor.A
open Go.RowKit YtdchpohiiigobaaDoor.Ext YtdchpohiiigobaaDoorW.PrintWords YtdchpohiiigobaaDoorW.PrintLast YtdchpohiiigobaaDoorW.PrintMore
attribute [local go_sem] max2_int min2_int max_two min_two max_three min_three max_four min_four
def impl_regexText.f:Nat→Int→ByteArray→List (S32)→Option (ByteArray)
 | 0,_,_,_=>none
 | k+1,a0_0,a0_1,l0_2=>if a0_0=1 then (some (⟨#[48]⟩:ByteArray)) else (if a0_0=2 then (some (⟨#[49]⟩:ByteArray)) else (if a0_0=3 then (some a0_1) else (if a0_0=4 then (some (⟨#[46]⟩:ByteArray)) else (if a0_0=8 then (if 0 < (l0_2.length:Int) then ((impl_regexText.f k ((rd_T32 l0_2 0).f0) ((rd_T32 l0_2 0).f1) ((rd_T32 l0_2 0).f2)).bind fun t50003=>(if 1+t50003.size≤9223372036854775807 then (some ((⟨#[42]⟩:ByteArray) ++ t50003)) else (none))) else (none)) else (if a0_0=9 then (if 0 < (l0_2.length:Int) then ((impl_regexText.f k ((rd_T32 l0_2 0).f0) ((rd_T32 l0_2 0).f1) ((rd_T32 l0_2 0).f2)).bind fun t50005=>(if 1+t50005.size≤9223372036854775807 then (some ((⟨#[33]⟩:ByteArray) ++ t50005)) else (none))) else (none)) else (if a0_0=6 then (if 0 < (l0_2.length:Int) then ((impl_regexText.f k ((rd_T32 l0_2 0).f0) ((rd_T32 l0_2 0).f1) ((rd_T32 l0_2 0).f2)).bind fun t50007=>(if 1+t50007.size≤9223372036854775807 then (if ((⟨#[40]⟩:ByteArray) ++ t50007).size+1≤9223372036854775807 then (if 1 < (l0_2.length:Int) then ((impl_regexText.f k ((rd_T32 l0_2 1).f0) ((rd_T32 l0_2 1).f1) ((rd_T32 l0_2 1).f2)).bind fun t50009=>(if (((⟨#[40]⟩:ByteArray) ++ t50007) ++ (⟨#[124]⟩:ByteArray)).size+t50009.size≤9223372036854775807 then (if ((((⟨#[40]⟩:ByteArray) ++ t50007) ++ (⟨#[124]⟩:ByteArray)) ++ t50009).size+1≤9223372036854775807 then (some (((((⟨#[40]⟩:ByteArray) ++ t50007) ++ (⟨#[124]⟩:ByteArray)) ++ t50009) ++ (⟨#[41]⟩:ByteArray))) else (none)) else (none))) else (none)) else (none)) else (none))) else (none)) else (if a0_0=7 then (if 0 < (l0_2.length:Int) then ((impl_regexText.f k ((rd_T32 l0_2 0).f0) ((rd_T32 l0_2 0).f1) ((rd_T32 l0_2 0).f2)).bind fun t50011=>(if 1+t50011.size≤9223372036854775807 then (if ((⟨#[40]⟩:ByteArray) ++ t50011).size+1≤9223372036854775807 then (if 1 < (l0_2.length:Int) then ((impl_regexText.f k ((rd_T32 l0_2 1).f0) ((rd_T32 l0_2 1).f1) ((rd_T32 l0_2 1).f2)).bind fun t50013=>(if (((⟨#[40]⟩:ByteArray) ++ t50011) ++ (⟨#[38]⟩:ByteArray)).size+t50013.size≤9223372036854775807 then (if ((((⟨#[40]⟩:ByteArray) ++ t50011) ++ (⟨#[38]⟩:ByteArray)) ++ t50013).size+1≤9223372036854775807 then (some (((((⟨#[40]⟩:ByteArray) ++ t50011) ++ (⟨#[38]⟩:ByteArray)) ++ t50013) ++ (⟨#[41]⟩:ByteArray))) else (none)) else (none))) else (none)) else (none)) else (none))) else (none)) else (if 0 < (l0_2.length:Int) then ((impl_regexText.f k ((rd_T32 l0_2 0).f0) ((rd_T32 l0_2 0).f1) ((rd_T32 l0_2 0).f2)).bind fun t50015=>(if 1+t50015.size≤9223372036854775807 then (if ((⟨#[40]⟩:ByteArray) ++ t50015).size+0≤9223372036854775807 then (if 1 < (l0_2.length:Int) then ((impl_regexText.f k ((rd_T32 l0_2 1).f0) ((rd_T32 l0_2 1).f1) ((rd_T32 l0_2 1).f2)).bind fun t50017=>(if (((⟨#[40]⟩:ByteArray) ++ t50015) ++ (⟨#[]⟩:ByteArray)).size+t50017.size≤9223372036854775807 then (if ((((⟨#[40]⟩:ByteArray) ++ t50015) ++ (⟨#[]⟩:ByteArray)) ++ t50017).size+1≤9223372036854775807 then (some (((((⟨#[40]⟩:ByteArray) ++ t50015) ++ (⟨#[]⟩:ByteArray)) ++ t50017) ++ (⟨#[41]⟩:ByteArray))) else (none)) else (none))) else (none)) else (none)) else (none))) else (none)))))))))
theorem impl_regexText.mono_l:∀ k,(∀ y0 y1 y2,LeO (impl_regexText.f k y0 y1 y2) (impl_regexText.f (k+1) y0 y1 y2))
 | 0=>fun _ _ _ r h=>by simp [impl_regexText.f] at h
 | k+1=>by
  have ih0:=impl_regexText.mono_l k
  ·intro y0 y1 y2
   unfold impl_regexText.f
   repeat' first
   | with_reducible first|exact ih0 _ _ _|exact LeO.refl _|exact LeO.none _|refine LeO.ite ?_ ?_|refine LeO.bind ?_ (fun _=>?_)
theorem impl_regexText.mono:∀ a0 a1 a2 k,LeO (impl_regexText.f k a0 a1 a2) (impl_regexText.f (k+1) a0 a1 a2):=by
 intro a0 a1 a2 k
 have ih0:=impl_regexText.mono_l k
 exact ih0 a0 a1 a2
def impl_regexText.T20:Bool × List (List Nat × List Nat):=(true,[([],[]),([0],[0]),([1],[1]),([2],[2]),([3],[3]),([4],[4]),([],[]),([5,6],[5,6]),([],[]),([8],[8]),([9],[9]),([10],[10]),([11,4],[11]),([7,12],[7,12]),([13],[13]),([14,12,0,1,2,3,4,5,6,7,8,9,10,11,12,13,14],[14])])
def impl_regexText.B20:List Nat:=[0,1,3,7,15,31,0,127,0,256,768,1792,3871,8191,16383,32767]
theorem impl_regexText.tab20:rtab .any (opsOf Tryd.f50 20)=impl_regexText.T20:=by kernel_rfl
theorem impl_regexText.bits20:waitsOk impl_regexText.T20.2 impl_regexText.B20=true:=by kernel_rfl
theorem impl_regexText.calls (k:Nat):∀ (a0_0:Int) (a0_1:ByteArray) (A0_2:Option Addr) (c0_2:Nat) (l0_2:List (S32)) (r:ByteArray) (w:World) (hr0_2:Kd.C k32 w A0_2 l0_2.length l0_2) (hc0_2:l0_2.length≤c0_2) (h:impl_regexText.f k a0_0 a0_1 l0_2=some r),
  Calls Tryd.prog 50 #[.agg #[.int .i64 a0_0,.string a0_1,.slice A0_2 l0_2.length c0_2]] w fun e w'=>e = .returned (.string r)∧Below w.heap.size w w':=by
 induction k using Nat.strongRecOn with
 | _ k ih =>
 intro a0_0 a0_1 A0_2 c0_2 l0_2 r w hr0_2 hc0_2 h
 cases k with
 | zero=>exact absurd h (by simp [impl_regexText.f])
 | succ k =>
 simp only [impl_regexText.f] at h
 have hu32:=Tryd.underlying32
 have HR0_2:=zk hr0_2
 have HC0_2:=zk hc0_2
 clear hr0_2 hc0_2
 have HB:=zk (Below.refl w.heap.size w)
 have H:(if a0_0=1 then (some (⟨#[48]⟩:ByteArray)) else (if a0_0=2 then (some (⟨#[49]⟩:ByteArray)) else (if a0_0=3 then (some a0_1) else (if a0_0=4 then (some (⟨#[46]⟩:ByteArray)) else (if a0_0=8 then (if 0 < (l0_2.length:Int) then ((impl_regexText.f k ((rd_T32 l0_2 0).f0) ((rd_T32 l0_2 0).f1) ((rd_T32 l0_2 0).f2)).bind fun t50003=>(if 1+t50003.size≤9223372036854775807 then (some ((⟨#[42]⟩:ByteArray) ++ t50003)) else (none))) else (none)) else (if a0_0=9 then (if 0 < (l0_2.length:Int) then ((impl_regexText.f k ((rd_T32 l0_2 0).f0) ((rd_T32 l0_2 0).f1) ((rd_T32 l0_2 0).f2)).bind fun t50005=>(if 1+t50005.size≤9223372036854775807 then (some ((⟨#[33]⟩:ByteArray) ++ t50005)) else (none))) else (none)) else (if a0_0=6 then (if 0 < (l0_2.length:Int) then ((impl_regexText.f k ((rd_T32 l0_2 0).f0) ((rd_T32 l0_2 0).f1) ((rd_T32 l0_2 0).f2)).bind fun t50007=>(if 1+t50007.size≤9223372036854775807 then (if ((⟨#[40]⟩:ByteArray) ++ t50007).size+1≤9223372036854775807 then (if 1 < (l0_2.length:Int) then ((impl_regexText.f k ((rd_T32 l0_2 1).f0) ((rd_T32 l0_2 1).f1) ((rd_T32 l0_2 1).f2)).bind fun t50009=>(if (((⟨#[40]⟩:ByteArray) ++ t50007) ++ (⟨#[124]⟩:ByteArray)).size+t50009.size≤9223372036854775807 then (if ((((⟨#[40]⟩:ByteArray) ++ t50007) ++ (⟨#[124]⟩:ByteArray)) ++ t50009).size+1≤9223372036854775807 then (some (((((⟨#[40]⟩:ByteArray) ++ t50007) ++ (⟨#[124]⟩:ByteArray)) ++ t50009) ++ (⟨#[41]⟩:ByteArray))) else (none)) else (none))) else (none)) else (none)) else (none))) else (none)) else (if a0_0=7 then (if 0 < (l0_2.length:Int) then ((impl_regexText.f k ((rd_T32 l0_2 0).f0) ((rd_T32 l0_2 0).f1) ((rd_T32 l0_2 0).f2)).bind fun t50011=>(if 1+t50011.size≤9223372036854775807 then (if ((⟨#[40]⟩:ByteArray) ++ t50011).size+1≤9223372036854775807 then (if 1 < (l0_2.length:Int) then ((impl_regexText.f k ((rd_T32 l0_2 1).f0) ((rd_T32 l0_2 1).f1) ((rd_T32 l0_2 1).f2)).bind fun t50013=>(if (((⟨#[40]⟩:ByteArray) ++ t50011) ++ (⟨#[38]⟩:ByteArray)).size+t50013.size≤9223372036854775807 then (if ((((⟨#[40]⟩:ByteArray) ++ t50011) ++ (⟨#[38]⟩:ByteArray)) ++ t50013).size+1≤9223372036854775807 then (some (((((⟨#[40]⟩:ByteArray) ++ t50011) ++ (⟨#[38]⟩:ByteArray)) ++ t50013) ++ (⟨#[41]⟩:ByteArray))) else (none)) else (none))) else (none)) else (none)) else (none))) else (none)) else (if 0 < (l0_2.length:Int) then ((impl_regexText.f k ((rd_T32 l0_2 0).f0) ((rd_T32 l0_2 0).f1) ((rd_T32 l0_2 0).f2)).bind fun t50015=>(if 1+t50015.size≤9223372036854775807 then (if ((⟨#[40]⟩:ByteArray) ++ t50015).size+0≤9223372036854775807 then (if 1 < (l0_2.length:Int) then ((impl_regexText.f k ((rd_T32 l0_2 1).f0) ((rd_T32 l0_2 1).f1) ((rd_T32 l0_2 1).f2)).bind fun t50017=>(if (((⟨#[40]⟩:ByteArray) ++ t50015) ++ (⟨#[]⟩:ByteArray)).size+t50017.size≤9223372036854775807 then (if ((((⟨#[40]⟩:ByteArray) ++ t50015) ++ (⟨#[]⟩:ByteArray)) ++ t50017).size+1≤9223372036854775807 then (some (((((⟨#[40]⟩:ByteArray) ++ t50015) ++ (⟨#[]⟩:ByteArray)) ++ t50017) ++ (⟨#[41]⟩:ByteArray))) else (none)) else (none))) else (none)) else (none)) else (none))) else (none))))))))))=some r:=h
 clear h
 by_cases c2:a0_0=1
 ·rw [if_pos c2] at H
  have c2b0:(a0_0 == 1)=true:=beq_iff_eq.mpr c2
  have c2b1:(a0_0 != 1)=false:=bne_eq_false_iff_eq.mpr c2
  clear c2
  obtain rfl:=zi H
  go_enter Tryd.func50,Tryd.ntmps50
  go_wp2_with (first|((with_reducible refine gate_dst (N:=1) rfl ?_);refine zE (N:=1) (cs:=#[.int .i64 a0_0,.string a0_1,.slice A0_2 l0_2.length c0_2]) (t:=32) ?_;intro gb50001 hg w3 hbox hb;have n0_:=zk (below_step za2 hb);have n1_:=zk (hbox);have n2_:=zk (zs (w:=w) hg za2);have n3_:=zk (zs (w:=w) hg za2);clear HB;have HB:=n0_;have BK50001:=n1_;have GW50001:=n2_;have GE50001:=n3_;clear n0_ n1_ n2_ n3_;clear hb hbox hg;obtain ⟨hcz4_0,hcz4_1,hcz4_2,hfz4_0,hfz4_1,hfz4_2⟩:=blk3 BK50001.out))
  go_ret
  exact ⟨za6,za2⟩
 rw [if_neg c2] at H
 have c2b0:(a0_0 == 1)=false:=beq_eq_false_iff_ne.mpr c2
 have c2b1:(a0_0 != 1)=true:=bne_iff_ne.mpr c2
 by_cases c5:a0_0=2
 ·rw [if_pos c5] at H
  have c5b0:(a0_0 == 2)=true:=beq_iff_eq.mpr c5
  have c5b1:(a0_0 != 2)=false:=bne_eq_false_iff_eq.mpr c5
  clear c5
  obtain rfl:=zi H
  go_enter Tryd.func50,Tryd.ntmps50
  go_wp2_with (first|((with_reducible refine gate_dst (N:=1) rfl ?_);refine zE (N:=1) (cs:=#[.int .i64 a0_0,.string a0_1,.slice A0_2 l0_2.length c0_2]) (t:=32) ?_;intro gb50001 hg w6 hbox hb;have n0_:=zk (below_step za2 hb);have n1_:=zk (hbox);have n2_:=zk (zs (w:=w) hg za2);have n3_:=zk (zs (w:=w) hg za2);clear HB;have HB:=n0_;have BK50001:=n1_;have GW50001:=n2_;have GE50001:=n3_;clear n0_ n1_ n2_ n3_;clear hb hbox hg;obtain ⟨hcz7_0,hcz7_1,hcz7_2,hfz7_0,hfz7_1,hfz7_2⟩:=blk3 BK50001.out))
  go_ret
  exact ⟨za6,za2⟩
 rw [if_neg c5] at H
 have c5b0:(a0_0 == 2)=false:=beq_eq_false_iff_ne.mpr c5
 have c5b1:(a0_0 != 2)=true:=bne_iff_ne.mpr c5
 by_cases c8:a0_0=3
 ·rw [if_pos c8] at H
  have c8b0:(a0_0 == 3)=true:=beq_iff_eq.mpr c8
  have c8b1:(a0_0 != 3)=false:=bne_eq_false_iff_eq.mpr c8
  clear c8
  obtain rfl:=zi H
  go_enter Tryd.func50,Tryd.ntmps50
  go_wp2_with (first|((with_reducible refine gate_dst (N:=1) rfl ?_);refine zE (N:=1) (cs:=#[.int .i64 a0_0,.string a0_1,.slice A0_2 l0_2.length c0_2]) (t:=32) ?_;intro gb50001 hg w9 hbox hb;have n0_:=zk (below_step za2 hb);have n1_:=zk (hbox);have n2_:=zk (zs (w:=w) hg za2);have n3_:=zk (zs (w:=w) hg za2);clear HB;have HB:=n0_;have BK50001:=n1_;have GW50001:=n2_;have GE50001:=n3_;clear n0_ n1_ n2_ n3_;clear hb hbox hg;obtain ⟨hcz10_0,hcz10_1,hcz10_2,hfz10_0,hfz10_1,hfz10_2⟩:=blk3 BK50001.out))
  go_ret
  exact ⟨za6,za2⟩
 rw [if_neg c8] at H
 have c8b0:(a0_0 == 3)=false:=beq_eq_false_iff_ne.mpr c8
 have c8b1:(a0_0 != 3)=true:=bne_iff_ne.mpr c8
 by_cases c11:a0_0=4
 ·rw [if_pos c11] at H
  have c11b0:(a0_0 == 4)=true:=beq_iff_eq.mpr c11
  have c11b1:(a0_0 != 4)=false:=bne_eq_false_iff_eq.mpr c11
  clear c11
  obtain rfl:=zi H
  go_enter Tryd.func50,Tryd.ntmps50
  go_wp2_with (first|((with_reducible refine gate_dst (N:=1) rfl ?_);refine zE (N:=1) (cs:=#[.int .i64 a0_0,.string a0_1,.slice A0_2 l0_2.length c0_2]) (t:=32) ?_;intro gb50001 hg w12 hbox hb;have n0_:=zk (below_step za2 hb);have n1_:=zk (hbox);have n2_:=zk (zs (w:=w) hg za2);have n3_:=zk (zs (w:=w) hg za2);clear HB;have HB:=n0_;have BK50001:=n1_;have GW50001:=n2_;have GE50001:=n3_;clear n0_ n1_ n2_ n3_;clear hb hbox hg;obtain ⟨hcz13_0,hcz13_1,hcz13_2,hfz13_0,hfz13_1,hfz13_2⟩:=blk3 BK50001.out))
  go_ret
  exact ⟨za6,za2⟩
 rw [if_neg c11] at H
 have c11b0:(a0_0 == 4)=false:=beq_eq_false_iff_ne.mpr c11
 have c11b1:(a0_0 != 4)=true:=bne_iff_ne.mpr c11
 by_cases c14:a0_0=8
 rw [if_pos c14] at H
 have c14b0:(a0_0 == 8)=true:=beq_iff_eq.mpr c14
 have c14b1:(a0_0 != 8)=false:=bne_eq_false_iff_eq.mpr c14
 clear c14
 by_cases c15:0 < (l0_2.length:Int)
 rw [if_pos c15] at H
 have c15b0:decide (0 < (l0_2.length:Int))=true:=decide_eq_true c15
 have c15b1:decide (0 < l0_2.length)=true:=decide_eq_true (by omega)
 clear c15
 replace H:=zo H
 obtain ⟨t50003,A160,H⟩:=H
 replace H:(if 1+t50003.size≤9223372036854775807 then (some ((⟨#[42]⟩:ByteArray) ++ t50003)) else (none))=some r:=H
 have A16:=zk A160
 clear A160
 by_cases c17:1+t50003.size≤9223372036854775807
 ·rw [if_pos c17] at H
  have c17z:=c17
  try simp at c17z
  try replace c17z:=eq_false (Nat.not_lt.2 c17z)
  have c17b0:=eq_true c17
  have c17b1:decide (1+t50003.size≤9223372036854775807)=true:=decide_eq_true c17
  try have c17b2:(9223372036854775807 < 1+t50003.size)=False:=eq_false (Nat.not_lt.2 c17)
  obtain rfl:=zi H
  go_enter Tryd.func50,Tryd.ntmps50
  go_wp2_with (first|((with_reducible refine gate_dst (N:=1) rfl ?_);refine zE (N:=1) (cs:=#[.int .i64 a0_0,.string a0_1,.slice A0_2 l0_2.length c0_2]) (t:=32) ?_;intro gb50001 hg w18 hbox hb;have n0_:=zk (below_step za2 hb);have n1_:=zk (hbox);have n2_:=zk (zs (w:=w) hg za2);have n3_:=zk (zs (w:=w) hg za2);clear HB;have HB:=n0_;have BK50001:=n1_;have GW50001:=n2_;have GE50001:=n3_;clear n0_ n1_ n2_ n3_;clear hb hbox hg;obtain ⟨hcz19_0,hcz19_1,hcz19_2,hfz19_0,hfz19_1,hfz19_2⟩:=blk3 BK50001.out;have p50002:0≤(0:Int):=(by omega);have q50002:0 < (l0_2.length:Int):=of_decide_eq_true za8;obtain ⟨ad50002,A50002_2,c50002_2,e50002,hx50002_0,hx50002_1,hx50002_2,hl50002_2,hi50002_2⟩:=at_T32 HR0_2.out 0 p50002 q50002;cases e50002;have qi50002:(0 < l0_2.length)=True:=eq_true (by omega);(try rw [show ((0:Int)).toNat=0 from rfl] at hx50002_0);(try rw [show 0 * 3=0 from rfl] at hx50002_0);(try rw [Addr.add_zero'] at hx50002_0);(try rw [show ((0:Int)).toNat=0 from rfl] at hx50002_1);(try rw [show 0 * 3=0 from rfl] at hx50002_1);(try rw [Addr.add_zero'] at hx50002_1);(try rw [show ((0:Int)).toNat=0 from rfl] at hx50002_2);(try rw [show 0 * 3=0 from rfl] at hx50002_2);(try rw [Addr.add_zero'] at hx50002_2);replace hx50002_0:=zx HB.out hx50002_0;replace hx50002_1:=zx HB.out hx50002_1;replace hx50002_2:=zx HB.out hx50002_2;have HR50002_2:=zk hi50002_2;have HC50002_2:=zk hl50002_2;clear hi50002_2 hl50002_2;replace p50002:=eq_true p50002;replace q50002:=eq_true q50002)|((with_reducible refine gate_callee (f:=50) rfl ?_);refine goesL_ (some 22) rfl rfl Tryd.func50 (by kernel_rfl) rfl #[.agg #[.int .i64 ((rd_T32 l0_2 0).f0),.string ((rd_T32 l0_2 0).f1),.slice A50002_2 ((rd_T32 l0_2 0).f2).length c50002_2]] rfl za5 ?_;(with_reducible refine (ih k (by omega) ((rd_T32 l0_2 0).f0) ((rd_T32 l0_2 0).f1) _ _ ((rd_T32 l0_2 0).f2) t50003 _ ?side1 ?side2 A16.out).mono ?_);(case side1=>repeat (first|exact (Kd.C_below HR50002_2.out HB.out)|(with_reducible refine Kd.C_alloc ?_ _)|(with_reducible refine Kd.C_drewN ?_ _)|(with_reducible refine Kd.C_drew ?_)));(case side2=>exact HC50002_2.out);rintro e w20 ⟨rfl,hb⟩;refine ⟨_,rfl,?_⟩;have n0_:=zk (zb BK50001.out hb);have n1_:=zk (below_step za2 hb);clear BK50001;clear HB;have BK50001:=n0_;have HB:=n1_;clear n0_ n1_;(try clear hb);(try clear hb2);(try clear hk);(try clear hi)))
  go_ret
  exact ⟨za6,za2⟩
 ·rw [if_neg c17] at H
  exact absurd H (by simp)
 ·rw [if_neg c15] at H
  exact absurd H (by simp)
 rw [if_neg c14] at H
 have c14b0:(a0_0 == 8)=false:=beq_eq_false_iff_ne.mpr c14
 have c14b1:(a0_0 != 8)=true:=bne_iff_ne.mpr c14
 by_cases c21:a0_0=9
 rw [if_pos c21] at H
 have c21b0:(a0_0 == 9)=true:=beq_iff_eq.mpr c21
 have c21b1:(a0_0 != 9)=false:=bne_eq_false_iff_eq.mpr c21
 clear c21
 by_cases c22:0 < (l0_2.length:Int)
 rw [if_pos c22] at H
 have c22b0:decide (0 < (l0_2.length:Int))=true:=decide_eq_true c22
 have c22b1:decide (0 < l0_2.length)=true:=decide_eq_true (by omega)
 clear c22
 replace H:=zo H
 obtain ⟨t50005,A230,H⟩:=H
 replace H:(if 1+t50005.size≤9223372036854775807 then (some ((⟨#[33]⟩:ByteArray) ++ t50005)) else (none))=some r:=H
 have A23:=zk A230
 clear A230
 by_cases c24:1+t50005.size≤9223372036854775807
 ·rw [if_pos c24] at H
  have c24z:=c24
  try simp at c24z
  try replace c24z:=eq_false (Nat.not_lt.2 c24z)
  have c24b0:=eq_true c24
  have c24b1:decide (1+t50005.size≤9223372036854775807)=true:=decide_eq_true c24
  try have c24b2:(9223372036854775807 < 1+t50005.size)=False:=eq_false (Nat.not_lt.2 c24)
  obtain rfl:=zi H
  go_enter Tryd.func50,Tryd.ntmps50
  go_wp2_with (first|((with_reducible refine gate_dst (N:=1) rfl ?_);refine zE (N:=1) (cs:=#[.int .i64 a0_0,.string a0_1,.slice A0_2 l0_2.length c0_2]) (t:=32) ?_;intro gb50001 hg w25 hbox hb;have n0_:=zk (below_step za2 hb);have n1_:=zk (hbox);have n2_:=zk (zs (w:=w) hg za2);have n3_:=zk (zs (w:=w) hg za2);clear HB;have HB:=n0_;have BK50001:=n1_;have GW50001:=n2_;have GE50001:=n3_;clear n0_ n1_ n2_ n3_;clear hb hbox hg;obtain ⟨hcz26_0,hcz26_1,hcz26_2,hfz26_0,hfz26_1,hfz26_2⟩:=blk3 BK50001.out;have p50004:0≤(0:Int):=(by omega);have q50004:0 < (l0_2.length:Int):=of_decide_eq_true za8;obtain ⟨ad50004,A50004_2,c50004_2,e50004,hx50004_0,hx50004_1,hx50004_2,hl50004_2,hi50004_2⟩:=at_T32 HR0_2.out 0 p50004 q50004;cases e50004;have qi50004:(0 < l0_2.length)=True:=eq_true (by omega);(try rw [show ((0:Int)).toNat=0 from rfl] at hx50004_0);(try rw [show 0 * 3=0 from rfl] at hx50004_0);(try rw [Addr.add_zero'] at hx50004_0);(try rw [show ((0:Int)).toNat=0 from rfl] at hx50004_1);(try rw [show 0 * 3=0 from rfl] at hx50004_1);(try rw [Addr.add_zero'] at hx50004_1);(try rw [show ((0:Int)).toNat=0 from rfl] at hx50004_2);(try rw [show 0 * 3=0 from rfl] at hx50004_2);(try rw [Addr.add_zero'] at hx50004_2);replace hx50004_0:=zx HB.out hx50004_0;replace hx50004_1:=zx HB.out hx50004_1;replace hx50004_2:=zx HB.out hx50004_2;have HR50004_2:=zk hi50004_2;have HC50004_2:=zk hl50004_2;clear hi50004_2 hl50004_2;replace p50004:=eq_true p50004;replace q50004:=eq_true q50004)|((with_reducible refine gate_callee (f:=50) rfl ?_);refine goesL_ (some 30) rfl rfl Tryd.func50 (by kernel_rfl) rfl #[.agg #[.int .i64 ((rd_T32 l0_2 0).f0),.string ((rd_T32 l0_2 0).f1),.slice A50004_2 ((rd_T32 l0_2 0).f2).length c50004_2]] rfl za5 ?_;(with_reducible refine (ih k (by omega) ((rd_T32 l0_2 0).f0) ((rd_T32 l0_2 0).f1) _ _ ((rd_T32 l0_2 0).f2) t50005 _ ?side1 ?side2 A23.out).mono ?_);(case side1=>repeat (first|exact (Kd.C_below HR50004_2.out HB.out)|(with_reducible refine Kd.C_alloc ?_ _)|(with_reducible refine Kd.C_drewN ?_ _)|(with_reducible refine Kd.C_drew ?_)));(case side2=>exact HC50004_2.out);rintro e w27 ⟨rfl,hb⟩;refine ⟨_,rfl,?_⟩;have n0_:=zk (zb BK50001.out hb);have n1_:=zk (below_step za2 hb);clear BK50001;clear HB;have BK50001:=n0_;have HB:=n1_;clear n0_ n1_;(try clear hb);(try clear hb2);(try clear hk);(try clear hi)))
  go_ret
  exact ⟨za6,za2⟩
 ·rw [if_neg c24] at H
  exact absurd H (by simp)
 ·rw [if_neg c22] at H
  exact absurd H (by simp)
 rw [if_neg c21] at H
 have c21b0:(a0_0 == 9)=false:=beq_eq_false_iff_ne.mpr c21
 have c21b1:(a0_0 != 9)=true:=bne_iff_ne.mpr c21
 by_cases c28:a0_0=6
 rw [if_pos c28] at H
 have c28b0:(a0_0 == 6)=true:=beq_iff_eq.mpr c28
 have c28b1:(a0_0 != 6)=false:=bne_eq_false_iff_eq.mpr c28
 clear c28
 by_cases c29:0 < (l0_2.length:Int)
 rw [if_pos c29] at H
 have c29b0:decide (0 < (l0_2.length:Int))=true:=decide_eq_true c29
 have c29b1:decide (0 < l0_2.length)=true:=decide_eq_true (by omega)
 clear c29
 replace H:=zo H
 obtain ⟨t50007,A300,H⟩:=H
 replace H:(if 1+t50007.size≤9223372036854775807 then (if ((⟨#[40]⟩:ByteArray) ++ t50007).size+1≤9223372036854775807 then (if 1 < (l0_2.length:Int) then ((impl_regexText.f k ((rd_T32 l0_2 1).f0) ((rd_T32 l0_2 1).f1) ((rd_T32 l0_2 1).f2)).bind fun t50009=>(if (((⟨#[40]⟩:ByteArray) ++ t50007) ++ (⟨#[124]⟩:ByteArray)).size+t50009.size≤9223372036854775807 then (if ((((⟨#[40]⟩:ByteArray) ++ t50007) ++ (⟨#[124]⟩:ByteArray)) ++ t50009).size+1≤9223372036854775807 then (some (((((⟨#[40]⟩:ByteArray) ++ t50007) ++ (⟨#[124]⟩:ByteArray)) ++ t50009) ++ (⟨#[41]⟩:ByteArray))) else (none)) else (none))) else (none)) else (none)) else (none))=some r:=H
 have A30:=zk A300
 clear A300
 by_cases c31:1+t50007.size≤9223372036854775807
 rw [if_pos c31] at H
 have c31z:=c31
 try simp at c31z
 try replace c31z:=eq_false (Nat.not_lt.2 c31z)
 have c31b0:=eq_true c31
 have c31b1:decide (1+t50007.size≤9223372036854775807)=true:=decide_eq_true c31
 try have c31b2:(9223372036854775807 < 1+t50007.size)=False:=eq_false (Nat.not_lt.2 c31)
 by_cases c32:((⟨#[40]⟩:ByteArray) ++ t50007).size+1≤9223372036854775807
 rw [if_pos c32] at H
 have c32z:=c32
 try simp at c32z
 try replace c32z:=eq_false (Nat.not_lt.2 c32z)
 have c32b0:=eq_true c32
 have c32b1:decide (((⟨#[40]⟩:ByteArray) ++ t50007).size+1≤9223372036854775807)=true:=decide_eq_true c32
 try have c32y:(9223372036854775807 < 1+t50007.size+1)=False:=eq_false (by have q_:=c32;simp only [ByteArray.size_append,show (⟨#[40]⟩:ByteArray).size=1 from rfl] at q_;omega)
 try have c32b2:(9223372036854775807 < ((⟨#[40]⟩:ByteArray) ++ t50007).size+1)=False:=eq_false (Nat.not_lt.2 c32)
 by_cases c33:1 < (l0_2.length:Int)
 rw [if_pos c33] at H
 have c33b0:decide (1 < (l0_2.length:Int))=true:=decide_eq_true c33
 have c33b1:decide (1 < l0_2.length)=true:=decide_eq_true (by omega)
 clear c33
 replace H:=zo H
 obtain ⟨t50009,A340,H⟩:=H
 replace H:(if (((⟨#[40]⟩:ByteArray) ++ t50007) ++ (⟨#[124]⟩:ByteArray)).size+t50009.size≤9223372036854775807 then (if ((((⟨#[40]⟩:ByteArray) ++ t50007) ++ (⟨#[124]⟩:ByteArray)) ++ t50009).size+1≤9223372036854775807 then (some (((((⟨#[40]⟩:ByteArray) ++ t50007) ++ (⟨#[124]⟩:ByteArray)) ++ t50009) ++ (⟨#[41]⟩:ByteArray))) else (none)) else (none))=some r:=H
 have A34:=zk A340
 clear A340
 by_cases c35:(((⟨#[40]⟩:ByteArray) ++ t50007) ++ (⟨#[124]⟩:ByteArray)).size+t50009.size≤9223372036854775807
 rw [if_pos c35] at H
 have c35z:=c35
 try simp at c35z
 try replace c35z:=eq_false (Nat.not_lt.2 c35z)
 have c35b0:=eq_true c35
 have c35b1:decide ((((⟨#[40]⟩:ByteArray) ++ t50007) ++ (⟨#[124]⟩:ByteArray)).size+t50009.size≤9223372036854775807)=true:=decide_eq_true c35
 try have c35y:(9223372036854775807 < 1+t50007.size+1+t50009.size)=False:=eq_false (by have q_:=c35;simp only [ByteArray.size_append,show (⟨#[124]⟩:ByteArray).size=1 from rfl,show (⟨#[40]⟩:ByteArray).size=1 from rfl] at q_;omega)
 try have c35b2:(9223372036854775807 < (((⟨#[40]⟩:ByteArray) ++ t50007) ++ (⟨#[124]⟩:ByteArray)).size+t50009.size)=False:=eq_false (Nat.not_lt.2 c35)
 by_cases c36:((((⟨#[40]⟩:ByteArray) ++ t50007) ++ (⟨#[124]⟩:ByteArray)) ++ t50009).size+1≤9223372036854775807
 ·rw [if_pos c36] at H
  have c36z:=c36
  try simp at c36z
  try replace c36z:=eq_false (Nat.not_lt.2 c36z)
  have c36b0:=eq_true c36
  have c36b1:decide (((((⟨#[40]⟩:ByteArray) ++ t50007) ++ (⟨#[124]⟩:ByteArray)) ++ t50009).size+1≤9223372036854775807)=true:=decide_eq_true c36
  try have c36y:(9223372036854775807 < 1+t50007.size+1+t50009.size+1)=False:=eq_false (by have q_:=c36;simp only [ByteArray.size_append,show (⟨#[124]⟩:ByteArray).size=1 from rfl,show (⟨#[40]⟩:ByteArray).size=1 from rfl] at q_;omega)
  try have c36b2:(9223372036854775807 < ((((⟨#[40]⟩:ByteArray) ++ t50007) ++ (⟨#[124]⟩:ByteArray)) ++ t50009).size+1)=False:=eq_false (Nat.not_lt.2 c36)
  obtain rfl:=zi H
  go_enter Tryd.func50,Tryd.ntmps50
  try go_wp2_with (first|((with_reducible refine gate_dst (N:=1) rfl ?_);refine zE (N:=1) (cs:=#[.int .i64 a0_0,.string a0_1,.slice A0_2 l0_2.length c0_2]) (t:=32) ?_;intro gb50001 hg w37 hbox hb;have n0_:=zk (below_step za2 hb);have n1_:=zk (hbox);have n2_:=zk (zs (w:=w) hg za2);have n3_:=zk (zs (w:=w) hg za2);clear HB;have HB:=n0_;have BK50001:=n1_;have GW50001:=n2_;have GE50001:=n3_;clear n0_ n1_ n2_ n3_;clear hb hbox hg;obtain ⟨hcz38_0,hcz38_1,hcz38_2,hfz38_0,hfz38_1,hfz38_2⟩:=blk3 BK50001.out))
  have n0_:=zk (blk_drew BK50001.out)
  have n1_:=zk (below_drew1 HB.out)
  clear BK50001
  clear HB
  have BK50001:=n0_
  have HB:=n1_
  clear n0_ n1_
  have p50006:0≤(0:Int):=(by omega)
  have q50006:0 < (l0_2.length:Int):=of_decide_eq_true za8
  obtain ⟨ad50006,A50006_2,c50006_2,e50006,hx50006_0,hx50006_1,hx50006_2,hl50006_2,hi50006_2⟩:=at_T32 HR0_2.out 0 p50006 q50006
  have hw50006_2:=hx50006_2
  (try rw [show ((0:Int)).toNat=0 from rfl] at hw50006_2)
  (try rw [show 0 * 3=0 from rfl] at hw50006_2)
  (try rw [Addr.add_zero'] at hw50006_2)
  have hw50006_1:=hx50006_1
  (try rw [show ((0:Int)).toNat=0 from rfl] at hw50006_1)
  (try rw [show 0 * 3=0 from rfl] at hw50006_1)
  (try rw [Addr.add_zero'] at hw50006_1)
  have hw50006_0:=hx50006_0
  (try rw [show ((0:Int)).toNat=0 from rfl] at hw50006_0)
  (try rw [show 0 * 3=0 from rfl] at hw50006_0)
  (try rw [Addr.add_zero'] at hw50006_0)
  cases e50006
  have qi50006:(0 < l0_2.length)=True:=eq_true (by omega)
  (try rw [show ((0:Int)).toNat=0 from rfl] at hx50006_0)
  (try rw [show 0 * 3=0 from rfl] at hx50006_0)
  (try rw [Addr.add_zero'] at hx50006_0)
  (try rw [show ((0:Int)).toNat=0 from rfl] at hx50006_1)
  (try rw [show 0 * 3=0 from rfl] at hx50006_1)
  (try rw [Addr.add_zero'] at hx50006_1)
  (try rw [show ((0:Int)).toNat=0 from rfl] at hx50006_2)
  (try rw [show 0 * 3=0 from rfl] at hx50006_2)
  (try rw [Addr.add_zero'] at hx50006_2)
  replace hx50006_0:=zx HB.out hx50006_0
  replace hx50006_1:=zx HB.out hx50006_1
  replace hx50006_2:=zx HB.out hx50006_2
  have HR50006_2:=zk hi50006_2
  have HC50006_2:=zk hl50006_2
  clear hi50006_2 hl50006_2
  replace p50006:=eq_true p50006
  replace q50006:=eq_true q50006
  have p50008:0≤(1:Int):=(by omega)
  have q50008:1 < (l0_2.length:Int):=of_decide_eq_true za8
  obtain ⟨ad50008,A50008_2,c50008_2,e50008,hx50008_0,hx50008_1,hx50008_2,hl50008_2,hi50008_2⟩:=at_T32 HR0_2.out 1 p50008 q50008
  have hw50008_2:=hx50008_2
  (try rw [show ((1:Int)).toNat=1 from rfl] at hw50008_2)
  (try rw [show 1 * 3=3 from rfl] at hw50008_2)
  (try simp only [Nat.reduceMul,Nat.reduceEqDiff,Go.Addr.add,↓reduceIte] at hw50008_2)
  have hw50008_1:=hx50008_1
  (try rw [show ((1:Int)).toNat=1 from rfl] at hw50008_1)
  (try rw [show 1 * 3=3 from rfl] at hw50008_1)
  (try simp only [Nat.reduceMul,Nat.reduceEqDiff,Go.Addr.add,↓reduceIte] at hw50008_1)
  have hw50008_0:=hx50008_0
  (try rw [show ((1:Int)).toNat=1 from rfl] at hw50008_0)
  (try rw [show 1 * 3=3 from rfl] at hw50008_0)
  (try simp only [Nat.reduceMul,Nat.reduceEqDiff,Go.Addr.add,↓reduceIte] at hw50008_0)
  obtain rfl:ad50006=ad50008:=(by injection e50008)
  (try simp only [show (1:Int).toNat=1 from rfl,Nat.reduceMul,Nat.reduceEqDiff,Go.Addr.add,↓reduceIte] at hx50008_0)
  (try simp only [show (1:Int).toNat=1 from rfl,Nat.reduceMul,Nat.reduceEqDiff,Go.Addr.add,↓reduceIte] at hx50008_1)
  (try simp only [show (1:Int).toNat=1 from rfl,Nat.reduceMul,Nat.reduceEqDiff,Go.Addr.add,↓reduceIte] at hx50008_2)
  have qi50008:(1 < l0_2.length)=True:=eq_true (by omega)
  (try rw [show ((1:Int)).toNat=1 from rfl] at hx50008_0)
  (try rw [show 1 * 3=3 from rfl] at hx50008_0)
  (try rw [show ((1:Int)).toNat=1 from rfl] at hx50008_1)
  (try rw [show 1 * 3=3 from rfl] at hx50008_1)
  (try rw [show ((1:Int)).toNat=1 from rfl] at hx50008_2)
  (try rw [show 1 * 3=3 from rfl] at hx50008_2)
  replace hx50008_0:=zx HB.out hx50008_0
  replace hx50008_1:=zx HB.out hx50008_1
  replace hx50008_2:=zx HB.out hx50008_2
  have HR50008_2:=zk hi50008_2
  have HC50008_2:=zk hl50008_2
  clear hi50008_2 hl50008_2
  replace p50008:=eq_true p50008
  replace q50008:=eq_true q50008
  refine start_ (n:=16) (S:=fun w'=>w'.cell? ⟨gb50001,0,none⟩=some (.int .i64 a0_0)∧w'.cell? ⟨gb50001,1,none⟩=some (.string a0_1)∧w'.cell? ⟨gb50001,2,none⟩=some (.slice (some ad50006) l0_2.length c0_2)∧w'.cell? ad50006=some (.int .i64 ((rd_T32 l0_2 0).f0))∧w'.cell? ⟨ad50006.block,ad50006.off+1,none⟩=some (.string ((rd_T32 l0_2 0).f1))∧w'.cell? ⟨ad50006.block,ad50006.off+2,none⟩=some (.slice A50006_2 ((rd_T32 l0_2 0).f2).length c50006_2)∧w'.cell? ⟨ad50006.block,ad50006.off+3,none⟩=some (.int .i64 ((rd_T32 l0_2 1).f0))∧w'.cell? ⟨ad50006.block,ad50006.off+3+1,none⟩=some (.string ((rd_T32 l0_2 1).f1))∧w'.cell? ⟨ad50006.block,ad50006.off+3+2,none⟩=some (.slice A50008_2 ((rd_T32 l0_2 1).f2).length c50008_2)) (ds:=[]) #[false,false,false,false,false,false,false,false,false,false,false,false,false,false,false,false] (by kernel_rfl) rfl rfl ⟨(blk_cell BK50001.out 0).trans rfl,(blk_cell BK50001.out 1).trans rfl,(blk_cell BK50001.out 2).trans rfl,((HB.out.cell (World.block_lt_of_cell? w _ hw50006_0)).trans hw50006_0),((HB.out.cell (World.block_lt_of_cell? w _ hw50006_1)).trans hw50006_1),((HB.out.cell (World.block_lt_of_cell? w _ hw50006_2)).trans hw50006_2),((HB.out.cell (World.block_lt_of_cell? w _ hw50008_0)).trans hw50008_0),((HB.out.cell (World.block_lt_of_cell? w _ hw50008_1)).trans hw50008_1),((HB.out.cell (World.block_lt_of_cell? w _ hw50008_2)).trans hw50008_2)⟩ (fun hHeld=>?_);refine with_tabW impl_regexText.tab20 impl_regexText.bits20 (fun HT_ HW_=>?_)
  generalize w37.drew=w39 at BK50001 HB HR50006_2 HR50008_2 hx50006_0 hx50006_1 hx50006_2 hx50008_0 hx50008_1 hx50008_2 hHeld ⊢
  refine pure_ (i:=0) (N:=some 38) (v:=?_) (a':=?_) #[true,false,false,false,false,false,false,false,false,false,false,false,false,false,false,false] rfl rfl (any_of HT_.out (by kernel_rfl)) (fun _ _ _ h=>h) (Or.inl ⟨by rfl,?_⟩) ?_ ?_
  rotate_left
  ·intro w'
   go_simp
   exact zr1
  rotate_left
  ·simp only [Act.put,zt,zu,zv,i64_w,i32_w]
   rfl
  refine pure_ (i:=6) (N:=some 44) (v:=?_) (a':=?_) #[true,false,false,false,false,false,true,false,false,false,false,false,false,false,false,false] rfl rfl (any_of HT_.out (by kernel_rfl)) (fun _ _ _ h=>h) (Or.inl ⟨by rfl,?_⟩) ?_ ?_
  rotate_left
  ·intro w'
   go_simp
   exact zr1
  rotate_left
  ·simp only [Act.put,zt,zu,zv,i64_w,i32_w]
   rfl
  refine pure_ (i:=8) (N:=some 46) (v:=?_) (a':=?_) #[true,false,false,false,false,false,true,false,true,false,false,false,false,false,false,false] rfl rfl (any_of HT_.out (by kernel_rfl)) (fun _ _ _ h=>h) (Or.inl ⟨by rfl,?_⟩) ?_ ?_
  rotate_left
  ·intro w'
   go_simp
   exact zr1
  rotate_left
  ·simp only [Act.put,zt,zu,zv,i64_w,i32_w]
   rfl
  refine take_ (i:=1) (N:=some 39) (v:=?_) (a':=?_) #[true,true,false,false,false,false,true,false,true,false,false,false,false,false,false,false] rfl rfl (take_ofW HT_.out HW_.out (by kernel_rfl)) (fun _ _ _ h=>h) (Or.inl ⟨by rfl,?_⟩) hHeld ?_ ?_
  rotate_left
  ·rintro w' ⟨s0,s1,s2,s3,s4,s5,s6,s7,s8⟩
   go_simp
   exact zr1
  rotate_left
  ·simp only [Act.put,zt,zu,zv,i64_w,i32_w]
   rfl
  refine pure_ (i:=2) (N:=some 40) (v:=?_) (a':=?_) #[true,true,true,false,false,false,true,false,true,false,false,false,false,false,false,false] rfl rfl (any_of HT_.out (by kernel_rfl)) (fun _ _ _ h=>h) (Or.inl ⟨by rfl,?_⟩) ?_ ?_
  rotate_left
  ·intro w'
   go_simp
   exact zr1
  rotate_left
  ·simp only [Act.put,zt,zu,zv,i64_w,i32_w]
   rfl
  refine take_ (i:=3) (N:=some 41) (v:=?_) (a':=?_) #[true,true,true,true,false,false,true,false,true,false,false,false,false,false,false,false] rfl rfl (take_ofW HT_.out HW_.out (by kernel_rfl)) (fun _ _ _ h=>h) (Or.inl ⟨by rfl,?_⟩) hHeld ?_ ?_
  rotate_left
  ·rintro w' ⟨s0,s1,s2,s3,s4,s5,s6,s7,s8⟩
   go_simp
   exact zr1
  rotate_left
  ·simp only [Act.put,zt,zu,zv,i64_w,i32_w]
   rfl
  refine take_ (i:=9) (N:=some 47) (v:=?_) (a':=?_) #[true,true,true,true,false,false,true,false,true,true,false,false,false,false,false,false] rfl rfl (take_ofW HT_.out HW_.out (by kernel_rfl)) (fun _ _ _ h=>h) (Or.inl ⟨by rfl,?_⟩) hHeld ?_ ?_
  rotate_left
  ·rintro w' ⟨s0,s1,s2,s3,s4,s5,s6,s7,s8⟩
   go_simp
   exact zr1
  rotate_left
  ·simp only [Act.put,zt,zu,zv,i64_w,i32_w]
   rfl
  refine pure_ (i:=10) (N:=some 48) (v:=?_) (a':=?_) #[true,true,true,true,false,false,true,false,true,true,true,false,false,false,false,false] rfl rfl (any_of HT_.out (by kernel_rfl)) (fun _ _ _ h=>h) (Or.inl ⟨by rfl,?_⟩) ?_ ?_
  rotate_left
  ·intro w'
   go_simp
   exact zr1
  rotate_left
  ·simp only [Act.put,zt,zu,zv,i64_w,i32_w]
   rfl
  refine take_ (i:=11) (N:=some 49) (v:=?_) (a':=?_) #[true,true,true,true,false,false,true,false,true,true,true,true,false,false,false,false] rfl rfl (take_ofW HT_.out HW_.out (by kernel_rfl)) (fun _ _ _ h=>h) (Or.inl ⟨by rfl,?_⟩) hHeld ?_ ?_
  rotate_left
  ·rintro w' ⟨s0,s1,s2,s3,s4,s5,s6,s7,s8⟩
   go_simp
   exact zr1
  rotate_left
  ·simp only [Act.put,zt,zu,zv,i64_w,i32_w]
   rfl
  refine one_ (i:=4) (N:=some 42) #[true,true,true,true,true,false,true,false,true,true,true,true,false,false,false,false] rfl rfl (one_of HT_.out (by kernel_rfl)) (by decide) (fun K hK=>?_)
  refine goes_ Tryd.func50 (by kernel_rfl) rfl #[.agg #[.int .i64 ((rd_T32 l0_2 0).f0),.string ((rd_T32 l0_2 0).f1),.slice A50006_2 ((rd_T32 l0_2 0).f2).length c50006_2]] (by rfl) rfl rfl za5 ?_
  with_reducible refine (ih k (by omega) ((rd_T32 l0_2 0).f0) ((rd_T32 l0_2 0).f1) _ _ ((rd_T32 l0_2 0).f2) t50007 _ ?side1 ?side2 A30.out).mono ?_
  (case side1=>repeat (first|exact (Kd.C_below HR50006_2.out HB.out)|(with_reducible refine Kd.C_alloc ?_ _)|(with_reducible refine Kd.C_drewN ?_ _)|(with_reducible refine Kd.C_drew ?_)))
  (case side2=>exact HC50006_2.out)
  rintro e w40 ⟨rfl,hb⟩
  refine ⟨_,rfl,?_⟩
  have n0_:=zk (zb BK50001.out hb)
  have n1_:=zk (below_step za2 hb)
  clear BK50001
  clear HB
  have BK50001:=n0_
  have HB:=n1_
  clear n0_ n1_
  (try clear hb)
  (try clear hb2)
  (try clear hk)
  (try clear hi)
  refine hK.out _ _ ⟨(blk_cell BK50001.out 0).trans rfl,(blk_cell BK50001.out 1).trans rfl,(blk_cell BK50001.out 2).trans rfl,((HB.out.cell (World.block_lt_of_cell? w _ hw50006_0)).trans hw50006_0),((HB.out.cell (World.block_lt_of_cell? w _ hw50006_1)).trans hw50006_1),((HB.out.cell (World.block_lt_of_cell? w _ hw50006_2)).trans hw50006_2),((HB.out.cell (World.block_lt_of_cell? w _ hw50008_0)).trans hw50008_0),((HB.out.cell (World.block_lt_of_cell? w _ hw50008_1)).trans hw50008_1),((HB.out.cell (World.block_lt_of_cell? w _ hw50008_2)).trans hw50008_2)⟩ (fun hHeld=>?_)
  clear hK K
  refine norm_ (a':=?_) ?_ ?_
  rotate_left
  ·show Act.put _ (some 42) _=_
   simp only [Act.put,zt,zu,zv,i64_w,i32_w]
   rfl
  refine pure_ (i:=5) (N:=some 43) (v:=?_) (a':=?_) #[true,true,true,true,true,true,true,false,true,true,true,true,false,false,false,false] rfl rfl (any_of HT_.out (by kernel_rfl)) (fun _ _ _ h=>h) (Or.inl ⟨by rfl,?_⟩) ?_ ?_
  rotate_left
  ·intro w'
   go_simp
   exact zr1
  rotate_left
  ·simp only [Act.put,zt,zu,zv,i64_w,i32_w]
   rfl
  refine pure_ (i:=7) (N:=some 45) (v:=?_) (a':=?_) #[true,true,true,true,true,true,true,true,true,true,true,true,false,false,false,false] rfl rfl (any_of HT_.out (by kernel_rfl)) (fun _ _ _ h=>h) (Or.inl ⟨by rfl,?_⟩) ?_ ?_
  rotate_left
  ·intro w'
   go_simp
   exact zr1
  rotate_left
  ·simp only [Act.put,zt,zu,zv,i64_w,i32_w]
   rfl
  refine one_ (i:=12) (N:=some 50) #[true,true,true,true,true,true,true,true,true,true,true,true,true,false,false,false] rfl rfl (one_of HT_.out (by kernel_rfl)) (by decide) (fun K hK=>?_)
  refine goes_ Tryd.func50 (by kernel_rfl) rfl #[.agg #[.int .i64 ((rd_T32 l0_2 1).f0),.string ((rd_T32 l0_2 1).f1),.slice A50008_2 ((rd_T32 l0_2 1).f2).length c50008_2]] (by rfl) rfl rfl za5 ?_
  with_reducible refine (ih k (by omega) ((rd_T32 l0_2 1).f0) ((rd_T32 l0_2 1).f1) _ _ ((rd_T32 l0_2 1).f2) t50009 _ ?side1 ?side2 A34.out).mono ?_
  (case side1=>repeat (first|exact (Kd.C_below HR50008_2.out HB.out)|(with_reducible refine Kd.C_alloc ?_ _)|(with_reducible refine Kd.C_drewN ?_ _)|(with_reducible refine Kd.C_drew ?_)))
  (case side2=>exact HC50008_2.out)
  rintro e w41 ⟨rfl,hb⟩
  refine ⟨_,rfl,?_⟩
  have n0_:=zk (zb BK50001.out hb)
  have n1_:=zk (below_step za2 hb)
  clear BK50001
  clear HB
  have BK50001:=n0_
  have HB:=n1_
  clear n0_ n1_
  (try clear hb)
  (try clear hb2)
  (try clear hk)
  (try clear hi)
  refine hK.out _ _ ⟨(blk_cell BK50001.out 0).trans rfl,(blk_cell BK50001.out 1).trans rfl,(blk_cell BK50001.out 2).trans rfl,((HB.out.cell (World.block_lt_of_cell? w _ hw50006_0)).trans hw50006_0),((HB.out.cell (World.block_lt_of_cell? w _ hw50006_1)).trans hw50006_1),((HB.out.cell (World.block_lt_of_cell? w _ hw50006_2)).trans hw50006_2),((HB.out.cell (World.block_lt_of_cell? w _ hw50008_0)).trans hw50008_0),((HB.out.cell (World.block_lt_of_cell? w _ hw50008_1)).trans hw50008_1),((HB.out.cell (World.block_lt_of_cell? w _ hw50008_2)).trans hw50008_2)⟩ (fun hHeld=>?_)
  clear hK K
  refine norm_ (a':=?_) ?_ ?_
  rotate_left
  ·show Act.put _ (some 50) _=_
   simp only [Act.put,zt,zu,zv,i64_w,i32_w]
   rfl
  refine pure_ (i:=13) (N:=some 51) (v:=?_) (a':=?_) #[true,true,true,true,true,true,true,true,true,true,true,true,true,true,false,false] rfl rfl (any_of HT_.out (by kernel_rfl)) (fun _ _ _ h=>h) (Or.inl ⟨by rfl,?_⟩) ?_ ?_
  rotate_left
  ·intro w'
   go_simp
   exact zr1
  rotate_left
  ·simp only [Act.put,zt,zu,zv,i64_w,i32_w]
   rfl
  refine pure_ (i:=14) (N:=some 52) (v:=?_) (a':=?_) #[true,true,true,true,true,true,true,true,true,true,true,true,true,true,true,false] rfl rfl (any_of HT_.out (by kernel_rfl)) (fun _ _ _ h=>h) (Or.inl ⟨by rfl,?_⟩) ?_ ?_
  rotate_left
  ·intro w'
   go_simp
   exact zr1
  rotate_left
  ·simp only [Act.put,zt,zu,zv,i64_w,i32_w]
   rfl
  refine pure_ (i:=15) (N:=some 2) (v:=?_) (a':=?_) #[true,true,true,true,true,true,true,true,true,true,true,true,true,true,true,true] rfl rfl (any_of HT_.out (by kernel_rfl)) (fun _ _ _ h=>h) (Or.inl ⟨by rfl,?_⟩) ?_ ?_
  rotate_left
  ·intro w'
   go_simp
   exact zr1
  rotate_left
  ·simp only [Act.put,zt,zu,zv,i64_w,i32_w]
   rfl
  refine done_ (done_of HT_.out (by kernel_rfl)) ?_
  try go_wp2
  go_ret
  exact ⟨za6,za2⟩
 ·rw [if_neg c36] at H
  exact absurd H (by simp)
 ·rw [if_neg c35] at H
  exact absurd H (by simp)
 ·rw [if_neg c33] at H
  exact absurd H (by simp)
 ·rw [if_neg c32] at H
  exact absurd H (by simp)
 ·rw [if_neg c31] at H
  exact absurd H (by simp)
 ·rw [if_neg c29] at H
  exact absurd H (by simp)
 rw [if_neg c28] at H
 have c28b0:(a0_0 == 6)=false:=beq_eq_false_iff_ne.mpr c28
 have c28b1:(a0_0 != 6)=true:=bne_iff_ne.mpr c28
 by_cases c42:a0_0=7
 rw [if_pos c42] at H
 have c42b0:(a0_0 == 7)=true:=beq_iff_eq.mpr c42
 have c42b1:(a0_0 != 7)=false:=bne_eq_false_iff_eq.mpr c42
 clear c42
 by_cases c43:0 < (l0_2.length:Int)
 rw [if_pos c43] at H
 have c43b0:decide (0 < (l0_2.length:Int))=true:=decide_eq_true c43
 have c43b1:decide (0 < l0_2.length)=true:=decide_eq_true (by omega)
 clear c43
 replace H:=zo H
 obtain ⟨t50011,A440,H⟩:=H
 replace H:(if 1+t50011.size≤9223372036854775807 then (if ((⟨#[40]⟩:ByteArray) ++ t50011).size+1≤9223372036854775807 then (if 1 < (l0_2.length:Int) then ((impl_regexText.f k ((rd_T32 l0_2 1).f0) ((rd_T32 l0_2 1).f1) ((rd_T32 l0_2 1).f2)).bind fun t50013=>(if (((⟨#[40]⟩:ByteArray) ++ t50011) ++ (⟨#[38]⟩:ByteArray)).size+t50013.size≤9223372036854775807 then (if ((((⟨#[40]⟩:ByteArray) ++ t50011) ++ (⟨#[38]⟩:ByteArray)) ++ t50013).size+1≤9223372036854775807 then (some (((((⟨#[40]⟩:ByteArray) ++ t50011) ++ (⟨#[38]⟩:ByteArray)) ++ t50013) ++ (⟨#[41]⟩:ByteArray))) else (none)) else (none))) else (none)) else (none)) else (none))=some r:=H
 have A44:=zk A440
 clear A440
 by_cases c45:1+t50011.size≤9223372036854775807
 rw [if_pos c45] at H
 have c45z:=c45
 try simp at c45z
 try replace c45z:=eq_false (Nat.not_lt.2 c45z)
 have c45b0:=eq_true c45
 have c45b1:decide (1+t50011.size≤9223372036854775807)=true:=decide_eq_true c45
 try have c45b2:(9223372036854775807 < 1+t50011.size)=False:=eq_false (Nat.not_lt.2 c45)
 by_cases c46:((⟨#[40]⟩:ByteArray) ++ t50011).size+1≤9223372036854775807
 rw [if_pos c46] at H
 have c46z:=c46
 try simp at c46z
 try replace c46z:=eq_false (Nat.not_lt.2 c46z)
 have c46b0:=eq_true c46
 have c46b1:decide (((⟨#[40]⟩:ByteArray) ++ t50011).size+1≤9223372036854775807)=true:=decide_eq_true c46
 try have c46y:(9223372036854775807 < 1+t50011.size+1)=False:=eq_false (by have q_:=c46;simp only [ByteArray.size_append,show (⟨#[40]⟩:ByteArray).size=1 from rfl] at q_;omega)
 try have c46b2:(9223372036854775807 < ((⟨#[40]⟩:ByteArray) ++ t50011).size+1)=False:=eq_false (Nat.not_lt.2 c46)
 by_cases c47:1 < (l0_2.length:Int)
 rw [if_pos c47] at H
 have c47b0:decide (1 < (l0_2.length:Int))=true:=decide_eq_true c47
 have c47b1:decide (1 < l0_2.length)=true:=decide_eq_true (by omega)
 clear c47
 replace H:=zo H
 obtain ⟨t50013,A480,H⟩:=H
 replace H:(if (((⟨#[40]⟩:ByteArray) ++ t50011) ++ (⟨#[38]⟩:ByteArray)).size+t50013.size≤9223372036854775807 then (if ((((⟨#[40]⟩:ByteArray) ++ t50011) ++ (⟨#[38]⟩:ByteArray)) ++ t50013).size+1≤9223372036854775807 then (some (((((⟨#[40]⟩:ByteArray) ++ t50011) ++ (⟨#[38]⟩:ByteArray)) ++ t50013) ++ (⟨#[41]⟩:ByteArray))) else (none)) else (none))=some r:=H
 have A48:=zk A480
 clear A480
 by_cases c49:(((⟨#[40]⟩:ByteArray) ++ t50011) ++ (⟨#[38]⟩:ByteArray)).size+t50013.size≤9223372036854775807
 rw [if_pos c49] at H
 have c49z:=c49
 try simp at c49z
 try replace c49z:=eq_false (Nat.not_lt.2 c49z)
 have c49b0:=eq_true c49
 have c49b1:decide ((((⟨#[40]⟩:ByteArray) ++ t50011) ++ (⟨#[38]⟩:ByteArray)).size+t50013.size≤9223372036854775807)=true:=decide_eq_true c49
 try have c49y:(9223372036854775807 < 1+t50011.size+1+t50013.size)=False:=eq_false (by have q_:=c49;simp only [ByteArray.size_append,show (⟨#[38]⟩:ByteArray).size=1 from rfl,show (⟨#[40]⟩:ByteArray).size=1 from rfl] at q_;omega)
 try have c49b2:(9223372036854775807 < (((⟨#[40]⟩:ByteArray) ++ t50011) ++ (⟨#[38]⟩:ByteArray)).size+t50013.size)=False:=eq_false (Nat.not_lt.2 c49)
 by_cases c50:((((⟨#[40]⟩:ByteArray) ++ t50011) ++ (⟨#[38]⟩:ByteArray)) ++ t50013).size+1≤9223372036854775807
 ·rw [if_pos c50] at H
  have c50z:=c50
  try simp at c50z
  try replace c50z:=eq_false (Nat.not_lt.2 c50z)
  have c50b0:=eq_true c50
  have c50b1:decide (((((⟨#[40]⟩:ByteArray) ++ t50011) ++ (⟨#[38]⟩:ByteArray)) ++ t50013).size+1≤9223372036854775807)=true:=decide_eq_true c50
  try have c50y:(9223372036854775807 < 1+t50011.size+1+t50013.size+1)=False:=eq_false (by have q_:=c50;simp only [ByteArray.size_append,show (⟨#[38]⟩:ByteArray).size=1 from rfl,show (⟨#[40]⟩:ByteArray).size=1 from rfl] at q_;omega)
  try have c50b2:(9223372036854775807 < ((((⟨#[40]⟩:ByteArray) ++ t50011) ++ (⟨#[38]⟩:ByteArray)) ++ t50013).size+1)=False:=eq_false (Nat.not_lt.2 c50)
  obtain rfl:=zi H
  go_enter Tryd.func50,Tryd.ntmps50
  try go_wp2_with (first|((with_reducible refine gate_dst (N:=1) rfl ?_);refine zE (N:=1) (cs:=#[.int .i64 a0_0,.string a0_1,.slice A0_2 l0_2.length c0_2]) (t:=32) ?_;intro gb50001 hg w51 hbox hb;have n0_:=zk (below_step za2 hb);have n1_:=zk (hbox);have n2_:=zk (zs (w:=w) hg za2);have n3_:=zk (zs (w:=w) hg za2);clear HB;have HB:=n0_;have BK50001:=n1_;have GW50001:=n2_;have GE50001:=n3_;clear n0_ n1_ n2_ n3_;clear hb hbox hg;obtain ⟨hcz52_0,hcz52_1,hcz52_2,hfz52_0,hfz52_1,hfz52_2⟩:=blk3 BK50001.out))
  have n0_:=zk (blk_drew BK50001.out)
  have n1_:=zk (below_drew1 HB.out)
  clear BK50001
  clear HB
  have BK50001:=n0_
  have HB:=n1_
  clear n0_ n1_
  have p50010:0≤(0:Int):=(by omega)
  have q50010:0 < (l0_2.length:Int):=of_decide_eq_true za8
  obtain ⟨ad50010,A50010_2,c50010_2,e50010,hx50010_0,hx50010_1,hx50010_2,hl50010_2,hi50010_2⟩:=at_T32 HR0_2.out 0 p50010 q50010
  have hw50010_2:=hx50010_2
  (try rw [show ((0:Int)).toNat=0 from rfl] at hw50010_2)
  (try rw [show 0 * 3=0 from rfl] at hw50010_2)
  (try rw [Addr.add_zero'] at hw50010_2)
  have hw50010_1:=hx50010_1
  (try rw [show ((0:Int)).toNat=0 from rfl] at hw50010_1)
  (try rw [show 0 * 3=0 from rfl] at hw50010_1)
  (try rw [Addr.add_zero'] at hw50010_1)
  have hw50010_0:=hx50010_0
  (try rw [show ((0:Int)).toNat=0 from rfl] at hw50010_0)
  (try rw [show 0 * 3=0 from rfl] at hw50010_0)
  (try rw [Addr.add_zero'] at hw50010_0)
  cases e50010
  have qi50010:(0 < l0_2.length)=True:=eq_true (by omega)
  (try rw [show ((0:Int)).toNat=0 from rfl] at hx50010_0)
  (try rw [show 0 * 3=0 from rfl] at hx50010_0)
  (try rw [Addr.add_zero'] at hx50010_0)
  (try rw [show ((0:Int)).toNat=0 from rfl] at hx50010_1)
  (try rw [show 0 * 3=0 from rfl] at hx50010_1)
  (try rw [Addr.add_zero'] at hx50010_1)
  (try rw [show ((0:Int)).toNat=0 from rfl] at hx50010_2)
  (try rw [show 0 * 3=0 from rfl] at hx50010_2)
  (try rw [Addr.add_zero'] at hx50010_2)
  replace hx50010_0:=zx HB.out hx50010_0
  replace hx50010_1:=zx HB.out hx50010_1
  replace hx50010_2:=zx HB.out hx50010_2
  have HR50010_2:=zk hi50010_2
  have HC50010_2:=zk hl50010_2
  clear hi50010_2 hl50010_2
  replace p50010:=eq_true p50010
  replace q50010:=eq_true q50010
  have p50012:0≤(1:Int):=(by omega)
  have q50012:1 < (l0_2.length:Int):=of_decide_eq_true za8
  obtain ⟨ad50012,A50012_2,c50012_2,e50012,hx50012_0,hx50012_1,hx50012_2,hl50012_2,hi50012_2⟩:=at_T32 HR0_2.out 1 p50012 q50012
  have hw50012_2:=hx50012_2
  (try rw [show ((1:Int)).toNat=1 from rfl] at hw50012_2)
  (try rw [show 1 * 3=3 from rfl] at hw50012_2)
  (try simp only [Nat.reduceMul,Nat.reduceEqDiff,Go.Addr.add,↓reduceIte] at hw50012_2)
  have hw50012_1:=hx50012_1
  (try rw [show ((1:Int)).toNat=1 from rfl] at hw50012_1)
  (try rw [show 1 * 3=3 from rfl] at hw50012_1)
  (try simp only [Nat.reduceMul,Nat.reduceEqDiff,Go.Addr.add,↓reduceIte] at hw50012_1)
  have hw50012_0:=hx50012_0
  (try rw [show ((1:Int)).toNat=1 from rfl] at hw50012_0)
  (try rw [show 1 * 3=3 from rfl] at hw50012_0)
  (try simp only [Nat.reduceMul,Nat.reduceEqDiff,Go.Addr.add,↓reduceIte] at hw50012_0)
  obtain rfl:ad50010=ad50012:=(by injection e50012)
  (try simp only [show (1:Int).toNat=1 from rfl,Nat.reduceMul,Nat.reduceEqDiff,Go.Addr.add,↓reduceIte] at hx50012_0)
  (try simp only [show (1:Int).toNat=1 from rfl,Nat.reduceMul,Nat.reduceEqDiff,Go.Addr.add,↓reduceIte] at hx50012_1)
  (try simp only [show (1:Int).toNat=1 from rfl,Nat.reduceMul,Nat.reduceEqDiff,Go.Addr.add,↓reduceIte] at hx50012_2)
  have qi50012:(1 < l0_2.length)=True:=eq_true (by omega)
  (try rw [show ((1:Int)).toNat=1 from rfl] at hx50012_0)
  (try rw [show 1 * 3=3 from rfl] at hx50012_0)
  (try rw [show ((1:Int)).toNat=1 from rfl] at hx50012_1)
  (try rw [show 1 * 3=3 from rfl] at hx50012_1)
  (try rw [show ((1:Int)).toNat=1 from rfl] at hx50012_2)
  (try rw [show 1 * 3=3 from rfl] at hx50012_2)
  replace hx50012_0:=zx HB.out hx50012_0
  replace hx50012_1:=zx HB.out hx50012_1
  replace hx50012_2:=zx HB.out hx50012_2
  have HR50012_2:=zk hi50012_2
  have HC50012_2:=zk hl50012_2
  clear hi50012_2 hl50012_2
  replace p50012:=eq_true p50012
  replace q50012:=eq_true q50012
  refine start_ (n:=16) (S:=fun w'=>w'.cell? ⟨gb50001,0,none⟩=some (.int .i64 a0_0)∧w'.cell? ⟨gb50001,1,none⟩=some (.string a0_1)∧w'.cell? ⟨gb50001,2,none⟩=some (.slice (some ad50010) l0_2.length c0_2)∧w'.cell? ad50010=some (.int .i64 ((rd_T32 l0_2 0).f0))∧w'.cell? ⟨ad50010.block,ad50010.off+1,none⟩=some (.string ((rd_T32 l0_2 0).f1))∧w'.cell? ⟨ad50010.block,ad50010.off+2,none⟩=some (.slice A50010_2 ((rd_T32 l0_2 0).f2).length c50010_2)∧w'.cell? ⟨ad50010.block,ad50010.off+3,none⟩=some (.int .i64 ((rd_T32 l0_2 1).f0))∧w'.cell? ⟨ad50010.block,ad50010.off+3+1,none⟩=some (.string ((rd_T32 l0_2 1).f1))∧w'.cell? ⟨ad50010.block,ad50010.off+3+2,none⟩=some (.slice A50012_2 ((rd_T32 l0_2 1).f2).length c50012_2)) (ds:=[]) #[false,false,false,false,false,false,false,false,false,false,false,false,false,false,false,false] (by kernel_rfl) rfl rfl ⟨(blk_cell BK50001.out 0).trans rfl,(blk_cell BK50001.out 1).trans rfl,(blk_cell BK50001.out 2).trans rfl,((HB.out.cell (World.block_lt_of_cell? w _ hw50010_0)).trans hw50010_0),((HB.out.cell (World.block_lt_of_cell? w _ hw50010_1)).trans hw50010_1),((HB.out.cell (World.block_lt_of_cell? w _ hw50010_2)).trans hw50010_2),((HB.out.cell (World.block_lt_of_cell? w _ hw50012_0)).trans hw50012_0),((HB.out.cell (World.block_lt_of_cell? w _ hw50012_1)).trans hw50012_1),((HB.out.cell (World.block_lt_of_cell? w _ hw50012_2)).trans hw50012_2)⟩ (fun hHeld=>?_);refine with_tabW impl_regexText.tab20 impl_regexText.bits20 (fun HT_ HW_=>?_)
  generalize w51.drew=w53 at BK50001 HB HR50010_2 HR50012_2 hx50010_0 hx50010_1 hx50010_2 hx50012_0 hx50012_1 hx50012_2 hHeld ⊢
  refine pure_ (i:=0) (N:=some 38) (v:=?_) (a':=?_) #[true,false,false,false,false,false,false,false,false,false,false,false,false,false,false,false] rfl rfl (any_of HT_.out (by kernel_rfl)) (fun _ _ _ h=>h) (Or.inl ⟨by rfl,?_⟩) ?_ ?_
  rotate_left
  ·intro w'
   go_simp
   exact zr1
  rotate_left
  ·simp only [Act.put,zt,zu,zv,i64_w,i32_w]
   rfl
  refine pure_ (i:=6) (N:=some 44) (v:=?_) (a':=?_) #[true,false,false,false,false,false,true,false,false,false,false,false,false,false,false,false] rfl rfl (any_of HT_.out (by kernel_rfl)) (fun _ _ _ h=>h) (Or.inl ⟨by rfl,?_⟩) ?_ ?_
  rotate_left
  ·intro w'
   go_simp
   exact zr1
  rotate_left
  ·simp only [Act.put,zt,zu,zv,i64_w,i32_w]
   rfl
  refine pure_ (i:=8) (N:=some 46) (v:=?_) (a':=?_) #[true,false,false,false,false,false,true,false,true,false,false,false,false,false,false,false] rfl rfl (any_of HT_.out (by kernel_rfl)) (fun _ _ _ h=>h) (Or.inl ⟨by rfl,?_⟩) ?_ ?_
  rotate_left
  ·intro w'
   go_simp
   exact zr1
  rotate_left
  ·simp only [Act.put,zt,zu,zv,i64_w,i32_w]
   rfl
  refine take_ (i:=1) (N:=some 39) (v:=?_) (a':=?_) #[true,true,false,false,false,false,true,false,true,false,false,false,false,false,false,false] rfl rfl (take_ofW HT_.out HW_.out (by kernel_rfl)) (fun _ _ _ h=>h) (Or.inl ⟨by rfl,?_⟩) hHeld ?_ ?_
  rotate_left
  ·rintro w' ⟨s0,s1,s2,s3,s4,s5,s6,s7,s8⟩
   go_simp
   exact zr1
  rotate_left
  ·simp only [Act.put,zt,zu,zv,i64_w,i32_w]
   rfl
  refine pure_ (i:=2) (N:=some 40) (v:=?_) (a':=?_) #[true,true,true,false,false,false,true,false,true,false,false,false,false,false,false,false] rfl rfl (any_of HT_.out (by kernel_rfl)) (fun _ _ _ h=>h) (Or.inl ⟨by rfl,?_⟩) ?_ ?_
  rotate_left
  ·intro w'
   go_simp
   exact zr1
  rotate_left
  ·simp only [Act.put,zt,zu,zv,i64_w,i32_w]
   rfl
  refine take_ (i:=3) (N:=some 41) (v:=?_) (a':=?_) #[true,true,true,true,false,false,true,false,true,false,false,false,false,false,false,false] rfl rfl (take_ofW HT_.out HW_.out (by kernel_rfl)) (fun _ _ _ h=>h) (Or.inl ⟨by rfl,?_⟩) hHeld ?_ ?_
  rotate_left
  ·rintro w' ⟨s0,s1,s2,s3,s4,s5,s6,s7,s8⟩
   go_simp
   exact zr1
  rotate_left
  ·simp only [Act.put,zt,zu,zv,i64_w,i32_w]
   rfl
  refine take_ (i:=9) (N:=some 47) (v:=?_) (a':=?_) #[true,true,true,true,false,false,true,false,true,true,false,false,false,false,false,false] rfl rfl (take_ofW HT_.out HW_.out (by kernel_rfl)) (fun _ _ _ h=>h) (Or.inl ⟨by rfl,?_⟩) hHeld ?_ ?_
  rotate_left
  ·rintro w' ⟨s0,s1,s2,s3,s4,s5,s6,s7,s8⟩
   go_simp
   exact zr1
  rotate_left
  ·simp only [Act.put,zt,zu,zv,i64_w,i32_w]
   rfl
  refine pure_ (i:=10) (N:=some 48) (v:=?_) (a':=?_) #[true,true,true,true,false,false,true,false,true,true,true,false,false,false,false,false] rfl rfl (any_of HT_.out (by kernel_rfl)) (fun _ _ _ h=>h) (Or.inl ⟨by rfl,?_⟩) ?_ ?_
  rotate_left
  ·intro w'
   go_simp
   exact zr1
  rotate_left
  ·simp only [Act.put,zt,zu,zv,i64_w,i32_w]
   rfl
  refine take_ (i:=11) (N:=some 49) (v:=?_) (a':=?_) #[true,true,true,true,false,false,true,false,true,true,true,true,false,false,false,false] rfl rfl (take_ofW HT_.out HW_.out (by kernel_rfl)) (fun _ _ _ h=>h) (Or.inl ⟨by rfl,?_⟩) hHeld ?_ ?_
  rotate_left
  ·rintro w' ⟨s0,s1,s2,s3,s4,s5,s6,s7,s8⟩
   go_simp
   exact zr1
  rotate_left
  ·simp only [Act.put,zt,zu,zv,i64_w,i32_w]
   rfl
  refine one_ (i:=4) (N:=some 42) #[true,true,true,true,true,false,true,false,true,true,true,true,false,false,false,false] rfl rfl (one_of HT_.out (by kernel_rfl)) (by decide) (fun K hK=>?_)
  refine goes_ Tryd.func50 (by kernel_rfl) rfl #[.agg #[.int .i64 ((rd_T32 l0_2 0).f0),.string ((rd_T32 l0_2 0).f1),.slice A50010_2 ((rd_T32 l0_2 0).f2).length c50010_2]] (by rfl) rfl rfl za5 ?_
  with_reducible refine (ih k (by omega) ((rd_T32 l0_2 0).f0) ((rd_T32 l0_2 0).f1) _ _ ((rd_T32 l0_2 0).f2) t50011 _ ?side1 ?side2 A44.out).mono ?_
  (case side1=>repeat (first|exact (Kd.C_below HR50010_2.out HB.out)|(with_reducible refine Kd.C_alloc ?_ _)|(with_reducible refine Kd.C_drewN ?_ _)|(with_reducible refine Kd.C_drew ?_)))
  (case side2=>exact HC50010_2.out)
  rintro e w54 ⟨rfl,hb⟩
  refine ⟨_,rfl,?_⟩
  have n0_:=zk (zb BK50001.out hb)
  have n1_:=zk (below_step za2 hb)
  clear BK50001
  clear HB
  have BK50001:=n0_
  have HB:=n1_
  clear n0_ n1_
  (try clear hb)
  (try clear hb2)
  (try clear hk)
  (try clear hi)
  refine hK.out _ _ ⟨(blk_cell BK50001.out 0).trans rfl,(blk_cell BK50001.out 1).trans rfl,(blk_cell BK50001.out 2).trans rfl,((HB.out.cell (World.block_lt_of_cell? w _ hw50010_0)).trans hw50010_0),((HB.out.cell (World.block_lt_of_cell? w _ hw50010_1)).trans hw50010_1),((HB.out.cell (World.block_lt_of_cell? w _ hw50010_2)).trans hw50010_2),((HB.out.cell (World.block_lt_of_cell? w _ hw50012_0)).trans hw50012_0),((HB.out.cell (World.block_lt_of_cell? w _ hw50012_1)).trans hw50012_1),((HB.out.cell (World.block_lt_of_cell? w _ hw50012_2)).trans hw50012_2)⟩ (fun hHeld=>?_)
  clear hK K
  refine norm_ (a':=?_) ?_ ?_
  rotate_left
  ·show Act.put _ (some 42) _=_
   simp only [Act.put,zt,zu,zv,i64_w,i32_w]
   rfl
  refine pure_ (i:=5) (N:=some 43) (v:=?_) (a':=?_) #[true,true,true,true,true,true,true,false,true,true,true,true,false,false,false,false] rfl rfl (any_of HT_.out (by kernel_rfl)) (fun _ _ _ h=>h) (Or.inl ⟨by rfl,?_⟩) ?_ ?_
  rotate_left
  ·intro w'
   go_simp
   exact zr1
  rotate_left
  ·simp only [Act.put,zt,zu,zv,i64_w,i32_w]
   rfl
  refine pure_ (i:=7) (N:=some 45) (v:=?_) (a':=?_) #[true,true,true,true,true,true,true,true,true,true,true,true,false,false,false,false] rfl rfl (any_of HT_.out (by kernel_rfl)) (fun _ _ _ h=>h) (Or.inl ⟨by rfl,?_⟩) ?_ ?_
  rotate_left
  ·intro w'
   go_simp
   exact zr1
  rotate_left
  ·simp only [Act.put,zt,zu,zv,i64_w,i32_w]
   rfl
  refine one_ (i:=12) (N:=some 50) #[true,true,true,true,true,true,true,true,true,true,true,true,true,false,false,false] rfl rfl (one_of HT_.out (by kernel_rfl)) (by decide) (fun K hK=>?_)
  refine goes_ Tryd.func50 (by kernel_rfl) rfl #[.agg #[.int .i64 ((rd_T32 l0_2 1).f0),.string ((rd_T32 l0_2 1).f1),.slice A50012_2 ((rd_T32 l0_2 1).f2).length c50012_2]] (by rfl) rfl rfl za5 ?_
  with_reducible refine (ih k (by omega) ((rd_T32 l0_2 1).f0) ((rd_T32 l0_2 1).f1) _ _ ((rd_T32 l0_2 1).f2) t50013 _ ?side1 ?side2 A48.out).mono ?_
  (case side1=>repeat (first|exact (Kd.C_below HR50012_2.out HB.out)|(with_reducible refine Kd.C_alloc ?_ _)|(with_reducible refine Kd.C_drewN ?_ _)|(with_reducible refine Kd.C_drew ?_)))
  (case side2=>exact HC50012_2.out)
  rintro e w55 ⟨rfl,hb⟩
  refine ⟨_,rfl,?_⟩
  have n0_:=zk (zb BK50001.out hb)
  have n1_:=zk (below_step za2 hb)
  clear BK50001
  clear HB
  have BK50001:=n0_
  have HB:=n1_
  clear n0_ n1_
  (try clear hb)
  (try clear hb2)
  (try clear hk)
  (try clear hi)
  refine hK.out _ _ ⟨(blk_cell BK50001.out 0).trans rfl,(blk_cell BK50001.out 1).trans rfl,(blk_cell BK50001.out 2).trans rfl,((HB.out.cell (World.block_lt_of_cell? w _ hw50010_0)).trans hw50010_0),((HB.out.cell (World.block_lt_of_cell? w _ hw50010_1)).trans hw50010_1),((HB.out.cell (World.block_lt_of_cell? w _ hw50010_2)).trans hw50010_2),((HB.out.cell (World.block_lt_of_cell? w _ hw50012_0)).trans hw50012_0),((HB.out.cell (World.block_lt_of_cell? w _ hw50012_1)).trans hw50012_1),((HB.out.cell (World.block_lt_of_cell? w _ hw50012_2)).trans hw50012_2)⟩ (fun hHeld=>?_)
  clear hK K
  refine norm_ (a':=?_) ?_ ?_
  rotate_left
  ·show Act.put _ (some 50) _=_
   simp only [Act.put,zt,zu,zv,i64_w,i32_w]
   rfl
  refine pure_ (i:=13) (N:=some 51) (v:=?_) (a':=?_) #[true,true,true,true,true,true,true,true,true,true,true,true,true,true,false,false] rfl rfl (any_of HT_.out (by kernel_rfl)) (fun _ _ _ h=>h) (Or.inl ⟨by rfl,?_⟩) ?_ ?_
  rotate_left
  ·intro w'
   go_simp
   exact zr1
  rotate_left
  ·simp only [Act.put,zt,zu,zv,i64_w,i32_w]
   rfl
  refine pure_ (i:=14) (N:=some 52) (v:=?_) (a':=?_) #[true,true,true,true,true,true,true,true,true,true,true,true,true,true,true,false] rfl rfl (any_of HT_.out (by kernel_rfl)) (fun _ _ _ h=>h) (Or.inl ⟨by rfl,?_⟩) ?_ ?_
  rotate_left
  ·intro w'
   go_simp
   exact zr1
  rotate_left
  ·simp only [Act.put,zt,zu,zv,i64_w,i32_w]
   rfl
  refine pure_ (i:=15) (N:=some 2) (v:=?_) (a':=?_) #[true,true,true,true,true,true,true,true,true,true,true,true,true,true,true,true] rfl rfl (any_of HT_.out (by kernel_rfl)) (fun _ _ _ h=>h) (Or.inl ⟨by rfl,?_⟩) ?_ ?_
  rotate_left
  ·intro w'
   go_simp
   exact zr1
  rotate_left
  ·simp only [Act.put,zt,zu,zv,i64_w,i32_w]
   rfl
  refine done_ (done_of HT_.out (by kernel_rfl)) ?_
  try go_wp2
  go_ret
  exact ⟨za6,za2⟩
 ·rw [if_neg c50] at H
  exact absurd H (by simp)
 ·rw [if_neg c49] at H
  exact absurd H (by simp)
 ·rw [if_neg c47] at H
  exact absurd H (by simp)
 ·rw [if_neg c46] at H
  exact absurd H (by simp)
 ·rw [if_neg c45] at H
  exact absurd H (by simp)
 ·rw [if_neg c43] at H
  exact absurd H (by simp)
 rw [if_neg c42] at H
 have c42b0:(a0_0 == 7)=false:=beq_eq_false_iff_ne.mpr c42
 have c42b1:(a0_0 != 7)=true:=bne_iff_ne.mpr c42
 by_cases c56:0 < (l0_2.length:Int)
 rw [if_pos c56] at H
 have c56b0:decide (0 < (l0_2.length:Int))=true:=decide_eq_true c56
 have c56b1:decide (0 < l0_2.length)=true:=decide_eq_true (by omega)
 clear c56
 replace H:=zo H
 obtain ⟨t50015,A570,H⟩:=H
 replace H:(if 1+t50015.size≤9223372036854775807 then (if ((⟨#[40]⟩:ByteArray) ++ t50015).size+0≤9223372036854775807 then (if 1 < (l0_2.length:Int) then ((impl_regexText.f k ((rd_T32 l0_2 1).f0) ((rd_T32 l0_2 1).f1) ((rd_T32 l0_2 1).f2)).bind fun t50017=>(if (((⟨#[40]⟩:ByteArray) ++ t50015) ++ (⟨#[]⟩:ByteArray)).size+t50017.size≤9223372036854775807 then (if ((((⟨#[40]⟩:ByteArray) ++ t50015) ++ (⟨#[]⟩:ByteArray)) ++ t50017).size+1≤9223372036854775807 then (some (((((⟨#[40]⟩:ByteArray) ++ t50015) ++ (⟨#[]⟩:ByteArray)) ++ t50017) ++ (⟨#[41]⟩:ByteArray))) else (none)) else (none))) else (none)) else (none)) else (none))=some r:=H
 have A57:=zk A570
 clear A570
 by_cases c58:1+t50015.size≤9223372036854775807
 rw [if_pos c58] at H
 have c58z:=c58
 try simp at c58z
 try replace c58z:=eq_false (Nat.not_lt.2 c58z)
 have c58b0:=eq_true c58
 have c58b1:decide (1+t50015.size≤9223372036854775807)=true:=decide_eq_true c58
 try have c58b2:(9223372036854775807 < 1+t50015.size)=False:=eq_false (Nat.not_lt.2 c58)
 by_cases c59:((⟨#[40]⟩:ByteArray) ++ t50015).size+0≤9223372036854775807
 rw [if_pos c59] at H
 have c59z:=c59
 try simp at c59z
 try replace c59z:=eq_false (Nat.not_lt.2 c59z)
 have c59b0:=eq_true c59
 have c59b1:decide (((⟨#[40]⟩:ByteArray) ++ t50015).size+0≤9223372036854775807)=true:=decide_eq_true c59
 try have c59y:(9223372036854775807 < 1+t50015.size+0)=False:=eq_false (by have q_:=c59;simp only [ByteArray.size_append,show (⟨#[40]⟩:ByteArray).size=1 from rfl] at q_;omega)
 try have c59b2:(9223372036854775807 < ((⟨#[40]⟩:ByteArray) ++ t50015).size+0)=False:=eq_false (Nat.not_lt.2 c59)
 by_cases c60:1 < (l0_2.length:Int)
 rw [if_pos c60] at H
 have c60b0:decide (1 < (l0_2.length:Int))=true:=decide_eq_true c60
 have c60b1:decide (1 < l0_2.length)=true:=decide_eq_true (by omega)
 clear c60
 replace H:=zo H
 obtain ⟨t50017,A610,H⟩:=H
 replace H:(if (((⟨#[40]⟩:ByteArray) ++ t50015) ++ (⟨#[]⟩:ByteArray)).size+t50017.size≤9223372036854775807 then (if ((((⟨#[40]⟩:ByteArray) ++ t50015) ++ (⟨#[]⟩:ByteArray)) ++ t50017).size+1≤9223372036854775807 then (some (((((⟨#[40]⟩:ByteArray) ++ t50015) ++ (⟨#[]⟩:ByteArray)) ++ t50017) ++ (⟨#[41]⟩:ByteArray))) else (none)) else (none))=some r:=H
 have A61:=zk A610
 clear A610
 by_cases c62:(((⟨#[40]⟩:ByteArray) ++ t50015) ++ (⟨#[]⟩:ByteArray)).size+t50017.size≤9223372036854775807
 rw [if_pos c62] at H
 have c62z:=c62
 try simp at c62z
 try replace c62z:=eq_false (Nat.not_lt.2 c62z)
 have c62b0:=eq_true c62
 have c62b1:decide ((((⟨#[40]⟩:ByteArray) ++ t50015) ++ (⟨#[]⟩:ByteArray)).size+t50017.size≤9223372036854775807)=true:=decide_eq_true c62
 try have c62y:(9223372036854775807 < 1+t50015.size+0+t50017.size)=False:=eq_false (by have q_:=c62;simp only [ByteArray.size_append,show (⟨#[40]⟩:ByteArray).size=1 from rfl] at q_;omega)
 try have c62b2:(9223372036854775807 < (((⟨#[40]⟩:ByteArray) ++ t50015) ++ (⟨#[]⟩:ByteArray)).size+t50017.size)=False:=eq_false (Nat.not_lt.2 c62)
 by_cases c63:((((⟨#[40]⟩:ByteArray) ++ t50015) ++ (⟨#[]⟩:ByteArray)) ++ t50017).size+1≤9223372036854775807
 ·rw [if_pos c63] at H
  have c63z:=c63
  try simp at c63z
  try replace c63z:=eq_false (Nat.not_lt.2 c63z)
  have c63b0:=eq_true c63
  have c63b1:decide (((((⟨#[40]⟩:ByteArray) ++ t50015) ++ (⟨#[]⟩:ByteArray)) ++ t50017).size+1≤9223372036854775807)=true:=decide_eq_true c63
  try have c63y:(9223372036854775807 < 1+t50015.size+0+t50017.size+1)=False:=eq_false (by have q_:=c63;simp only [ByteArray.size_append,show (⟨#[40]⟩:ByteArray).size=1 from rfl] at q_;omega)
  try have c63b2:(9223372036854775807 < ((((⟨#[40]⟩:ByteArray) ++ t50015) ++ (⟨#[]⟩:ByteArray)) ++ t50017).size+1)=False:=eq_false (Nat.not_lt.2 c63)
  obtain rfl:=zi H
  go_enter Tryd.func50,Tryd.ntmps50
  try go_wp2_with (first|((with_reducible refine gate_dst (N:=1) rfl ?_);refine zE (N:=1) (cs:=#[.int .i64 a0_0,.string a0_1,.slice A0_2 l0_2.length c0_2]) (t:=32) ?_;intro gb50001 hg w64 hbox hb;have n0_:=zk (below_step za2 hb);have n1_:=zk (hbox);have n2_:=zk (zs (w:=w) hg za2);have n3_:=zk (zs (w:=w) hg za2);clear HB;have HB:=n0_;have BK50001:=n1_;have GW50001:=n2_;have GE50001:=n3_;clear n0_ n1_ n2_ n3_;clear hb hbox hg;obtain ⟨hcz65_0,hcz65_1,hcz65_2,hfz65_0,hfz65_1,hfz65_2⟩:=blk3 BK50001.out))
  have n0_:=zk (blk_drew BK50001.out)
  have n1_:=zk (below_drew1 HB.out)
  clear BK50001
  clear HB
  have BK50001:=n0_
  have HB:=n1_
  clear n0_ n1_
  have p50014:0≤(0:Int):=(by omega)
  have q50014:0 < (l0_2.length:Int):=of_decide_eq_true za8
  obtain ⟨ad50014,A50014_2,c50014_2,e50014,hx50014_0,hx50014_1,hx50014_2,hl50014_2,hi50014_2⟩:=at_T32 HR0_2.out 0 p50014 q50014
  have hw50014_2:=hx50014_2
  (try rw [show ((0:Int)).toNat=0 from rfl] at hw50014_2)
  (try rw [show 0 * 3=0 from rfl] at hw50014_2)
  (try rw [Addr.add_zero'] at hw50014_2)
  have hw50014_1:=hx50014_1
  (try rw [show ((0:Int)).toNat=0 from rfl] at hw50014_1)
  (try rw [show 0 * 3=0 from rfl] at hw50014_1)
  (try rw [Addr.add_zero'] at hw50014_1)
  have hw50014_0:=hx50014_0
  (try rw [show ((0:Int)).toNat=0 from rfl] at hw50014_0)
  (try rw [show 0 * 3=0 from rfl] at hw50014_0)
  (try rw [Addr.add_zero'] at hw50014_0)
  cases e50014
  have qi50014:(0 < l0_2.length)=True:=eq_true (by omega)
  (try rw [show ((0:Int)).toNat=0 from rfl] at hx50014_0)
  (try rw [show 0 * 3=0 from rfl] at hx50014_0)
  (try rw [Addr.add_zero'] at hx50014_0)
  (try rw [show ((0:Int)).toNat=0 from rfl] at hx50014_1)
  (try rw [show 0 * 3=0 from rfl] at hx50014_1)
  (try rw [Addr.add_zero'] at hx50014_1)
  (try rw [show ((0:Int)).toNat=0 from rfl] at hx50014_2)
  (try rw [show 0 * 3=0 from rfl] at hx50014_2)
  (try rw [Addr.add_zero'] at hx50014_2)
  replace hx50014_0:=zx HB.out hx50014_0
  replace hx50014_1:=zx HB.out hx50014_1
  replace hx50014_2:=zx HB.out hx50014_2
  have HR50014_2:=zk hi50014_2
  have HC50014_2:=zk hl50014_2
  clear hi50014_2 hl50014_2
  replace p50014:=eq_true p50014
  replace q50014:=eq_true q50014
  have p50016:0≤(1:Int):=(by omega)
  have q50016:1 < (l0_2.length:Int):=of_decide_eq_true za8
  obtain ⟨ad50016,A50016_2,c50016_2,e50016,hx50016_0,hx50016_1,hx50016_2,hl50016_2,hi50016_2⟩:=at_T32 HR0_2.out 1 p50016 q50016
  have hw50016_2:=hx50016_2
  (try rw [show ((1:Int)).toNat=1 from rfl] at hw50016_2)
  (try rw [show 1 * 3=3 from rfl] at hw50016_2)
  (try simp only [Nat.reduceMul,Nat.reduceEqDiff,Go.Addr.add,↓reduceIte] at hw50016_2)
  have hw50016_1:=hx50016_1
  (try rw [show ((1:Int)).toNat=1 from rfl] at hw50016_1)
  (try rw [show 1 * 3=3 from rfl] at hw50016_1)
  (try simp only [Nat.reduceMul,Nat.reduceEqDiff,Go.Addr.add,↓reduceIte] at hw50016_1)
  have hw50016_0:=hx50016_0
  (try rw [show ((1:Int)).toNat=1 from rfl] at hw50016_0)
  (try rw [show 1 * 3=3 from rfl] at hw50016_0)
  (try simp only [Nat.reduceMul,Nat.reduceEqDiff,Go.Addr.add,↓reduceIte] at hw50016_0)
  obtain rfl:ad50014=ad50016:=(by injection e50016)
  (try simp only [show (1:Int).toNat=1 from rfl,Nat.reduceMul,Nat.reduceEqDiff,Go.Addr.add,↓reduceIte] at hx50016_0)
  (try simp only [show (1:Int).toNat=1 from rfl,Nat.reduceMul,Nat.reduceEqDiff,Go.Addr.add,↓reduceIte] at hx50016_1)
  (try simp only [show (1:Int).toNat=1 from rfl,Nat.reduceMul,Nat.reduceEqDiff,Go.Addr.add,↓reduceIte] at hx50016_2)
  have qi50016:(1 < l0_2.length)=True:=eq_true (by omega)
  (try rw [show ((1:Int)).toNat=1 from rfl] at hx50016_0)
  (try rw [show 1 * 3=3 from rfl] at hx50016_0)
  (try rw [show ((1:Int)).toNat=1 from rfl] at hx50016_1)
  (try rw [show 1 * 3=3 from rfl] at hx50016_1)
  (try rw [show ((1:Int)).toNat=1 from rfl] at hx50016_2)
  (try rw [show 1 * 3=3 from rfl] at hx50016_2)
  replace hx50016_0:=zx HB.out hx50016_0
  replace hx50016_1:=zx HB.out hx50016_1
  replace hx50016_2:=zx HB.out hx50016_2
  have HR50016_2:=zk hi50016_2
  have HC50016_2:=zk hl50016_2
  clear hi50016_2 hl50016_2
  replace p50016:=eq_true p50016
  replace q50016:=eq_true q50016
  refine start_ (n:=16) (S:=fun w'=>w'.cell? ⟨gb50001,0,none⟩=some (.int .i64 a0_0)∧w'.cell? ⟨gb50001,1,none⟩=some (.string a0_1)∧w'.cell? ⟨gb50001,2,none⟩=some (.slice (some ad50014) l0_2.length c0_2)∧w'.cell? ad50014=some (.int .i64 ((rd_T32 l0_2 0).f0))∧w'.cell? ⟨ad50014.block,ad50014.off+1,none⟩=some (.string ((rd_T32 l0_2 0).f1))∧w'.cell? ⟨ad50014.block,ad50014.off+2,none⟩=some (.slice A50014_2 ((rd_T32 l0_2 0).f2).length c50014_2)∧w'.cell? ⟨ad50014.block,ad50014.off+3,none⟩=some (.int .i64 ((rd_T32 l0_2 1).f0))∧w'.cell? ⟨ad50014.block,ad50014.off+3+1,none⟩=some (.string ((rd_T32 l0_2 1).f1))∧w'.cell? ⟨ad50014.block,ad50014.off+3+2,none⟩=some (.slice A50016_2 ((rd_T32 l0_2 1).f2).length c50016_2)) (ds:=[]) #[false,false,false,false,false,false,false,false,false,false,false,false,false,false,false,false] (by kernel_rfl) rfl rfl ⟨(blk_cell BK50001.out 0).trans rfl,(blk_cell BK50001.out 1).trans rfl,(blk_cell BK50001.out 2).trans rfl,((HB.out.cell (World.block_lt_of_cell? w _ hw50014_0)).trans hw50014_0),((HB.out.cell (World.block_lt_of_cell? w _ hw50014_1)).trans hw50014_1),((HB.out.cell (World.block_lt_of_cell? w _ hw50014_2)).trans hw50014_2),((HB.out.cell (World.block_lt_of_cell? w _ hw50016_0)).trans hw50016_0),((HB.out.cell (World.block_lt_of_cell? w _ hw50016_1)).trans hw50016_1),((HB.out.cell (World.block_lt_of_cell? w _ hw50016_2)).trans hw50016_2)⟩ (fun hHeld=>?_);refine with_tabW impl_regexText.tab20 impl_regexText.bits20 (fun HT_ HW_=>?_)
  generalize w64.drew=w66 at BK50001 HB HR50014_2 HR50016_2 hx50014_0 hx50014_1 hx50014_2 hx50016_0 hx50016_1 hx50016_2 hHeld ⊢
  refine pure_ (i:=0) (N:=some 38) (v:=?_) (a':=?_) #[true,false,false,false,false,false,false,false,false,false,false,false,false,false,false,false] rfl rfl (any_of HT_.out (by kernel_rfl)) (fun _ _ _ h=>h) (Or.inl ⟨by rfl,?_⟩) ?_ ?_
  rotate_left
  ·intro w'
   go_simp
   exact zr1
  rotate_left
  ·simp only [Act.put,zt,zu,zv,i64_w,i32_w]
   rfl
  refine pure_ (i:=6) (N:=some 44) (v:=?_) (a':=?_) #[true,false,false,false,false,false,true,false,false,false,false,false,false,false,false,false] rfl rfl (any_of HT_.out (by kernel_rfl)) (fun _ _ _ h=>h) (Or.inl ⟨by rfl,?_⟩) ?_ ?_
  rotate_left
  ·intro w'
   go_simp
   exact zr1
  rotate_left
  ·simp only [Act.put,zt,zu,zv,i64_w,i32_w]
   rfl
  refine pure_ (i:=8) (N:=some 46) (v:=?_) (a':=?_) #[true,false,false,false,false,false,true,false,true,false,false,false,false,false,false,false] rfl rfl (any_of HT_.out (by kernel_rfl)) (fun _ _ _ h=>h) (Or.inl ⟨by rfl,?_⟩) ?_ ?_
  rotate_left
  ·intro w'
   go_simp
   exact zr1
  rotate_left
  ·simp only [Act.put,zt,zu,zv,i64_w,i32_w]
   rfl
  refine take_ (i:=1) (N:=some 39) (v:=?_) (a':=?_) #[true,true,false,false,false,false,true,false,true,false,false,false,false,false,false,false] rfl rfl (take_ofW HT_.out HW_.out (by kernel_rfl)) (fun _ _ _ h=>h) (Or.inl ⟨by rfl,?_⟩) hHeld ?_ ?_
  rotate_left
  ·rintro w' ⟨s0,s1,s2,s3,s4,s5,s6,s7,s8⟩
   go_simp
   exact zr1
  rotate_left
  ·simp only [Act.put,zt,zu,zv,i64_w,i32_w]
   rfl
  refine pure_ (i:=2) (N:=some 40) (v:=?_) (a':=?_) #[true,true,true,false,false,false,true,false,true,false,false,false,false,false,false,false] rfl rfl (any_of HT_.out (by kernel_rfl)) (fun _ _ _ h=>h) (Or.inl ⟨by rfl,?_⟩) ?_ ?_
  rotate_left
  ·intro w'
   go_simp
   exact zr1
  rotate_left
  ·simp only [Act.put,zt,zu,zv,i64_w,i32_w]
   rfl
  refine take_ (i:=3) (N:=some 41) (v:=?_) (a':=?_) #[true,true,true,true,false,false,true,false,true,false,false,false,false,false,false,false] rfl rfl (take_ofW HT_.out HW_.out (by kernel_rfl)) (fun _ _ _ h=>h) (Or.inl ⟨by rfl,?_⟩) hHeld ?_ ?_
  rotate_left
  ·rintro w' ⟨s0,s1,s2,s3,s4,s5,s6,s7,s8⟩
   go_simp
   exact zr1
  rotate_left
  ·simp only [Act.put,zt,zu,zv,i64_w,i32_w]
   rfl
  refine take_ (i:=9) (N:=some 47) (v:=?_) (a':=?_) #[true,true,true,true,false,false,true,false,true,true,false,false,false,false,false,false] rfl rfl (take_ofW HT_.out HW_.out (by kernel_rfl)) (fun _ _ _ h=>h) (Or.inl ⟨by rfl,?_⟩) hHeld ?_ ?_
  rotate_left
  ·rintro w' ⟨s0,s1,s2,s3,s4,s5,s6,s7,s8⟩
   go_simp
   exact zr1
  rotate_left
  ·simp only [Act.put,zt,zu,zv,i64_w,i32_w]
   rfl
  refine pure_ (i:=10) (N:=some 48) (v:=?_) (a':=?_) #[true,true,true,true,false,false,true,false,true,true,true,false,false,false,false,false] rfl rfl (any_of HT_.out (by kernel_rfl)) (fun _ _ _ h=>h) (Or.inl ⟨by rfl,?_⟩) ?_ ?_
  rotate_left
  ·intro w'
   go_simp
   exact zr1
  rotate_left
  ·simp only [Act.put,zt,zu,zv,i64_w,i32_w]
   rfl
  refine take_ (i:=11) (N:=some 49) (v:=?_) (a':=?_) #[true,true,true,true,false,false,true,false,true,true,true,true,false,false,false,false] rfl rfl (take_ofW HT_.out HW_.out (by kernel_rfl)) (fun _ _ _ h=>h) (Or.inl ⟨by rfl,?_⟩) hHeld ?_ ?_
  rotate_left
  ·rintro w' ⟨s0,s1,s2,s3,s4,s5,s6,s7,s8⟩
   go_simp
   exact zr1
  rotate_left
  ·simp only [Act.put,zt,zu,zv,i64_w,i32_w]
   rfl
  refine one_ (i:=4) (N:=some 42) #[true,true,true,true,true,false,true,false,true,true,true,true,false,false,false,false] rfl rfl (one_of HT_.out (by kernel_rfl)) (by decide) (fun K hK=>?_)
  refine goes_ Tryd.func50 (by kernel_rfl) rfl #[.agg #[.int .i64 ((rd_T32 l0_2 0).f0),.string ((rd_T32 l0_2 0).f1),.slice A50014_2 ((rd_T32 l0_2 0).f2).length c50014_2]] (by rfl) rfl rfl za5 ?_
  with_reducible refine (ih k (by omega) ((rd_T32 l0_2 0).f0) ((rd_T32 l0_2 0).f1) _ _ ((rd_T32 l0_2 0).f2) t50015 _ ?side1 ?side2 A57.out).mono ?_
  (case side1=>repeat (first|exact (Kd.C_below HR50014_2.out HB.out)|(with_reducible refine Kd.C_alloc ?_ _)|(with_reducible refine Kd.C_drewN ?_ _)|(with_reducible refine Kd.C_drew ?_)))
  (case side2=>exact HC50014_2.out)
  rintro e w67 ⟨rfl,hb⟩
  refine ⟨_,rfl,?_⟩
  have n0_:=zk (zb BK50001.out hb)
  have n1_:=zk (below_step za2 hb)
  clear BK50001
  clear HB
  have BK50001:=n0_
  have HB:=n1_
  clear n0_ n1_
  (try clear hb)
  (try clear hb2)
  (try clear hk)
  (try clear hi)
  refine hK.out _ _ ⟨(blk_cell BK50001.out 0).trans rfl,(blk_cell BK50001.out 1).trans rfl,(blk_cell BK50001.out 2).trans rfl,((HB.out.cell (World.block_lt_of_cell? w _ hw50014_0)).trans hw50014_0),((HB.out.cell (World.block_lt_of_cell? w _ hw50014_1)).trans hw50014_1),((HB.out.cell (World.block_lt_of_cell? w _ hw50014_2)).trans hw50014_2),((HB.out.cell (World.block_lt_of_cell? w _ hw50016_0)).trans hw50016_0),((HB.out.cell (World.block_lt_of_cell? w _ hw50016_1)).trans hw50016_1),((HB.out.cell (World.block_lt_of_cell? w _ hw50016_2)).trans hw50016_2)⟩ (fun hHeld=>?_)
  clear hK K
  refine norm_ (a':=?_) ?_ ?_
  rotate_left
  ·show Act.put _ (some 42) _=_
   simp only [Act.put,zt,zu,zv,i64_w,i32_w]
   rfl
  refine pure_ (i:=5) (N:=some 43) (v:=?_) (a':=?_) #[true,true,true,true,true,true,true,false,true,true,true,true,false,false,false,false] rfl rfl (any_of HT_.out (by kernel_rfl)) (fun _ _ _ h=>h) (Or.inl ⟨by rfl,?_⟩) ?_ ?_
  rotate_left
  ·intro w'
   go_simp
   exact zr1
  rotate_left
  ·simp only [Act.put,zt,zu,zv,i64_w,i32_w]
   rfl
  refine pure_ (i:=7) (N:=some 45) (v:=?_) (a':=?_) #[true,true,true,true,true,true,true,true,true,true,true,true,false,false,false,false] rfl rfl (any_of HT_.out (by kernel_rfl)) (fun _ _ _ h=>h) (Or.inl ⟨by rfl,?_⟩) ?_ ?_
  rotate_left
  ·intro w'
   go_simp
   exact zr1
  rotate_left
  ·simp only [Act.put,zt,zu,zv,i64_w,i32_w]
   rfl
  refine one_ (i:=12) (N:=some 50) #[true,true,true,true,true,true,true,true,true,true,true,true,true,false,false,false] rfl rfl (one_of HT_.out (by kernel_rfl)) (by decide) (fun K hK=>?_)
  refine goes_ Tryd.func50 (by kernel_rfl) rfl #[.agg #[.int .i64 ((rd_T32 l0_2 1).f0),.string ((rd_T32 l0_2 1).f1),.slice A50016_2 ((rd_T32 l0_2 1).f2).length c50016_2]] (by rfl) rfl rfl za5 ?_
  with_reducible refine (ih k (by omega) ((rd_T32 l0_2 1).f0) ((rd_T32 l0_2 1).f1) _ _ ((rd_T32 l0_2 1).f2) t50017 _ ?side1 ?side2 A61.out).mono ?_
  (case side1=>repeat (first|exact (Kd.C_below HR50016_2.out HB.out)|(with_reducible refine Kd.C_alloc ?_ _)|(with_reducible refine Kd.C_drewN ?_ _)|(with_reducible refine Kd.C_drew ?_)))
  (case side2=>exact HC50016_2.out)
  rintro e w68 ⟨rfl,hb⟩
  refine ⟨_,rfl,?_⟩
  have n0_:=zk (zb BK50001.out hb)
  have n1_:=zk (below_step za2 hb)
  clear BK50001
  clear HB
  have BK50001:=n0_
  have HB:=n1_
  clear n0_ n1_
  (try clear hb)
  (try clear hb2)
  (try clear hk)
  (try clear hi)
  refine hK.out _ _ ⟨(blk_cell BK50001.out 0).trans rfl,(blk_cell BK50001.out 1).trans rfl,(blk_cell BK50001.out 2).trans rfl,((HB.out.cell (World.block_lt_of_cell? w _ hw50014_0)).trans hw50014_0),((HB.out.cell (World.block_lt_of_cell? w _ hw50014_1)).trans hw50014_1),((HB.out.cell (World.block_lt_of_cell? w _ hw50014_2)).trans hw50014_2),((HB.out.cell (World.block_lt_of_cell? w _ hw50016_0)).trans hw50016_0),((HB.out.cell (World.block_lt_of_cell? w _ hw50016_1)).trans hw50016_1),((HB.out.cell (World.block_lt_of_cell? w _ hw50016_2)).trans hw50016_2)⟩ (fun hHeld=>?_)
  clear hK K
  refine norm_ (a':=?_) ?_ ?_
  rotate_left
  ·show Act.put _ (some 50) _=_
   simp only [Act.put,zt,zu,zv,i64_w,i32_w]
   rfl
  refine pure_ (i:=13) (N:=some 51) (v:=?_) (a':=?_) #[true,true,true,true,true,true,true,true,true,true,true,true,true,true,false,false] rfl rfl (any_of HT_.out (by kernel_rfl)) (fun _ _ _ h=>h) (Or.inl ⟨by rfl,?_⟩) ?_ ?_
  rotate_left
  ·intro w'
   go_simp
   exact zr1
  rotate_left
  ·simp only [Act.put,zt,zu,zv,i64_w,i32_w]
   rfl
  refine pure_ (i:=14) (N:=some 52) (v:=?_) (a':=?_) #[true,true,true,true,true,true,true,true,true,true,true,true,true,true,true,false] rfl rfl (any_of HT_.out (by kernel_rfl)) (fun _ _ _ h=>h) (Or.inl ⟨by rfl,?_⟩) ?_ ?_
  rotate_left
  ·intro w'
   go_simp
   exact zr1
  rotate_left
  ·simp only [Act.put,zt,zu,zv,i64_w,i32_w]
   rfl
  refine pure_ (i:=15) (N:=some 2) (v:=?_) (a':=?_) #[true,true,true,true,true,true,true,true,true,true,true,true,true,true,true,true] rfl rfl (any_of HT_.out (by kernel_rfl)) (fun _ _ _ h=>h) (Or.inl ⟨by rfl,?_⟩) ?_ ?_
  rotate_left
  ·intro w'
   go_simp
   exact zr1
  rotate_left
  ·simp only [Act.put,zt,zu,zv,i64_w,i32_w]
   rfl
  refine done_ (done_of HT_.out (by kernel_rfl)) ?_
  try go_wp2
  go_ret
  exact ⟨za6,za2⟩
 ·rw [if_neg c63] at H
  exact absurd H (by simp)
 ·rw [if_neg c62] at H
  exact absurd H (by simp)
 ·rw [if_neg c60] at H
  exact absurd H (by simp)
 ·rw [if_neg c59] at H
  exact absurd H (by simp)
 ·rw [if_neg c58] at H
  exact absurd H (by simp)
 ·rw [if_neg c56] at H
  exact absurd H (by simp)
def impl_FormatRegex.f (k:Nat) (a0_0:Int) (a0_1:ByteArray) (l0_2:List (S32)):Option (ByteArray):=(impl_IsValidRegex.f k a0_0 a0_1 l0_2).bind fun t25002=>(if t25002=true then ((impl_regexText.f k a0_0 a0_1 l0_2).bind fun t25003=>(some t25003)) else (some (⟨#[]⟩:ByteArray)))
theorem impl_FormatRegex.mono:∀ a0 a1 a2 k,LeO (impl_FormatRegex.f k a0 a1 a2) (impl_FormatRegex.f (k+1) a0 a1 a2):=by
 intro a0 a1 a2 k
 unfold impl_FormatRegex.f
 repeat' first
  | with_reducible first|exact impl_IsValidRegex.mono _ _ _ _|exact impl_regexText.mono _ _ _ _|exact LeO.refl _|exact LeO.none _|refine LeO.ite ?_ ?_|refine LeO.bind ?_ (fun _=>?_)
theorem impl_FormatRegex.calls (k:Nat) (a0_0:Int) (a0_1:ByteArray) (A0_2:Option Addr) (c0_2:Nat) (l0_2:List (S32)) (r:ByteArray) (w:World) (hr0_2:Kd.C k32 w A0_2 l0_2.length l0_2) (hc0_2:l0_2.length≤c0_2) (h:impl_FormatRegex.f k a0_0 a0_1 l0_2=some r) :
   Calls Tryd.prog 25 #[.agg #[.int .i64 a0_0,.string a0_1,.slice A0_2 l0_2.length c0_2]] w fun e w'=>e = .returned (.string r)∧Below w.heap.size w w':=by
 have hu32:=Tryd.underlying32
 have HR0_2:=zk hr0_2
 have HC0_2:=zk hc0_2
 clear hr0_2 hc0_2
 have HB:=zk (Below.refl w.heap.size w)
 have H:((impl_IsValidRegex.f k a0_0 a0_1 l0_2).bind fun t25002=>(if t25002=true then ((impl_regexText.f k a0_0 a0_1 l0_2).bind fun t25003=>(some t25003)) else (some (⟨#[]⟩:ByteArray))))=some r:=h
 clear h
 replace H:=zo H
 obtain ⟨t25002,A20,H⟩:=H
 replace H:(if t25002=true then ((impl_regexText.f k a0_0 a0_1 l0_2).bind fun t25003=>(some t25003)) else (some (⟨#[]⟩:ByteArray)))=some r:=H
 have A2:=zk A20
 clear A20
 by_cases c3:t25002=true
 subst c3
 have H1:((impl_regexText.f k a0_0 a0_1 l0_2).bind fun t25003=>(some t25003))=some r:=by rw [if_pos rfl] at H;exact H
 clear H
 have H:=H1
 clear H1
 replace H:=zo H
 obtain ⟨t25003,A40,H⟩:=H
 replace H:(some t25003)=some r:=H
 have A4:=zk A40
 clear A40
 rotate_left
 replace c3:=Bool.eq_false_iff.mpr c3
 subst c3
 have H1:(some (⟨#[]⟩:ByteArray))=some r:=by rw [if_neg (show ¬ (false=true) by decide)] at H;exact H
 clear H
 have H:=H1
 clear H1
 rotate_left
 all_goals
  obtain rfl:=zi H
  go_enter Tryd.func25,Tryd.ntmps25
  go_wp2_with (first|((with_reducible refine gate_dst (N:=1) rfl ?_);refine zE (N:=1) (cs:=#[.int .i64 a0_0,.string a0_1,.slice A0_2 l0_2.length c0_2]) (t:=32) ?_;intro gb25001 hg w10 hbox hb;have n0_:=zk (below_step za2 hb);have n1_:=zk (hbox);have n2_:=zk (zs (w:=w) hg za2);have n3_:=zk (zs (w:=w) hg za2);clear HB;have HB:=n0_;have BK25001:=n1_;have GW25001:=n2_;have GE25001:=n3_;clear n0_ n1_ n2_ n3_;clear hb hbox hg;obtain ⟨hcz11_0,hcz11_1,hcz11_2,hfz11_0,hfz11_1,hfz11_2⟩:=blk3 BK25001.out)|((with_reducible refine gate_callee (f:=46) rfl ?_);refine goesL_ (some 4) rfl rfl Tryd.func46 (by kernel_rfl) rfl #[.agg #[.int .i64 a0_0,.string a0_1,.slice A0_2 l0_2.length c0_2]] rfl za5 ?_;(with_reducible refine (impl_IsValidRegex.calls k a0_0 a0_1 _ _ l0_2 _ _ ?side1 ?side2 A2.out).mono ?_);(case side1=>repeat (first|exact (Kd.C_below HR0_2.out HB.out)|(with_reducible refine Kd.C_alloc ?_ _)|(with_reducible refine Kd.C_drewN ?_ _)|(with_reducible refine Kd.C_drew ?_)));(case side2=>exact HC0_2.out);rintro e w7 ⟨rfl,hb⟩;refine ⟨_,rfl,?_⟩;have n0_:=zk (zb BK25001.out hb);have n1_:=zk (below_step za2 hb);clear BK25001;clear HB;have BK25001:=n0_;have HB:=n1_;clear n0_ n1_;(try clear hb);(try clear hb2);(try clear hk);(try clear hi);obtain ⟨hcz8_0,hcz8_1,hcz8_2,hfz8_0,hfz8_1,hfz8_2⟩:=blk3 BK25001.out)|((with_reducible refine gate_callee (f:=50) rfl ?_);refine goesL_ (some 7) rfl rfl Tryd.func50 (by kernel_rfl) rfl #[.agg #[.int .i64 a0_0,.string a0_1,.slice A0_2 l0_2.length c0_2]] rfl za5 ?_;(with_reducible refine (impl_regexText.calls k a0_0 a0_1 _ _ l0_2 t25003 _ ?side1 ?side2 A4.out).mono ?_);(case side1=>repeat (first|exact (Kd.C_below HR0_2.out HB.out)|(with_reducible refine Kd.C_alloc ?_ _)|(with_reducible refine Kd.C_drewN ?_ _)|(with_reducible refine Kd.C_drew ?_)));(case side2=>exact HC0_2.out);rintro e w9 ⟨rfl,hb⟩;refine ⟨_,rfl,?_⟩;have n0_:=zk (zb BK25001.out hb);have n1_:=zk (below_step za2 hb);clear BK25001;clear HB;have BK25001:=n0_;have HB:=n1_;clear n0_ n1_;(try clear hb);(try clear hb2);(try clear hk);(try clear hi)))
  go_ret
  exact ⟨za6,za2⟩
end Go.Proofs.YtdchpohiiigobaaDoor.A
namespace Go.Proofs
open Go.Shelf
def Tryd.lays156_ren:Go.Shelf.Ren:=⟨fun|156=>52|165=>66|166=>67|169=>68|240=>77|241=>78|276=>85|277=>86|n=>n,fun|31=>57|9=>9|3=>3|4=>4|0=>0|20=>20|72=>83|76=>87|70=>81|37=>70|75=>86|127=>95|164=>102|5=>5|80=>89|n=>n,fun|n=>n⟩
theorem Tryd.lays156:Go.Proofs.Lays.n156 Tryd.prog Tryd.lays156_ren:={
 mixed:=by kernel_rfl
 f156:=Tryd.func52.trans (congrArg some (by kernel_rfl))
 f165:=Tryd.func66.trans (congrArg some (by kernel_rfl))
 f166:=Tryd.func67.trans (congrArg some (by kernel_rfl))
 f169:=Tryd.func68.trans (congrArg some (by kernel_rfl))
 f240:=Tryd.func77.trans (congrArg some (by kernel_rfl))
 f241:=Tryd.func78.trans (congrArg some (by kernel_rfl))
 f276:=Tryd.func85.trans (congrArg some (by kernel_rfl))
 f277:=Tryd.func86.trans (congrArg some (by kernel_rfl))
 t0:=Tryd.underlying0
 a0:=Tryd.isAgg0
 z0:=Tryd.sizeOf0
 v0:=Tryd.zeroValue0
 t3:=Tryd.underlying3
 a3:=Tryd.isAgg3
 z3:=Tryd.sizeOf3
 v3:=Tryd.zeroValue3
 t4:=Tryd.underlying4
 a4:=Tryd.isAgg4
 z4:=Tryd.sizeOf4
 v4:=Tryd.zeroValue4
 t9:=Tryd.underlying9
 a9:=Tryd.isAgg9
 z9:=Tryd.sizeOf9
 v9:=Tryd.zeroValue9
 t20:=Tryd.underlying20
 a20:=Tryd.isAgg20
 z20:=Tryd.sizeOf20
 v20:=Tryd.zeroValue20
 t31:=Tryd.underlying57
 a31:=Tryd.isAgg57
 z31:=Tryd.sizeOf57
 v31:=Tryd.zeroValue57
 t37:=Tryd.underlying70
 a37:=Tryd.isAgg70
 z37:=Tryd.sizeOf70
 v37:=Tryd.zeroValue70
 t70:=Tryd.underlying81
 a70:=Tryd.isAgg81
 z70:=Tryd.sizeOf81
 v70:=Tryd.zeroValue81
 t72:=Tryd.underlying83
 a72:=Tryd.isAgg83
 z72:=Tryd.sizeOf83
 v72:=Tryd.zeroValue83
 t75:=Tryd.underlying86
 a75:=Tryd.isAgg86
 z75:=Tryd.sizeOf86
 v75:=Tryd.zeroValue86
 t76:=Tryd.underlying87
 a76:=Tryd.isAgg87
 z76:=Tryd.sizeOf87
 v76:=Tryd.zeroValue87
 t127:=Tryd.underlying95
 a127:=Tryd.isAgg95
 z127:=Tryd.sizeOf95
 v127:=Tryd.zeroValue95
 t164:=Tryd.underlying102
 a164:=Tryd.isAgg102
 z164:=Tryd.sizeOf102
 v164:=Tryd.zeroValue102 }
theorem Tryd.Builder_Extra_156:Builder.Extra Tryd.prog Tryd.lays156_ren:={
 sizeBuilder:=by kernel_rfl
 liesBuilder:=by kernel_rfl
 t5:=Tryd.underlying5
 a5:=Tryd.isAgg5
 z5:=Tryd.sizeOf5
 v5:=Tryd.zeroValue5
 infoByte:=by kernel_rfl
 cellsByte:=by kernel_rfl
 sizeByte:=by kernel_rfl
 neB5:=by decide }
end Go.Proofs
namespace Go.Proofs.YtdchpohiiigobaaDoor.Ext
open Go Go.RowKit Go.Proofs YtdchpohiiigobaaDoorW.PrintWords
-- EXT strings.Join making
def joinB (l:List ByteArray) (s:ByteArray):ByteArray:=⟨(Lib.join (l.map (·.data.toList)) s.data.toList).toArray⟩
def strings_Join.f (l0:List ByteArray) (a1:ByteArray):Option ByteArray :=
 if l0.length≤140737488355328∧(Lib.join (l0.map (·.data.toList)) a1.data.toList).length≤140737488355328 then some (joinB l0 a1) else none
theorem cell_spot {w:World} {a:Addr} {v:Value} (h:w.cell? a=some v):a.spot=none∧a.block < w.heap.size:=by
 unfold World.cell? at h
 split at h
 ·next hb =>
  constructor
  ·split at h
   ·cases h
   ·next hs=>simpa using hs
  ·exact (Array.getElem?_eq_some_iff.1 hb).1
 ·cases h
theorem strings_Join.calls (A0:Option Addr) (c0:Nat) (l0:List ByteArray) (a1:ByteArray) (r:ByteArray) (w:World) (hr0:Kd.C Kd.string w A0 l0.length l0) (hc0:l0.length≤c0) (h:strings_Join.f l0 a1=some r) :
  Calls Tryd.prog 52 #[.slice A0 l0.length c0,.string a1] w fun e w'=>e = .returned (.string r)∧Below w.heap.size w w':=by
 unfold strings_Join.f at h
 split at h
 ·next hh =>
  obtain rfl:=zi h
  by_cases hn:0 < l0.length
  ·obtain ⟨ad,rfl,hcell⟩:=hr0.2.2 hn
   have hcs:∀ (j:Nat) x,l0[j]? = some x→w.cell? (ad.add j)=some (.string x):=by
    intro j x hj
    obtain ⟨c,_,hk,hc⟩:=hcell j x hj
    obtain rfl:c = [.string x]:=hk
    have:=hc 0 _ rfl
    rwa [show Kd.string.sz=1 from rfl,Nat.mul_one,Nat.add_zero] at this
   have h0:=hcs 0 l0[0] (List.getElem?_eq_getElem hn)
   obtain ⟨hs,hb⟩:=cell_spot h0
   obtain ⟨bk,o,sp⟩:=ad
   have hs':sp=none:=by simpa [Addr.add] using hs
   subst hs'
   refine Any.strings_Join Tryd.lays156 Tryd.Builder_Extra_156 bk o c0 l0 a1 w (fun j x hj=>?_) (by simpa [Addr.add] using hb) hh.1 hc0 hh.2
   have:=hcs j x hj
   unfold Addr.add at this
   split at this
   ·next h0=>subst h0;simpa using this
   ·exact this
  ·obtain rfl:l0 = []:=List.length_eq_zero_iff.1 (by omega)
   refine (Any.strings_Join_none Tryd.lays156 Tryd.Builder_Extra_156 A0 c0 a1 w).mono ?_
   rintro e w' ⟨rfl,rfl⟩
   exact ⟨rfl,Below.refl _ _⟩
 ·cases h
end Go.Proofs.YtdchpohiiigobaaDoor.Ext
namespace Go.Proofs.YtdchpohiiigobaaDoor.A
open Go.RowKit YtdchpohiiigobaaDoor.Ext YtdchpohiiigobaaDoorW.PrintWords YtdchpohiiigobaaDoorW.PrintLast YtdchpohiiigobaaDoorW.PrintMore
attribute [local go_sem] max2_int min2_int max_two min_two max_three min_three max_four min_four
def impl_within.f (a0:Int) (a1:Int) (a2:Int):Option (Bool):=if a0 ≥ a1 then (some (decide (a0≤a2))) else (some false)
theorem impl_within.calls (a0:Int) (a1:Int) (a2:Int) (r:Bool) (w:World) (h:impl_within.f a0 a1 a2=some r) :
   Calls Tryd.prog 47 #[.int .i64 a0,.int .i64 a1,.int .i64 a2] w fun e w'=>e = .returned (.bool r)∧Drawn0 w w':=by
 have H:(if a0 ≥ a1 then (some (decide (a0≤a2))) else (some false))=some r:=h
 clear h
 by_cases c4:a0 ≥ a1
 rw [if_pos c4] at H
 have c4b0:decide (a1≤a0)=true:=decide_eq_true c4
 rotate_left
 rw [if_neg c4] at H
 have c4b0:decide (a1≤a0)=false:=decide_eq_false c4
 rotate_left
 all_goals
  clear c4
  obtain rfl:=zi H
  go_enter Tryd.func47,Tryd.ntmps47
  go_wp2
  go_ret
  exact ⟨za7,za9⟩
def impl_FormatInt.f (a0:Int):Option (ByteArray):=(strconv_Itoa_51.f a0).bind fun t27001=>(some t27001)
theorem impl_FormatInt.calls (a0:Int) (r:ByteArray) (w:World) (h:impl_FormatInt.f a0=some r) (hTb:Tb w) :
  Calls Tryd.prog 27 #[.int .i64 a0] w fun e w'=>e = .returned (.string r)∧Below w.heap.size w w':=by
 have HTb:=zk hTb
 clear hTb
 have HB:=zk (Below.refl w.heap.size w)
 have H:((strconv_Itoa_51.f a0).bind fun t27001=>(some t27001))=some r:=h
 clear h
 replace H:=zo H
 obtain ⟨t27001,A20,H⟩:=H
 replace H:(some t27001)=some r:=H
 have A2:=zk A20
 clear A20
 obtain rfl:=zi H
 go_enter Tryd.func27,Tryd.ntmps27
 go_wp2_with (first|((with_reducible refine gate_callee (f:=51) rfl ?_);refine goesL_ (some 4) rfl rfl Tryd.func51 (by kernel_rfl) rfl #[.int .i64 a0] rfl za5 ?_;(with_reducible refine (strconv_Itoa_51.calls a0 t27001 _ A2.out (HTb.out.below za2)).mono ?_);rintro e w3 ⟨rfl,hb⟩;refine ⟨_,rfl,?_⟩;have n0_:=zk (below_step za2 hb);clear HB;have HB:=n0_;clear n0_;(try clear hb);(try clear hb2);(try clear hk);(try clear hi)))
 go_ret
 exact ⟨za6,za2⟩
def impl_Join.l0:Nat→List ByteArray→ByteArray→Int→List ByteArray→Int→Int→Option (ByteArray)
 | 0,_,_,_,_,_,_=>none
 | k+1,x0,x1,x5,x8,x9,x10=>if x10 < x9 then (if 0≤x10 then (if x10 < (x8.length:Int) then (if x10 > 0 then (if (wrap64 ((wrap64 (x5+(x1.size:Int)))+((rdOf ByteArray.empty x8 x10).size:Int))) > 1048576 then (some (⟨#[]⟩:ByteArray)) else (impl_Join.l0 k x0 x1 (wrap64 ((wrap64 (x5+(x1.size:Int)))+((rdOf ByteArray.empty x8 x10).size:Int))) x8 x9 (wrap64 (x10+1)))) else (if (wrap64 (x5+((rdOf ByteArray.empty x8 x10).size:Int))) > 1048576 then (some (⟨#[]⟩:ByteArray)) else (impl_Join.l0 k x0 x1 (wrap64 (x5+((rdOf ByteArray.empty x8 x10).size:Int))) x8 x9 (wrap64 (x10+1))))) else (none)) else (none)) else ((strings_Join.f x0 x1).bind fun t28001=>(some t28001))
def impl_Join.f (k:Nat) (l0:List ByteArray) (a1:ByteArray):Option (ByteArray):=impl_Join.l0 k l0 a1 0 l0 (l0.length:Int) 0
theorem impl_Join.mono_l:∀ k,(∀ y0 y1 y2 y3 y4 y5,LeO (impl_Join.l0 k y0 y1 y2 y3 y4 y5) (impl_Join.l0 (k+1) y0 y1 y2 y3 y4 y5))
 | 0=>fun _ _ _ _ _ _ r h=>by simp [impl_Join.l0] at h
 | k+1=>by
  have ih0:=impl_Join.mono_l k
  ·intro y0 y1 y2 y3 y4 y5
   unfold impl_Join.l0
   repeat' first
   | with_reducible first|exact ih0 _ _ _ _ _ _|exact LeO.refl _|exact LeO.none _|refine LeO.ite ?_ ?_|refine LeO.bind ?_ (fun _=>?_)
theorem impl_Join.mono:∀ a0 a1 k,LeO (impl_Join.f k a0 a1) (impl_Join.f (k+1) a0 a1):=by
 intro a0 a1 k
 have ih0:=impl_Join.mono_l k
 unfold impl_Join.f
 repeat' first
  | with_reducible first|exact ih0 _ _ _ _ _ _|exact LeO.refl _|exact LeO.none _|refine LeO.ite ?_ ?_|refine LeO.bind ?_ (fun _=>?_)
theorem impl_Join.calls (k:Nat) (A0:Option Addr) (c0:Nat) (l0:List ByteArray) (a1:ByteArray) (r:ByteArray) (w:World) (hr0:Kd.C Kd.string w A0 l0.length l0) (hc0:l0.length≤c0) (h:impl_Join.f k l0 a1=some r) :
   Calls Tryd.prog 28 #[.slice A0 l0.length c0,.string a1] w fun e w'=>e = .returned (.string r)∧Below w.heap.size w w':=by
 have HR0:=zk hr0
 have HC0:=zk hc0
 clear hr0 hc0
 have HB:=zk (Below.refl w.heap.size w)
 have H:(impl_Join.l0 k l0 a1 0 l0 (l0.length:Int) 0)=some r:=h
 clear h
 have H':=zk H
 clear H
 go_enter Tryd.func28,Tryd.ntmps28
 go_wp2
 first|go_loopg [5,10] k (fun kq v5 v10 w'=>∃ (x5_1:Int) (x10_1:Int),v5 = .int .i64 x5_1∧v10 = .int .i64 x10_1∧Aside0 (impl_Join.l0 kq l0 a1 x5_1 l0 (l0.length:Int) x10_1=some r)∧Aside0 (kq≤k)∧Aside0 (Below w.heap.size w w'))|(simp only [Act.put,zt,zv,zu];go_loopg [5,10] k (fun kq v5 v10 w'=>∃ (x5_1:Int) (x10_1:Int),v5 = .int .i64 x5_1∧v10 = .int .i64 x10_1∧Aside0 (impl_Join.l0 kq l0 a1 x5_1 l0 (l0.length:Int) x10_1=some r)∧Aside0 (kq≤k)∧Aside0 (Below w.heap.size w w')))
 case atStart=>exact ⟨(0),(0),za7,za7,H',⟨Nat.le_refl _⟩,⟨za2⟩⟩
 case round =>
  clear H'
  obtain ⟨x5_1,x10_1,rfl,rfl,HA,HK1,HB⟩:=hrel
  cases gk with
  | zero=>exact absurd HA.out (by simp [impl_Join.l0])
  | succ k1 =>
   have H:=HA.out
   clear HA
   simp only [impl_Join.l0] at H
   by_cases c3:x10_1 < (l0.length:Int)
   rw [if_pos c3] at H
   have c3b0:decide (x10_1 < (l0.length:Int))=true:=decide_eq_true c3
   clear c3
   by_cases c4:0≤x10_1
   rw [if_pos c4] at H
   have c4b0:decide (0≤x10_1)=true:=decide_eq_true c4
   clear c4
   by_cases c5:x10_1 < (l0.length:Int)
   rw [if_pos c5] at H
   have c5b0:decide (x10_1 < (l0.length:Int))=true:=decide_eq_true c5
   clear c5
   by_cases c6:x10_1 > 0
   rw [if_pos c6] at H
   have c6b0:decide (0 < x10_1)=true:=decide_eq_true c6
   clear c6
   by_cases c7:(wrap64 ((wrap64 (x5_1+(a1.size:Int)))+((rdOf ByteArray.empty l0 x10_1).size:Int))) > 1048576
   rw [if_pos c7] at H
   have c7b0:decide (1048576 < (wrap64 ((wrap64 (x5_1+(a1.size:Int)))+((rdOf ByteArray.empty l0 x10_1).size:Int))))=true:=decide_eq_true c7
   have c7w:decide (1048576 < (IntKind.i64.wrap ((IntKind.i64.wrap (x5_1+(a1.size:Int)))+((rdOf ByteArray.empty l0 x10_1).size:Int))))=true:=by simp only [i64_w];exact c7b0
   clear c7
   obtain rfl:=zi H
   have fin0_:=zk trivial
   rotate_left
   rw [if_neg c7] at H
   have c7b0:decide (1048576 < (wrap64 ((wrap64 (x5_1+(a1.size:Int)))+((rdOf ByteArray.empty l0 x10_1).size:Int))))=false:=decide_eq_false c7
   have c7w:decide (1048576 < (IntKind.i64.wrap ((IntKind.i64.wrap (x5_1+(a1.size:Int)))+((rdOf ByteArray.empty l0 x10_1).size:Int))))=false:=by simp only [i64_w];exact c7b0
   clear c7
   have H':=zk H
   clear H
   have fin1_:=zk trivial
   rotate_left
   rw [if_neg c6] at H
   have c6b0:decide (0 < x10_1)=false:=decide_eq_false c6
   clear c6
   by_cases c8:(wrap64 (x5_1+((rdOf ByteArray.empty l0 x10_1).size:Int))) > 1048576
   rw [if_pos c8] at H
   have c8b0:decide (1048576 < (wrap64 (x5_1+((rdOf ByteArray.empty l0 x10_1).size:Int))))=true:=decide_eq_true c8
   have c8w:decide (1048576 < (IntKind.i64.wrap (x5_1+((rdOf ByteArray.empty l0 x10_1).size:Int))))=true:=by simp only [i64_w];exact c8b0
   clear c8
   obtain rfl:=zi H
   have fin0_:=zk trivial
   rotate_left
   rw [if_neg c8] at H
   have c8b0:decide (1048576 < (wrap64 (x5_1+((rdOf ByteArray.empty l0 x10_1).size:Int))))=false:=decide_eq_false c8
   have c8w:decide (1048576 < (IntKind.i64.wrap (x5_1+((rdOf ByteArray.empty l0 x10_1).size:Int))))=false:=by simp only [i64_w];exact c8b0
   clear c8
   have H':=zk H
   clear H
   have fin2_:=zk trivial
   rotate_left
   · rw [if_neg c5] at H
     exact absurd H (by simp)
   · rw [if_neg c4] at H
     exact absurd H (by simp)
   · rw [if_neg c3] at H
     have c3b0:decide (x10_1 < (l0.length:Int))=false:=decide_eq_false c3
     clear c3
     replace H:=zo H
     obtain ⟨t28001,A90,H⟩:=H
     replace H:(some t28001)=some r:=H
     have A9:=zk A90
     clear A90
     obtain rfl:=zi H
     go_wp2_with (first|((with_reducible refine gate_callee (f:=52) rfl ?_);refine goesL_ (some 30) rfl rfl Tryd.func52 (by kernel_rfl) rfl #[.slice A0 l0.length c0,.string a1] rfl za5 ?_;(with_reducible refine (strings_Join.calls _ _ l0 a1 t28001 _ ?side1 ?side2 A9.out).mono ?_);(case side1=>repeat (first|exact (Kd.C_below HR0.out HB.out)|(with_reducible refine Kd.C_alloc ?_ _)|(with_reducible refine Kd.C_drewN ?_ _)|(with_reducible refine Kd.C_drew ?_)));(case side2=>exact HC0.out);rintro e w10 ⟨rfl,hb⟩;refine ⟨_,rfl,?_⟩;have n0_:=zk (below_step za2 hb);clear HB;have HB:=n0_;clear n0_;(try clear hb);(try clear hb2);(try clear hk);(try clear hi)))
     go_ret
     exact ⟨za6,za2⟩
   all_goals
    have p28002:0≤(x10_1:Int):=of_decide_eq_true za8
    have q28002:x10_1 < (l0.length:Int):=of_decide_eq_true za8
    obtain ⟨ad28002,e28002,hx28002_0⟩:=Kd.at_string HR0.out x10_1 p28002 q28002
    cases e28002
    replace hx28002_0:=zx HB.out hx28002_0
    replace p28002:=eq_true p28002
    replace q28002:=eq_true q28002
    go_wp2
    first
    | (
      clear fin0_
      go_ret
      exact ⟨za6,za2⟩)
    | (
      clear fin1_
      go_roundg k1
      case measure=>have:=HK1.out;omega
      case rel=>exact ⟨(wrap64 ((wrap64 (x5_1+(a1.size:Int)))+((rdOf ByteArray.empty l0 x10_1).size:Int))),(wrap64 (x10_1+1)),za7,za7,H',⟨za13⟩,⟨za2⟩⟩)
    | (
      clear fin2_
      go_roundg k1
      case measure=>have:=HK1.out;omega
      case rel=>exact ⟨(wrap64 (x5_1+((rdOf ByteArray.empty l0 x10_1).size:Int))),(wrap64 (x10_1+1)),za7,za7,H',⟨za13⟩,⟨za2⟩⟩)
def impl_IsValidConstraint_1.f (a0:Int):Option (Bool):=(impl_within.f a0 (-9) 9).bind fun t49001=>(some (!t49001))
theorem impl_IsValidConstraint_1.calls (a0:Int) (r:Bool) (w:World) (h:impl_IsValidConstraint_1.f a0=some r) :
  Calls Tryd.prog 49 #[.int .i64 a0] w fun e w'=>e = .returned (.bool r)∧Drawn0 w w':=by
 have H:((impl_within.f a0 (-9) 9).bind fun t49001=>(some (!t49001)))=some r:=h
 clear h
 replace H:=zo H
 obtain ⟨t49001,A20,H⟩:=H
 replace H:(some (!t49001))=some r:=H
 have A2:=zk A20
 clear A20
 obtain rfl:=zi H
 go_enter Tryd.func49,Tryd.ntmps49
 go_wp2_with (first|((with_reducible refine gate_callee (f:=47) rfl ?_);refine goesL_ (some 4) rfl rfl Tryd.func47 (by kernel_rfl) rfl #[.int .i64 a0,.int .i64 (-9),.int .i64 9] rfl za5 ?_;(with_reducible refine (impl_within.calls a0 (-9) 9 t49001 _ A2.out).mono ?_);rintro e w' ⟨rfl,⟨nd,rfl⟩⟩;refine ⟨_,rfl,?_⟩))
 go_ret
 exact ⟨za7,za9⟩
end Go.Proofs.YtdchpohiiigobaaDoor.A
namespace Go.Proofs.YtdchpohiiigobaaDoor.Ext
open Go.RowKit YtdchpohiiigobaaDoorW.PrintWords YtdchpohiiigobaaDoorW.PrintLast
theorem goesF_ {P : Program} {ops : Array Oper} {Q : Exit → Act → World → Prop} {rest : List Oper} {oi : Oper} {a : Act} {w : World} (N : Option Tmp) (hd : oi.dst = N) (hg : oi.guard = none) {f : FuncId} {fn : Func} {as_ : Array Operand} {ts : Array TypeId} {c : Operand} (hf : P.funcs[f]? = some fn) (hname : (fn.name == "runtime.NumGoroutine") = false) (hb : fn.body.isSome = true) (args : Array Value)
  (hop:oi.op = .call { callee:=.value c,args:=as_,argTypes:=ts }) (hc:a.eval c = .func (.func f) #[] #[]) (hargs:as_.map a.eval=args)
  (h:Calls P f args w fun e w'=>∃ v,e = .returned v∧wpList P ops Q rest (a.put N v) w'):wpList P ops Q (oi :: rest) a w:=by
 refine wpList_plain hg fun K hK=>?_
 have he:=enters_ hf hname hb args w
 have hrun:(execOp a.eval oi).run P w = .ok (.enter f args) w:=by
  unfold execOp
  rw [hop]
  simp [hc,resolve,Deferred.ofValue,invoke,hargs,he]
 unfold Oper.wp
 rw [hrun,Oper.upon_enter]
 refine h.mono fun e w'' hh=>?_
 obtain ⟨v,rfl,hk⟩:=hh
 subst hd
 exact hK _ _ hk
end Go.Proofs.YtdchpohiiigobaaDoor.Ext
namespace Go.Proofs.YtdchpohiiigobaaDoor.A
open Go.RowKit YtdchpohiiigobaaDoor.Ext YtdchpohiiigobaaDoorW.PrintWords YtdchpohiiigobaaDoorW.PrintLast YtdchpohiiigobaaDoorW.PrintMore
attribute [local go_sem] max2_int min2_int max_two min_two max_three min_three max_four min_four
def slices_IndexFunc_int_int.l0:Nat→List Int→Int→Int→Option (Int)
 | 0,_,_,_=>none
 | k+1,x0,x7,x8=>if x8 < x7 then (if 0≤x8 then (if x8 < (x0.length:Int) then ((impl_IsValidConstraint_1.f (rd x0 x8)).bind fun t64002=>(if t64002=true then (some x8) else (slices_IndexFunc_int_int.l0 k x0 x7 (wrap64 (x8+1))))) else (none)) else (none)) else (some (-1))
def slices_IndexFunc_int_int.f (k:Nat) (l0:List Int):Option (Int):=slices_IndexFunc_int_int.l0 k l0 (l0.length:Int) 0
theorem slices_IndexFunc_int_int.mono_l:∀ k,(∀ y0 y1 y2,LeO (slices_IndexFunc_int_int.l0 k y0 y1 y2) (slices_IndexFunc_int_int.l0 (k+1) y0 y1 y2))
 | 0=>fun _ _ _ r h=>by simp [slices_IndexFunc_int_int.l0] at h
 | k+1=>by
  have ih0:=slices_IndexFunc_int_int.mono_l k
  ·intro y0 y1 y2
   unfold slices_IndexFunc_int_int.l0
   repeat' first
   | with_reducible first|exact ih0 _ _ _|exact LeO.refl _|exact LeO.none _|refine LeO.ite ?_ ?_|refine LeO.bind ?_ (fun _=>?_)
theorem slices_IndexFunc_int_int.mono:∀ a0 k,LeO (slices_IndexFunc_int_int.f k a0) (slices_IndexFunc_int_int.f (k+1) a0):=by
 intro a0 k
 have ih0:=slices_IndexFunc_int_int.mono_l k
 unfold slices_IndexFunc_int_int.f
 repeat' first
  | with_reducible first|exact ih0 _ _ _|exact LeO.refl _|exact LeO.none _|refine LeO.ite ?_ ?_|refine LeO.bind ?_ (fun _=>?_)
theorem slices_IndexFunc_int_int.calls (k:Nat) (A0:Option Addr) (c0:Nat) (l0:List Int) (r:Int) (w:World) (hr0:Kd.C (Kd.int .i64) w A0 l0.length l0) (hc0:l0.length≤c0) (h:slices_IndexFunc_int_int.f k l0=some r) :
   Calls Tryd.prog 64 #[.slice A0 l0.length c0,.func (.func 49) #[] #[]] w fun e w'=>e = .returned (.int .i64 r)∧Drawn0 w w':=by
 have HR0:=zk hr0
 have HC0:=zk hc0
 clear hr0 hc0
 have H:(slices_IndexFunc_int_int.l0 k l0 (l0.length:Int) 0)=some r:=h
 clear h
 have H':=zk H
 clear H
 go_enter Tryd.func64,Tryd.ntmps64
 go_wp2
 first|go_loopg [8] k (fun kq v8 w'=>∃ (x8_1:Int),v8 = .int .i64 x8_1∧Aside0 (slices_IndexFunc_int_int.l0 kq l0 (l0.length:Int) x8_1=some r)∧Aside0 (kq≤k)∧Drawn0 w w')|(simp only [Act.put,zt,zv,zu];go_loopg [8] k (fun kq v8 w'=>∃ (x8_1:Int),v8 = .int .i64 x8_1∧Aside0 (slices_IndexFunc_int_int.l0 kq l0 (l0.length:Int) x8_1=some r)∧Aside0 (kq≤k)∧Drawn0 w w'))
 case atStart=>exact ⟨(0),za7,H',⟨Nat.le_refl _⟩,za9⟩
 case round =>
  clear H'
  obtain ⟨x8_1,rfl,HA,HK1,⟨m1,rfl⟩⟩:=hrel
  cases gk with
  | zero=>exact absurd HA.out (by simp [slices_IndexFunc_int_int.l0])
  | succ k1 =>
   have H:=HA.out
   clear HA
   simp only [slices_IndexFunc_int_int.l0] at H
   by_cases c2:x8_1 < (l0.length:Int)
   rw [if_pos c2] at H
   have c2b0:decide (x8_1 < (l0.length:Int))=true:=decide_eq_true c2
   clear c2
   by_cases c3:0≤x8_1
   rw [if_pos c3] at H
   have c3b0:decide (0≤x8_1)=true:=decide_eq_true c3
   clear c3
   by_cases c4:x8_1 < (l0.length:Int)
   rw [if_pos c4] at H
   have c4b0:decide (x8_1 < (l0.length:Int))=true:=decide_eq_true c4
   clear c4
   replace H:=zo H
   obtain ⟨t64002,A50,H⟩:=H
   replace H:(if t64002=true then (some x8_1) else (slices_IndexFunc_int_int.l0 k1 l0 (l0.length:Int) (wrap64 (x8_1+1))))=some r:=H
   have A5:=zk A50
   clear A50
   by_cases c6:t64002=true
   subst c6
   have H1:(some x8_1)=some r:=by rw [if_pos rfl] at H;exact H
   clear H
   have H:=H1
   clear H1
   obtain rfl:=zi H
   have fin0_:=zk trivial
   rotate_left
   replace c6:=Bool.eq_false_iff.mpr c6
   subst c6
   have H1:(slices_IndexFunc_int_int.l0 k1 l0 (l0.length:Int) (wrap64 (x8_1+1)))=some r:=by rw [if_neg (show ¬ (false=true) by decide)] at H;exact H
   clear H
   have H:=H1
   clear H1
   have H':=zk H
   clear H
   have fin1_:=zk trivial
   rotate_left
   · rw [if_neg c4] at H
     exact absurd H (by simp)
   · rw [if_neg c3] at H
     exact absurd H (by simp)
   · rw [if_neg c2] at H
     have c2b0:decide (x8_1 < (l0.length:Int))=false:=decide_eq_false c2
     clear c2
     obtain rfl:=zi H
     go_wp2
     go_ret
     exact ⟨za7,za9⟩
   all_goals
    have p64001:0≤(x8_1:Int):=of_decide_eq_true za8
    have q64001:x8_1 < (l0.length:Int):=of_decide_eq_true za8
    obtain ⟨ad64001,e64001,hx64001_0⟩:=Kd.at_int HR0.out x8_1 p64001 q64001
    cases e64001
    replace p64001:=eq_true p64001
    replace q64001:=eq_true q64001
    go_wp2_with (((with_reducible refine gate_dst (N:=16) rfl ?_);refine goesF_ (some 16) rfl rfl Tryd.func49 (by kernel_rfl) rfl #[.int .i64 (rd l0 x8_1)] rfl (by first|rfl|(go_simp;done)) za5 ?_;(with_reducible refine (impl_IsValidConstraint_1.calls (rd l0 x8_1) _ _ A5.out).mono ?_);rintro e w' ⟨rfl,⟨nd,rfl⟩⟩;refine ⟨_,rfl,?_⟩))
    first
    | (
      clear fin0_
      go_ret
      exact ⟨za7,za9⟩)
    | (
      clear fin1_
      go_roundg k1
      case measure=>have:=HK1.out;omega
      case rel=>exact ⟨(wrap64 (x8_1+1)),za7,H',⟨za13⟩,za9⟩)
def slices_ContainsFunc_int_int.f (k:Nat) (l0:List Int):Option (Bool):=(slices_IndexFunc_int_int.f k l0).bind fun t48001=>(some (decide (t48001 ≥ 0)))
theorem slices_ContainsFunc_int_int.mono:∀ a0 k,LeO (slices_ContainsFunc_int_int.f k a0) (slices_ContainsFunc_int_int.f (k+1) a0):=by
 intro a0 k
 unfold slices_ContainsFunc_int_int.f
 repeat' first
  | with_reducible first|exact slices_IndexFunc_int_int.mono _ _|exact LeO.refl _|exact LeO.none _|refine LeO.ite ?_ ?_|refine LeO.bind ?_ (fun _=>?_)
theorem slices_ContainsFunc_int_int.calls (k:Nat) (A0:Option Addr) (c0:Nat) (l0:List Int) (r:Bool) (w:World) (hr0:Kd.C (Kd.int .i64) w A0 l0.length l0) (hc0:l0.length≤c0) (h:slices_ContainsFunc_int_int.f k l0=some r) :
  Calls Tryd.prog 48 #[.slice A0 l0.length c0,.func (.func 49) #[] #[]] w fun e w'=>e = .returned (.bool r)∧Drawn0 w w':=by
 have HR0:=zk hr0
 have HC0:=zk hc0
 clear hr0 hc0
 have H:((slices_IndexFunc_int_int.f k l0).bind fun t48001=>(some (decide (t48001 ≥ 0))))=some r:=h
 clear h
 replace H:=zo H
 obtain ⟨t48001,A20,H⟩:=H
 replace H:(some (decide (t48001 ≥ 0)))=some r:=H
 have A2:=zk A20
 clear A20
 obtain rfl:=zi H
 go_enter Tryd.func48,Tryd.ntmps48
 go_wp2_with (first|((with_reducible refine gate_callee (f:=64) rfl ?_);refine goesL_ (some 7) rfl rfl Tryd.func64 (by kernel_rfl) rfl #[.slice A0 l0.length c0,.func (.func 49) #[] #[]] rfl za5 ?_;(with_reducible refine (slices_IndexFunc_int_int.calls k _ _ l0 t48001 _ ?side1 ?side2 A2.out).mono ?_);(case side1=>repeat (first|exact HR0.out|(with_reducible refine Kd.C_alloc ?_ _)|(with_reducible refine Kd.C_drewN ?_ _)|(with_reducible refine Kd.C_drew ?_)));(case side2=>exact HC0.out);rintro e w' ⟨rfl,⟨nd,rfl⟩⟩;refine ⟨_,rfl,?_⟩))
 go_ret
 exact ⟨za7,za9⟩
mutual
def impl_IsValidConstraint.j0:Nat→Bool→Int→ByteArray→ByteArray→Int→ByteArray→List (S32)→List Int→Int→Option (Bool)
 | 0,_,_,_,_,_,_,_,_,_=>none
 | k+1,x16,x23002000,x23002001,x23002002,x23002003,x23002004,x23002005,x23002006,x23002007=>if x16=true then (some false) else (if x23002000=1 then (impl_IsValidConstraint.j1 k x23002000 (x23002000 == 1) x23002000 x23002001 x23002002 x23002003 x23002004 x23002005 x23002006 x23002007) else (impl_IsValidConstraint.j1 k x23002000 (x23002000 == 2) x23002000 x23002001 x23002002 x23002003 x23002004 x23002005 x23002006 x23002007))
def impl_IsValidConstraint.j1:Nat→Int→Bool→Int→ByteArray→ByteArray→Int→ByteArray→List (S32)→List Int→Int→Option (Bool)
 | 0,_,_,_,_,_,_,_,_,_,_=>none
 | k+1,x18,x19,x23002000,x23002001,x23002002,x23002003,x23002004,x23002005,x23002006,x23002007=>if x19=true then ((impl_IsTerm.f k x23002001).bind fun t23002=>(if t23002=true then ((impl_IsTerm.f k x23002002).bind fun t23003=>(if t23003=true then ((impl_isZeroRegex.f x23002003 x23002004 x23002005).bind fun t23004=>(some t23004)) else (some false))) else (some false))) else (if x18=3 then (impl_IsValidConstraint.j2 k x18 (x18 == 3) x23002000 x23002001 x23002002 x23002003 x23002004 x23002005 x23002006 x23002007) else (impl_IsValidConstraint.j2 k x18 (x18 == 4) x23002000 x23002001 x23002002 x23002003 x23002004 x23002005 x23002006 x23002007))
def impl_IsValidConstraint.j2:Nat→Int→Bool→Int→ByteArray→ByteArray→Int→ByteArray→List (S32)→List Int→Int→Option (Bool)
 | 0,_,_,_,_,_,_,_,_,_,_=>none
 | k+1,x18,x35,x23002000,x23002001,x23002002,x23002003,x23002004,x23002005,x23002006,x23002007=>if x35=true then ((impl_IsTerm.f k x23002001).bind fun t23005=>(if t23005=true then (if x23002002.toList=([]:List UInt8) then ((impl_IsValidRegex.f k x23002003 x23002004 x23002005).bind fun t23006=>(some t23006)) else (some false)) else (some false))) else (if x18=5 then (if x23002001.toList=([]:List UInt8) then (if x23002002.toList=([]:List UInt8) then ((impl_isZeroRegex.f x23002003 x23002004 x23002005).bind fun t23007=>(if t23007=true then (if (x23002006.length:Int)=3 then ((impl_within.f x23002007 (-99) 99).bind fun t23008=>(if t23008=true then ((slices_ContainsFunc_int_int.f k x23002006).bind fun t23009=>(some (!t23009))) else (some false))) else (some false)) else (some false))) else (some false)) else (some false)) else (some false))
end
def impl_IsValidConstraint.f (k:Nat) (a0_0:Int) (a0_1:ByteArray) (a0_2:ByteArray) (a0_3:Int) (a0_4:ByteArray) (l0_5:List (S32)) (l0_6:List Int) (a0_7:Int):Option (Bool):=if a0_0=5 then (impl_IsValidConstraint.j0 k false a0_0 a0_1 a0_2 a0_3 a0_4 l0_5 l0_6 a0_7) else (if (l0_6.length:Int)=0 then (impl_IsValidConstraint.j0 k (a0_7 != 0) a0_0 a0_1 a0_2 a0_3 a0_4 l0_5 l0_6 a0_7) else (impl_IsValidConstraint.j0 k true a0_0 a0_1 a0_2 a0_3 a0_4 l0_5 l0_6 a0_7))
theorem impl_IsValidConstraint.mono_l:∀ k,(∀ y0 y1 y2 y3 y4 y5 y6 y7 y8,LeO (impl_IsValidConstraint.j0 k y0 y1 y2 y3 y4 y5 y6 y7 y8) (impl_IsValidConstraint.j0 (k+1) y0 y1 y2 y3 y4 y5 y6 y7 y8))∧(∀ y0 y1 y2 y3 y4 y5 y6 y7 y8 y9,LeO (impl_IsValidConstraint.j1 k y0 y1 y2 y3 y4 y5 y6 y7 y8 y9) (impl_IsValidConstraint.j1 (k+1) y0 y1 y2 y3 y4 y5 y6 y7 y8 y9))∧(∀ y0 y1 y2 y3 y4 y5 y6 y7 y8 y9,LeO (impl_IsValidConstraint.j2 k y0 y1 y2 y3 y4 y5 y6 y7 y8 y9) (impl_IsValidConstraint.j2 (k+1) y0 y1 y2 y3 y4 y5 y6 y7 y8 y9))
 | 0=>⟨fun _ _ _ _ _ _ _ _ _ r h=>by simp [impl_IsValidConstraint.j0] at h,fun _ _ _ _ _ _ _ _ _ _ r h=>by simp [impl_IsValidConstraint.j1] at h,fun _ _ _ _ _ _ _ _ _ _ r h=>by simp [impl_IsValidConstraint.j2] at h⟩
 | k+1=>by
  obtain ⟨ih0,ih1,ih2⟩:=impl_IsValidConstraint.mono_l k
  refine ⟨?_,?_,?_⟩
  ·intro y0 y1 y2 y3 y4 y5 y6 y7 y8
   unfold impl_IsValidConstraint.j0
   repeat' first
   | with_reducible first|exact ih0 _ _ _ _ _ _ _ _ _|exact ih1 _ _ _ _ _ _ _ _ _ _|exact ih2 _ _ _ _ _ _ _ _ _ _|exact impl_IsTerm.mono _ _|exact impl_IsValidRegex.mono _ _ _ _|exact slices_ContainsFunc_int_int.mono _ _|exact LeO.refl _|exact LeO.none _|refine LeO.ite ?_ ?_|refine LeO.bind ?_ (fun _=>?_)
  ·intro y0 y1 y2 y3 y4 y5 y6 y7 y8 y9
   unfold impl_IsValidConstraint.j1
   repeat' first
   | with_reducible first|exact ih0 _ _ _ _ _ _ _ _ _|exact ih1 _ _ _ _ _ _ _ _ _ _|exact ih2 _ _ _ _ _ _ _ _ _ _|exact impl_IsTerm.mono _ _|exact impl_IsValidRegex.mono _ _ _ _|exact slices_ContainsFunc_int_int.mono _ _|exact LeO.refl _|exact LeO.none _|refine LeO.ite ?_ ?_|refine LeO.bind ?_ (fun _=>?_)
  ·intro y0 y1 y2 y3 y4 y5 y6 y7 y8 y9
   unfold impl_IsValidConstraint.j2
   repeat' first
   | with_reducible first|exact ih0 _ _ _ _ _ _ _ _ _|exact ih1 _ _ _ _ _ _ _ _ _ _|exact ih2 _ _ _ _ _ _ _ _ _ _|exact impl_IsTerm.mono _ _|exact impl_IsValidRegex.mono _ _ _ _|exact slices_ContainsFunc_int_int.mono _ _|exact LeO.refl _|exact LeO.none _|refine LeO.ite ?_ ?_|refine LeO.bind ?_ (fun _=>?_)
theorem impl_IsValidConstraint.mono:∀ a0 a1 a2 a3 a4 a5 a6 a7 k,LeO (impl_IsValidConstraint.f k a0 a1 a2 a3 a4 a5 a6 a7) (impl_IsValidConstraint.f (k+1) a0 a1 a2 a3 a4 a5 a6 a7):=by
 intro a0 a1 a2 a3 a4 a5 a6 a7 k
 obtain ⟨ih0,ih1,ih2⟩:=impl_IsValidConstraint.mono_l k
 unfold impl_IsValidConstraint.f
 repeat' first
  | with_reducible first|exact ih0 _ _ _ _ _ _ _ _ _|exact ih1 _ _ _ _ _ _ _ _ _ _|exact ih2 _ _ _ _ _ _ _ _ _ _|exact impl_IsTerm.mono _ _|exact impl_IsValidRegex.mono _ _ _ _|exact slices_ContainsFunc_int_int.mono _ _|exact LeO.refl _|exact LeO.none _|refine LeO.ite ?_ ?_|refine LeO.bind ?_ (fun _=>?_)
theorem impl_IsValidConstraint.calls (k:Nat) (a0_0:Int) (a0_1:ByteArray) (a0_2:ByteArray) (a0_3:Int) (a0_4:ByteArray) (A0_5:Option Addr) (c0_5:Nat) (l0_5:List (S32)) (A0_6:Option Addr) (c0_6:Nat) (l0_6:List Int) (a0_7:Int) (r:Bool) (w:World) (hr0_5:Kd.C k32 w A0_5 l0_5.length l0_5) (hc0_5:l0_5.length≤c0_5) (hr0_6:Kd.C (Kd.int .i64) w A0_6 l0_6.length l0_6) (hc0_6:l0_6.length≤c0_6) (h:impl_IsValidConstraint.f k a0_0 a0_1 a0_2 a0_3 a0_4 l0_5 l0_6 a0_7=some r) :
   Calls Tryd.prog 23 #[.agg #[.int .i64 a0_0,.string a0_1,.string a0_2,.int .i64 a0_3,.string a0_4,.slice A0_5 l0_5.length c0_5,.slice A0_6 l0_6.length c0_6,.int .i64 a0_7]] w fun e w'=>e = .returned (.bool r)∧Below w.heap.size w w':=by
 have hu34:=Tryd.underlying34
 have hu32:=Tryd.underlying32
 have HR0_5:=zk hr0_5
 have HC0_5:=zk hc0_5
 clear hr0_5 hc0_5
 have HR0_6:=zk hr0_6
 have HC0_6:=zk hc0_6
 clear hr0_6 hc0_6
 have HB:=zk (Below.refl w.heap.size w)
 have H:(if a0_0=5 then (impl_IsValidConstraint.j0 k false a0_0 a0_1 a0_2 a0_3 a0_4 l0_5 l0_6 a0_7) else (if (l0_6.length:Int)=0 then (impl_IsValidConstraint.j0 k (a0_7 != 0) a0_0 a0_1 a0_2 a0_3 a0_4 l0_5 l0_6 a0_7) else (impl_IsValidConstraint.j0 k true a0_0 a0_1 a0_2 a0_3 a0_4 l0_5 l0_6 a0_7)))=some r:=h
 clear h
 have HC2:=zk H
 clear H
 go_enter Tryd.func23,Tryd.ntmps23
 go_upto_region 1 with (first|((with_reducible refine gate_dst (N:=1) rfl ?_);(try (refine gate_guard (by rfl) ?_;dsimp only));refine zE (N:=1) (cs:=#[.int .i64 a0_0,.string a0_1,.string a0_2,.int .i64 a0_3,.string a0_4,.slice A0_5 l0_5.length c0_5,.slice A0_6 l0_6.length c0_6,.int .i64 a0_7]) (t:=34) ?_;intro gb23001 hg w3 hbox hb;have n0_:=zk (below_step za2 hb);have n1_:=zk (hbox);have n2_:=zk (zs (w:=w) hg za2);have n3_:=zk (zs (w:=w) hg za2);clear HB;have HB:=n0_;have BK23001:=n1_;have GW23001:=n2_;have GE23001:=n3_;clear n0_ n1_ n2_ n3_;clear hb hbox hg))
 (try simp only [Act.put,zt,zu,zv])
 go_cut [16] (fun v16 wc=>∃ (kq:Nat) (x16_1:Bool),v16 = .bool x16_1∧Aside0 (impl_IsValidConstraint.j0 kq x16_1 a0_0 a0_1 a0_2 a0_3 a0_4 l0_5 l0_6 a0_7=some r)∧Aside0 (kq≤k)∧Aside0 (wc.heap[gb23001]? = some (.cells #[.int .i64 a0_0,.string a0_1,.string a0_2,.int .i64 a0_3,.string a0_4,(.slice A0_5 l0_5.length c0_5),(.slice A0_6 l0_6.length c0_6),.int .i64 a0_7] 34 (0,0)))∧Aside0 (Below w.heap.size w wc))
 case first =>
  have H:=HC2.out
  clear HC2
  by_cases c4:a0_0=5
  · rw [if_pos c4] at H
    have c4b0:(a0_0 == 5)=true:=beq_iff_eq.mpr c4
    have c4b1:(a0_0 != 5)=false:=bne_eq_false_iff_eq.mpr c4
    clear c4
    (first|rw [c4b0]|(simp only [i64_w,i32_w];rw [c4b0])|skip)
    have H':=zk H
    clear H
    obtain ⟨hcz5_0,hcz5_1,hcz5_2,hcz5_3,hcz5_4,hcz5_5,hcz5_6,hcz5_7,hfz5_0,hfz5_1,hfz5_2,hfz5_3,hfz5_4,hfz5_5,hfz5_6,hfz5_7⟩:=blk8 BK23001.out
    go_wp2
    go_meet
    case rel=>exact ⟨_,(false),za7,H',⟨za17⟩,⟨za0 BK23001.out⟩,⟨za2⟩⟩
  rw [if_neg c4] at H
  have c4b0:(a0_0 == 5)=false:=beq_eq_false_iff_ne.mpr c4
  have c4b1:(a0_0 != 5)=true:=bne_iff_ne.mpr c4
  (first|rw [c4b0]|(simp only [i64_w,i32_w];rw [c4b0])|skip)
  by_cases c6:(l0_6.length:Int)=0
  · rw [if_pos c6] at H
    have c6b0:((l0_6.length:Int) == 0)=true:=beq_iff_eq.mpr c6
    have c6b1:((l0_6.length:Int) != 0)=false:=bne_eq_false_iff_eq.mpr c6
    clear c6
    have H':=zk H
    clear H
    obtain ⟨hcz7_0,hcz7_1,hcz7_2,hcz7_3,hcz7_4,hcz7_5,hcz7_6,hcz7_7,hfz7_0,hfz7_1,hfz7_2,hfz7_3,hfz7_4,hfz7_5,hfz7_6,hfz7_7⟩:=blk8 BK23001.out
    go_wp2
    go_meet
    case rel=>exact ⟨_,((a0_7 != 0)),za7,H',⟨za17⟩,⟨za0 BK23001.out⟩,⟨za2⟩⟩
  · rw [if_neg c6] at H
    have c6b0:((l0_6.length:Int) == 0)=false:=beq_eq_false_iff_ne.mpr c6
    have c6b1:((l0_6.length:Int) != 0)=true:=bne_iff_ne.mpr c6
    have c6b2:¬ (l0_6 = []):=fun h_=>c6 (by rw [h_];rfl)
    have H':=zk H
    clear H
    obtain ⟨hcz8_0,hcz8_1,hcz8_2,hcz8_3,hcz8_4,hcz8_5,hcz8_6,hcz8_7,hfz8_0,hfz8_1,hfz8_2,hfz8_3,hfz8_4,hfz8_5,hfz8_6,hfz8_7⟩:=blk8 BK23001.out
    go_wp2
    go_meet
    case rel=>exact ⟨_,(true),za7,H',⟨za17⟩,⟨za0 BK23001.out⟩,⟨za2⟩⟩
 case rest =>
  clear HC2
  obtain ⟨kq,x16_1,rfl,HA,HJ1,BK23001,HB⟩:=hcut
  cases kq with
  | zero=>exact absurd HA.out (by simp [impl_IsValidConstraint.j0])
  | succ kj1 =>
   have H:=HA.out
   clear HA
   simp only [impl_IsValidConstraint.j0] at H
   by_cases c9:x16_1=true
   · subst c9
     have H1:(some false)=some r:=by rw [if_pos rfl] at H;exact H
     clear H
     have H:=H1
     clear H1
     obtain rfl:=zi H
     go_wp2
     go_ret
     exact ⟨za6,za2⟩
   · replace c9:=Bool.eq_false_iff.mpr c9
     subst c9
     have H1:(if a0_0=1 then (impl_IsValidConstraint.j1 kj1 a0_0 (a0_0 == 1) a0_0 a0_1 a0_2 a0_3 a0_4 l0_5 l0_6 a0_7) else (impl_IsValidConstraint.j1 kj1 a0_0 (a0_0 == 2) a0_0 a0_1 a0_2 a0_3 a0_4 l0_5 l0_6 a0_7))=some r:=by rw [if_neg (show ¬ (false=true) by decide)] at H;exact H
     clear H
     have H:=H1
     clear H1
     have HC10:=zk H
     clear H
     obtain ⟨hcz11_0,hcz11_1,hcz11_2,hcz11_3,hcz11_4,hcz11_5,hcz11_6,hcz11_7,hfz11_0,hfz11_1,hfz11_2,hfz11_3,hfz11_4,hfz11_5,hfz11_6,hfz11_7⟩:=blk8 BK23001.out
     go_upto_if 19 with (fail)
     go_cut [19] (fun v19 wc=>∃ (kq:Nat) (x19_9:Bool),v19 = .bool x19_9∧Aside0 (impl_IsValidConstraint.j1 kq a0_0 x19_9 a0_0 a0_1 a0_2 a0_3 a0_4 l0_5 l0_6 a0_7=some r)∧Aside0 (kq≤kj1)∧Aside0 (wc.heap[gb23001]? = some (.cells #[.int .i64 a0_0,.string a0_1,.string a0_2,.int .i64 a0_3,.string a0_4,(.slice A0_5 l0_5.length c0_5),(.slice A0_6 l0_6.length c0_6),.int .i64 a0_7] 34 (0,0)))∧Aside0 (Below w.heap.size w wc))
     case first =>
      have H:=HC10.out
      clear HC10
      by_cases c12:a0_0=1
      · rw [if_pos c12] at H
        have c12b0:(a0_0 == 1)=true:=beq_iff_eq.mpr c12
        have c12b1:(a0_0 != 1)=false:=bne_eq_false_iff_eq.mpr c12
        clear c12
        (first|rw [c12b0]|(simp only [i64_w,i32_w];rw [c12b0])|skip)
        have H':=zk H
        clear H
        go_wp2
        go_meet
        case rel=>exact ⟨_,((a0_0 == 1)),za7,H',⟨za20⟩,⟨za0 BK23001.out⟩,⟨za2⟩⟩
      · rw [if_neg c12] at H
        have c12b0:(a0_0 == 1)=false:=beq_eq_false_iff_ne.mpr c12
        have c12b1:(a0_0 != 1)=true:=bne_iff_ne.mpr c12
        (first|rw [c12b0]|(simp only [i64_w,i32_w];rw [c12b0])|skip)
        have H':=zk H
        clear H
        go_wp2
        go_meet
        case rel=>exact ⟨_,((a0_0 == 2)),za7,H',⟨za20⟩,⟨za0 BK23001.out⟩,⟨za2⟩⟩
     case rest =>
      clear HC10
      try clear c9
      try clear hcz11_0
      try clear hcz11_1
      try clear hcz11_2
      try clear hcz11_3
      try clear hcz11_4
      try clear hcz11_5
      try clear hcz11_6
      try clear hcz11_7
      try clear hfz11_0
      try clear hfz11_1
      try clear hfz11_2
      try clear hfz11_3
      try clear hfz11_4
      try clear hfz11_5
      try clear hfz11_6
      try clear hfz11_7
      obtain ⟨kq,x19_9,rfl,HA,HJ9,BK23001,HB⟩:=hcut
      cases kq with
      | zero=>exact absurd HA.out (by simp [impl_IsValidConstraint.j1])
      | succ kj9 =>
       have H:=HA.out
       clear HA
       simp only [impl_IsValidConstraint.j1] at H
       by_cases c13:x19_9=true
       subst c13
       have H1:((impl_IsTerm.f kj9 a0_1).bind fun t23002=>(if t23002=true then ((impl_IsTerm.f kj9 a0_2).bind fun t23003=>(if t23003=true then ((impl_isZeroRegex.f a0_3 a0_4 l0_5).bind fun t23004=>(some t23004)) else (some false))) else (some false)))=some r:=by rw [if_pos rfl] at H;exact H
       clear H
       have H:=H1
       clear H1
       replace H:=zo H
       obtain ⟨t23002,A140,H⟩:=H
       replace H:(if t23002=true then ((impl_IsTerm.f kj9 a0_2).bind fun t23003=>(if t23003=true then ((impl_isZeroRegex.f a0_3 a0_4 l0_5).bind fun t23004=>(some t23004)) else (some false))) else (some false))=some r:=H
       have A14:=zk A140
       clear A140
       by_cases c15:t23002=true
       subst c15
       have H1:((impl_IsTerm.f kj9 a0_2).bind fun t23003=>(if t23003=true then ((impl_isZeroRegex.f a0_3 a0_4 l0_5).bind fun t23004=>(some t23004)) else (some false)))=some r:=by rw [if_pos rfl] at H;exact H
       clear H
       have H:=H1
       clear H1
       replace H:=zo H
       obtain ⟨t23003,A160,H⟩:=H
       replace H:(if t23003=true then ((impl_isZeroRegex.f a0_3 a0_4 l0_5).bind fun t23004=>(some t23004)) else (some false))=some r:=H
       have A16:=zk A160
       clear A160
       by_cases c17:t23003=true
       subst c17
       have H1:((impl_isZeroRegex.f a0_3 a0_4 l0_5).bind fun t23004=>(some t23004))=some r:=by rw [if_pos rfl] at H;exact H
       clear H
       have H:=H1
       clear H1
       replace H:=zo H
       obtain ⟨t23004,A180,H⟩:=H
       replace H:(some t23004)=some r:=H
       have A18:=zk A180
       clear A180
       rotate_left
       replace c17:=Bool.eq_false_iff.mpr c17
       subst c17
       have H1:(some false)=some r:=by rw [if_neg (show ¬ (false=true) by decide)] at H;exact H
       clear H
       have H:=H1
       clear H1
       rotate_left
       replace c15:=Bool.eq_false_iff.mpr c15
       subst c15
       have H1:(some false)=some r:=by rw [if_neg (show ¬ (false=true) by decide)] at H;exact H
       clear H
       have H:=H1
       clear H1
       rotate_left
       · replace c13:=Bool.eq_false_iff.mpr c13
         subst c13
         have H1:(if a0_0=3 then (impl_IsValidConstraint.j2 kj9 a0_0 (a0_0 == 3) a0_0 a0_1 a0_2 a0_3 a0_4 l0_5 l0_6 a0_7) else (impl_IsValidConstraint.j2 kj9 a0_0 (a0_0 == 4) a0_0 a0_1 a0_2 a0_3 a0_4 l0_5 l0_6 a0_7))=some r:=by rw [if_neg (show ¬ (false=true) by decide)] at H;exact H
         clear H
         have H:=H1
         clear H1
         have HC23:=zk H
         clear H
         go_upto_if 35 with (fail)
         go_cut [35] (fun v35 wc=>∃ (kq:Nat) (x35_22:Bool),v35 = .bool x35_22∧Aside0 (impl_IsValidConstraint.j2 kq a0_0 x35_22 a0_0 a0_1 a0_2 a0_3 a0_4 l0_5 l0_6 a0_7=some r)∧Aside0 (kq≤kj9)∧Aside0 (wc.heap[gb23001]? = some (.cells #[.int .i64 a0_0,.string a0_1,.string a0_2,.int .i64 a0_3,.string a0_4,(.slice A0_5 l0_5.length c0_5),(.slice A0_6 l0_6.length c0_6),.int .i64 a0_7] 34 (0,0)))∧Aside0 (Below w.heap.size w wc))
         case first =>
          have H:=HC23.out
          clear HC23
          by_cases c24:a0_0=3
          · rw [if_pos c24] at H
            have c24b0:(a0_0 == 3)=true:=beq_iff_eq.mpr c24
            have c24b1:(a0_0 != 3)=false:=bne_eq_false_iff_eq.mpr c24
            clear c24
            (first|rw [c24b0]|(simp only [i64_w,i32_w];rw [c24b0])|skip)
            have H':=zk H
            clear H
            go_wp2
            go_meet
            case rel=>exact ⟨_,((a0_0 == 3)),za7,H',⟨by have:=HJ1.out;have:=HJ9.out;first|omega|exact Nat.le_refl _⟩,⟨za0 BK23001.out⟩,⟨za2⟩⟩
          · rw [if_neg c24] at H
            have c24b0:(a0_0 == 3)=false:=beq_eq_false_iff_ne.mpr c24
            have c24b1:(a0_0 != 3)=true:=bne_iff_ne.mpr c24
            (first|rw [c24b0]|(simp only [i64_w,i32_w];rw [c24b0])|skip)
            have H':=zk H
            clear H
            go_wp2
            go_meet
            case rel=>exact ⟨_,((a0_0 == 4)),za7,H',⟨by have:=HJ1.out;have:=HJ9.out;first|omega|exact Nat.le_refl _⟩,⟨za0 BK23001.out⟩,⟨za2⟩⟩
         case rest =>
          clear HC23
          try clear c9
          try clear c13
          try clear hcz11_0
          try clear hcz11_1
          try clear hcz11_2
          try clear hcz11_3
          try clear hcz11_4
          try clear hcz11_5
          try clear hcz11_6
          try clear hcz11_7
          try clear hfz11_0
          try clear hfz11_1
          try clear hfz11_2
          try clear hfz11_3
          try clear hfz11_4
          try clear hfz11_5
          try clear hfz11_6
          try clear hfz11_7
          obtain ⟨kq,x35_22,rfl,HA,HJ22,BK23001,HB⟩:=hcut
          cases kq with
          | zero=>exact absurd HA.out (by simp [impl_IsValidConstraint.j2])
          | succ kj22 =>
           have H:=HA.out
           clear HA
           simp only [impl_IsValidConstraint.j2] at H
           by_cases c25:x35_22=true
           subst c25
           have H1:((impl_IsTerm.f kj22 a0_1).bind fun t23005=>(if t23005=true then (if a0_2.toList=([]:List UInt8) then ((impl_IsValidRegex.f kj22 a0_3 a0_4 l0_5).bind fun t23006=>(some t23006)) else (some false)) else (some false)))=some r:=by rw [if_pos rfl] at H;exact H
           clear H
           have H:=H1
           clear H1
           replace H:=zo H
           obtain ⟨t23005,A260,H⟩:=H
           replace H:(if t23005=true then (if a0_2.toList=([]:List UInt8) then ((impl_IsValidRegex.f kj22 a0_3 a0_4 l0_5).bind fun t23006=>(some t23006)) else (some false)) else (some false))=some r:=H
           have A26:=zk A260
           clear A260
           by_cases c27:t23005=true
           subst c27
           have H1:(if a0_2.toList=([]:List UInt8) then ((impl_IsValidRegex.f kj22 a0_3 a0_4 l0_5).bind fun t23006=>(some t23006)) else (some false))=some r:=by rw [if_pos rfl] at H;exact H
           clear H
           have H:=H1
           clear H1
           by_cases c28:a0_2.toList=([]:List UInt8)
           rw [if_pos c28] at H
           have c28b0:(a0_2.toList == ([]:List UInt8))=true:=beq_iff_eq.mpr c28
           have c28b1:(a0_2.toList != ([]:List UInt8))=false:=bne_eq_false_iff_eq.mpr c28
           clear c28
           replace H:=zo H
           obtain ⟨t23006,A290,H⟩:=H
           replace H:(some t23006)=some r:=H
           have A29:=zk A290
           clear A290
           rotate_left
           rw [if_neg c28] at H
           have c28b0:(a0_2.toList == ([]:List UInt8))=false:=beq_eq_false_iff_ne.mpr c28
           have c28b1:(a0_2.toList != ([]:List UInt8))=true:=bne_iff_ne.mpr c28
           rotate_left
           replace c27:=Bool.eq_false_iff.mpr c27
           subst c27
           have H1:(some false)=some r:=by rw [if_neg (show ¬ (false=true) by decide)] at H;exact H
           clear H
           have H:=H1
           clear H1
           rotate_left
           replace c25:=Bool.eq_false_iff.mpr c25
           subst c25
           have H1:(if a0_0=5 then (if a0_1.toList=([]:List UInt8) then (if a0_2.toList=([]:List UInt8) then ((impl_isZeroRegex.f a0_3 a0_4 l0_5).bind fun t23007=>(if t23007=true then (if (l0_6.length:Int)=3 then ((impl_within.f a0_7 (-99) 99).bind fun t23008=>(if t23008=true then ((slices_ContainsFunc_int_int.f kj22 l0_6).bind fun t23009=>(some (!t23009))) else (some false))) else (some false)) else (some false))) else (some false)) else (some false)) else (some false))=some r:=by rw [if_neg (show ¬ (false=true) by decide)] at H;exact H
           clear H
           have H:=H1
           clear H1
           by_cases c34:a0_0=5
           rw [if_pos c34] at H
           have c34b0:(a0_0 == 5)=true:=beq_iff_eq.mpr c34
           have c34b1:(a0_0 != 5)=false:=bne_eq_false_iff_eq.mpr c34
           clear c34
           by_cases c35:a0_1.toList=([]:List UInt8)
           rw [if_pos c35] at H
           have c35b0:(a0_1.toList == ([]:List UInt8))=true:=beq_iff_eq.mpr c35
           have c35b1:(a0_1.toList != ([]:List UInt8))=false:=bne_eq_false_iff_eq.mpr c35
           clear c35
           by_cases c36:a0_2.toList=([]:List UInt8)
           rw [if_pos c36] at H
           have c36b0:(a0_2.toList == ([]:List UInt8))=true:=beq_iff_eq.mpr c36
           have c36b1:(a0_2.toList != ([]:List UInt8))=false:=bne_eq_false_iff_eq.mpr c36
           clear c36
           replace H:=zo H
           obtain ⟨t23007,A370,H⟩:=H
           replace H:(if t23007=true then (if (l0_6.length:Int)=3 then ((impl_within.f a0_7 (-99) 99).bind fun t23008=>(if t23008=true then ((slices_ContainsFunc_int_int.f kj22 l0_6).bind fun t23009=>(some (!t23009))) else (some false))) else (some false)) else (some false))=some r:=H
           have A37:=zk A370
           clear A370
           by_cases c38:t23007=true
           subst c38
           have H1:(if (l0_6.length:Int)=3 then ((impl_within.f a0_7 (-99) 99).bind fun t23008=>(if t23008=true then ((slices_ContainsFunc_int_int.f kj22 l0_6).bind fun t23009=>(some (!t23009))) else (some false))) else (some false))=some r:=by rw [if_pos rfl] at H;exact H
           clear H
           have H:=H1
           clear H1
           by_cases c39:(l0_6.length:Int)=3
           rw [if_pos c39] at H
           have c39b0:((l0_6.length:Int) == 3)=true:=beq_iff_eq.mpr c39
           have c39b1:((l0_6.length:Int) != 3)=false:=bne_eq_false_iff_eq.mpr c39
           clear c39
           replace H:=zo H
           obtain ⟨t23008,A400,H⟩:=H
           replace H:(if t23008=true then ((slices_ContainsFunc_int_int.f kj22 l0_6).bind fun t23009=>(some (!t23009))) else (some false))=some r:=H
           have A40:=zk A400
           clear A400
           by_cases c41:t23008=true
           subst c41
           have H1:((slices_ContainsFunc_int_int.f kj22 l0_6).bind fun t23009=>(some (!t23009)))=some r:=by rw [if_pos rfl] at H;exact H
           clear H
           have H:=H1
           clear H1
           replace H:=zo H
           obtain ⟨t23009,A420,H⟩:=H
           replace H:(some (!t23009))=some r:=H
           have A42:=zk A420
           clear A420
           rotate_left
           replace c41:=Bool.eq_false_iff.mpr c41
           subst c41
           have H1:(some false)=some r:=by rw [if_neg (show ¬ (false=true) by decide)] at H;exact H
           clear H
           have H:=H1
           clear H1
           rotate_left
           rw [if_neg c39] at H
           have c39b0:((l0_6.length:Int) == 3)=false:=beq_eq_false_iff_ne.mpr c39
           have c39b1:((l0_6.length:Int) != 3)=true:=bne_iff_ne.mpr c39
           rotate_left
           replace c38:=Bool.eq_false_iff.mpr c38
           subst c38
           have H1:(some false)=some r:=by rw [if_neg (show ¬ (false=true) by decide)] at H;exact H
           clear H
           have H:=H1
           clear H1
           rotate_left
           rw [if_neg c36] at H
           have c36b0:(a0_2.toList == ([]:List UInt8))=false:=beq_eq_false_iff_ne.mpr c36
           have c36b1:(a0_2.toList != ([]:List UInt8))=true:=bne_iff_ne.mpr c36
           rotate_left
           rw [if_neg c35] at H
           have c35b0:(a0_1.toList == ([]:List UInt8))=false:=beq_eq_false_iff_ne.mpr c35
           have c35b1:(a0_1.toList != ([]:List UInt8))=true:=bne_iff_ne.mpr c35
           rotate_left
           · rw [if_neg c34] at H
             have c34b0:(a0_0 == 5)=false:=beq_eq_false_iff_ne.mpr c34
             have c34b1:(a0_0 != 5)=true:=bne_iff_ne.mpr c34
             obtain rfl:=zi H
             go_wp2
             go_ret
             exact ⟨za6,za2⟩
           all_goals
            obtain rfl:=zi H
            obtain ⟨hcz43_0,hcz43_1,hcz43_2,hcz43_3,hcz43_4,hcz43_5,hcz43_6,hcz43_7,hfz43_0,hfz43_1,hfz43_2,hfz43_3,hfz43_4,hfz43_5,hfz43_6,hfz43_7⟩:=blk8 BK23001.out
            go_wp2_with (first|(go_at_call 45;(with_reducible refine (impl_isZeroRegex.calls a0_3 a0_4 _ _ l0_5 _ _ ?side1 ?side2 A37.out).mono ?_);(case side1=>repeat (first|exact (Kd.C_below HR0_5.out HB.out)|(with_reducible refine Kd.C_alloc ?_ _)|(with_reducible refine Kd.C_drewN ?_ _)|(with_reducible refine Kd.C_drew ?_)));(case side2=>exact HC0_5.out);rintro e w44 ⟨rfl,hb⟩;have n0_:=zk (zb BK23001.out hb);have n1_:=zk (below_step za2 hb);clear BK23001;clear HB;have BK23001:=n0_;have HB:=n1_;clear n0_ n1_;(try clear hb);(try clear hb2);(try clear hk);(try clear hi);obtain ⟨hcz45_0,hcz45_1,hcz45_2,hcz45_3,hcz45_4,hcz45_5,hcz45_6,hcz45_7,hfz45_0,hfz45_1,hfz45_2,hfz45_3,hfz45_4,hfz45_5,hfz45_6,hfz45_7⟩:=blk8 BK23001.out)|(go_at_call 47;(with_reducible refine (impl_within.calls a0_7 (-99) 99 _ _ A40.out).mono ?_);rintro e w' ⟨rfl,⟨nd,rfl⟩⟩)|((with_reducible refine gate_callee (f:=48) rfl ?_);refine goesL_ (some 81) rfl rfl Tryd.func48 (by kernel_rfl) rfl #[.slice A0_6 l0_6.length c0_6,.func (.func 49) #[] #[]] rfl za5 ?_;(with_reducible refine (slices_ContainsFunc_int_int.calls kj22 _ _ l0_6 t23009 _ ?side1 ?side2 A42.out).mono ?_);(case side1=>repeat (first|exact (Kd.C_below HR0_6.out za2)|(with_reducible refine Kd.C_alloc ?_ _)|(with_reducible refine Kd.C_drewN ?_ _)|(with_reducible refine Kd.C_drew ?_)));(case side2=>exact HC0_6.out);rintro e w' ⟨rfl,⟨nd,rfl⟩⟩;refine ⟨_,rfl,?_⟩)|((with_reducible refine gate_callee (f:=44) rfl ?_);refine goesL_ (some 40) rfl rfl Tryd.func44 (by kernel_rfl) rfl #[.string a0_1] rfl za5 ?_;(with_reducible refine (impl_IsTerm.calls kj22 a0_1 _ _ A26.out).mono ?_);rintro e w' ⟨rfl,⟨nd,rfl⟩⟩;refine ⟨_,rfl,?_⟩)|(go_at_call 46;(with_reducible refine (impl_IsValidRegex.calls kj22 a0_3 a0_4 _ _ l0_5 t23006 _ ?side1 ?side2 A29.out).mono ?_);(case side1=>repeat (first|exact (Kd.C_below HR0_5.out za2)|(with_reducible refine Kd.C_alloc ?_ _)|(with_reducible refine Kd.C_drewN ?_ _)|(with_reducible refine Kd.C_drew ?_)));(case side2=>exact HC0_5.out);rintro e w31 ⟨rfl,hb⟩;have n0_:=zk (zb BK23001.out hb);have n1_:=zk (below_step za2 hb);clear BK23001;clear HB;have BK23001:=n0_;have HB:=n1_;clear n0_ n1_;(try clear hb);(try clear hb2);(try clear hk);(try clear hi)))
            go_ret
            exact ⟨za6,za2⟩
       all_goals
        obtain rfl:=zi H
        obtain ⟨hcz19_0,hcz19_1,hcz19_2,hcz19_3,hcz19_4,hcz19_5,hcz19_6,hcz19_7,hfz19_0,hfz19_1,hfz19_2,hfz19_3,hfz19_4,hfz19_5,hfz19_6,hfz19_7⟩:=blk8 BK23001.out
        go_wp2_with (first|((with_reducible refine gate_callee (f:=44) rfl ?_);refine goesL_ (some 24) rfl rfl Tryd.func44 (by kernel_rfl) rfl #[.string a0_1] rfl za5 ?_;(with_reducible refine (impl_IsTerm.calls kj9 a0_1 _ _ A14.out).mono ?_);rintro e w' ⟨rfl,⟨nd,rfl⟩⟩;refine ⟨_,rfl,?_⟩)|(go_at_call 44;(with_reducible refine (impl_IsTerm.calls kj9 a0_2 _ _ A16.out).mono ?_);rintro e w' ⟨rfl,⟨nd,rfl⟩⟩)|(go_at_call 45;(with_reducible refine (impl_isZeroRegex.calls a0_3 a0_4 _ _ l0_5 t23004 _ ?side1 ?side2 A18.out).mono ?_);(case side1=>repeat (first|exact (Kd.C_below HR0_5.out za2)|(with_reducible refine Kd.C_alloc ?_ _)|(with_reducible refine Kd.C_drewN ?_ _)|(with_reducible refine Kd.C_drew ?_)));(case side2=>exact HC0_5.out);rintro e w20 ⟨rfl,hb⟩;have n0_:=zk (zb BK23001.out hb);have n1_:=zk (below_step za2 hb);clear BK23001;clear HB;have BK23001:=n0_;have HB:=n1_;clear n0_ n1_;(try clear hb);(try clear hb2);(try clear hk);(try clear hi)))
        go_ret
        exact ⟨za6,za2⟩
def impl_orDash.f (a0:ByteArray):Option (ByteArray):=if a0.toList=([]:List UInt8) then (some (⟨#[45]⟩:ByteArray)) else (some a0)
theorem impl_orDash.calls (a0:ByteArray) (r:ByteArray) (w:World) (h:impl_orDash.f a0=some r) :
   Calls Tryd.prog 24 #[.string a0] w fun e w'=>e = .returned (.string r)∧Drawn0 w w':=by
 have H:(if a0.toList=([]:List UInt8) then (some (⟨#[45]⟩:ByteArray)) else (some a0))=some r:=h
 clear h
 by_cases c2:a0.toList=([]:List UInt8)
 rw [if_pos c2] at H
 have c2b0:(a0.toList == ([]:List UInt8))=true:=beq_iff_eq.mpr c2
 have c2b1:(a0.toList != ([]:List UInt8))=false:=bne_eq_false_iff_eq.mpr c2
 clear c2
 rotate_left
 rw [if_neg c2] at H
 have c2b0:(a0.toList == ([]:List UInt8))=false:=beq_eq_false_iff_ne.mpr c2
 have c2b1:(a0.toList != ([]:List UInt8))=true:=bne_iff_ne.mpr c2
 rotate_left
 all_goals
  obtain rfl:=zi H
  go_enter Tryd.func24,Tryd.ntmps24
  go_wp2
  go_ret
  exact ⟨za7,za9⟩
end Go.Proofs.YtdchpohiiigobaaDoor.A
