/- FnExactLeastModel: what its proof needs, put together by this session's program wip/merge.py out of the texts that wip/xp.py printed and of this session's own. -/
import Derived.Test.YtffjfdoghofkdaaGreatQFnExactLeastModel5
import Derived.Outline
import Derived.Deep.RegionHeld3
import Derived.Deep.RegionWith
import Derived.Laws.EntriesVeiled
set_option linter.unusedVariables false
set_option linter.unusedSimpArgs false
set_option linter.unusedSectionVars false
set_option maxHeartbeats 8000000
set_option maxRecDepth 100000
namespace Go.Proofs.YtffjfdoghofkdaaGreat.A
open Go.RowKit YtffjfdoghofkdaaGreat.Ext YtffjfdoghofkdaaGreatW.PrintWords YtffjfdoghofkdaaGreatW.PrintLast YtffjfdoghofkdaaGreatW.PrintMore
attribute [local go_sem] max2_int min2_int max_two min_two max_three min_three max_four min_four
def impl_holds.f (a0_0:Int) (a0_1:ByteArray) (a0_2:ByteArray) (a0_3:Int) (a0_4:ByteArray) (l0_5:List (S65)) (l0_6:List Int) (a0_7:Int) (a1_0:ByteArray) (a1_1:ByteArray) (a1_2:ByteArray):Option (Bool):=(impl_ApplyValues.f a0_1 a1_0 a1_1 a1_2).bind fun t44003=>(if a0_0=1 then ((impl_ApplyValues.f a0_2 a1_0 a1_1 a1_2).bind fun t44004=>(some (t44003.toList == t44004.toList))) else (if a0_0=2 then ((impl_ApplyValues.f a0_2 a1_0 a1_1 a1_2).bind fun t44005=>(some (t44003.toList != t44005.toList))) else (if a0_0=3 then ((impl_matches.f a0_3 a0_4 l0_5 t44003).bind fun t44006=>(some t44006)) else (if a0_0=4 then ((impl_matches.f a0_3 a0_4 l0_5 t44003).bind fun t44007=>(some (!t44007))) else (if 0 < (l0_6.length:Int) then (if 1 < (l0_6.length:Int) then (if 2 < (l0_6.length:Int) then (some (decide ((wrap64 ((wrap64 ((wrap64 ((rd l0_6 0) * (a1_0.size:Int)))+(wrap64 ((rd l0_6 1) * (a1_1.size:Int)))))+(wrap64 ((rd l0_6 2) * (a1_2.size:Int)))))≤a0_7))) else (none)) else (none)) else (none))))))
theorem impl_holds.calls (a0_0:Int) (a0_1:ByteArray) (a0_2:ByteArray) (a0_3:Int) (a0_4:ByteArray) (A0_5:Option Addr) (c0_5:Nat) (l0_5:List (S65)) (A0_6:Option Addr) (c0_6:Nat) (l0_6:List Int) (a0_7:Int) (a1_0:ByteArray) (a1_1:ByteArray) (a1_2:ByteArray) (r:Bool) (w:World) (hr0_5:Kd.C k65 w A0_5 l0_5.length l0_5) (hc0_5:l0_5.length≤c0_5) (hr0_6:Kd.C (Kd.int .i64) w A0_6 l0_6.length l0_6) (hc0_6:l0_6.length≤c0_6) (h:impl_holds.f a0_0 a0_1 a0_2 a0_3 a0_4 l0_5 l0_6 a0_7 a1_0 a1_1 a1_2=some r) :
  Calls Tryz.prog 44 #[.agg #[.int .i64 a0_0,.string a0_1,.string a0_2,.int .i64 a0_3,.string a0_4,.slice A0_5 l0_5.length c0_5,.slice A0_6 l0_6.length c0_6,.int .i64 a0_7],.agg #[.string a1_0,.string a1_1,.string a1_2]] w fun e w'=>e = .returned (.bool r)∧Below w.heap.size w w':=by
 have hu67:=Tryz.underlying67
 have hu32:=Tryz.underlying32
 have hu65:=Tryz.underlying65
 have HR0_5:=zk hr0_5
 have HC0_5:=zk hc0_5
 clear hr0_5 hc0_5
 have HR0_6:=zk hr0_6
 have HC0_6:=zk hc0_6
 clear hr0_6 hc0_6
 have HB:=zk (Below.refl w.heap.size w)
 have H:((impl_ApplyValues.f a0_1 a1_0 a1_1 a1_2).bind fun t44003=>(if a0_0=1 then ((impl_ApplyValues.f a0_2 a1_0 a1_1 a1_2).bind fun t44004=>(some (t44003.toList == t44004.toList))) else (if a0_0=2 then ((impl_ApplyValues.f a0_2 a1_0 a1_1 a1_2).bind fun t44005=>(some (t44003.toList != t44005.toList))) else (if a0_0=3 then ((impl_matches.f a0_3 a0_4 l0_5 t44003).bind fun t44006=>(some t44006)) else (if a0_0=4 then ((impl_matches.f a0_3 a0_4 l0_5 t44003).bind fun t44007=>(some (!t44007))) else (if 0 < (l0_6.length:Int) then (if 1 < (l0_6.length:Int) then (if 2 < (l0_6.length:Int) then (some (decide ((wrap64 ((wrap64 ((wrap64 ((rd l0_6 0) * (a1_0.size:Int)))+(wrap64 ((rd l0_6 1) * (a1_1.size:Int)))))+(wrap64 ((rd l0_6 2) * (a1_2.size:Int)))))≤a0_7))) else (none)) else (none)) else (none)))))))=some r:=h
 clear h
 go_enter Tryz.func44,Tryz.ntmps44
 go_upto_region 1 with (first|((with_reducible refine gate_dst (N:=2) rfl ?_);refine zE (N:=2) (cs:=#[.int .i64 a0_0,.string a0_1,.string a0_2,.int .i64 a0_3,.string a0_4,.slice A0_5 l0_5.length c0_5,.slice A0_6 l0_6.length c0_6,.int .i64 a0_7]) (t:=67) ?_;intro gb44001 hg w6 hbox hb;have n0_:=zk (below_step za4 hb);have n1_:=zk (hbox);have n2_:=zk (zs (w:=w) hg za4);have n3_:=zk (zs (w:=w) hg za4);clear HB;have HB:=n0_;have BK44001:=n1_;have GW44001:=n2_;have GE44001:=n3_;clear n0_ n1_ n2_ n3_;clear hb hbox hg)|((with_reducible refine gate_dst (N:=3) rfl ?_);refine zE (N:=3) (cs:=#[.string a1_0,.string a1_1,.string a1_2]) (t:=32) ?_;intro gb44002 hg w7 hbox hb;have n0_:=zk (zb BK44001.out hb);have n1_:=zk (below_step za4 hb);have n2_:=zk (hbox);have n3_:=zk (zs (w:=w) hg za4);have n4_:=zk (zs (w:=w) hg za4);have n5_:=zk ((by rw [hg];exact Nat.ne_of_lt (zl BK44001.out):gb44001 ≠ gb44002));have n6_:=zk ((by rw [hg];exact Nat.ne_of_gt (zl BK44001.out):gb44002 ≠ gb44001));clear BK44001;clear HB;have BK44001:=n0_;have HB:=n1_;have BK44002:=n2_;have GW44002:=n3_;have GE44002:=n4_;have NB44001_44002:=n5_;have NB44002_44001:=n6_;clear n0_ n1_ n2_ n3_ n4_ n5_ n6_;clear hb hbox hg;have hnb8:=NB44001_44002.out;have hnc8:=NB44002_44001.out;obtain ⟨hcz9_0,hcz9_1,hcz9_2,hcz9_3,hcz9_4,hcz9_5,hcz9_6,hcz9_7,hfz9_0,hfz9_1,hfz9_2,hfz9_3,hfz9_4,hfz9_5,hfz9_6,hfz9_7⟩:=blk8 BK44001.out;obtain ⟨hcz10_0,hcz10_1,hcz10_2,hfz10_0,hfz10_1,hfz10_2⟩:=blk3 BK44002.out))
 replace H:=zo H
 obtain ⟨t44003,A30,H⟩:=H
 replace H:(if a0_0=1 then ((impl_ApplyValues.f a0_2 a1_0 a1_1 a1_2).bind fun t44004=>(some (t44003.toList == t44004.toList))) else (if a0_0=2 then ((impl_ApplyValues.f a0_2 a1_0 a1_1 a1_2).bind fun t44005=>(some (t44003.toList != t44005.toList))) else (if a0_0=3 then ((impl_matches.f a0_3 a0_4 l0_5 t44003).bind fun t44006=>(some t44006)) else (if a0_0=4 then ((impl_matches.f a0_3 a0_4 l0_5 t44003).bind fun t44007=>(some (!t44007))) else (if 0 < (l0_6.length:Int) then (if 1 < (l0_6.length:Int) then (if 2 < (l0_6.length:Int) then (some (decide ((wrap64 ((wrap64 ((wrap64 ((rd l0_6 0) * (a1_0.size:Int)))+(wrap64 ((rd l0_6 1) * (a1_1.size:Int)))))+(wrap64 ((rd l0_6 2) * (a1_2.size:Int)))))≤a0_7))) else (none)) else (none)) else (none))))))=some r:=H
 have A3:=zk A30
 clear A30
 by_cases c4:a0_0=1
 ·rw [if_pos c4] at H
  have c4b0:(a0_0 == 1)=true:=beq_iff_eq.mpr c4
  have c4b1:(a0_0 != 1)=false:=bne_eq_false_iff_eq.mpr c4
  clear c4
  replace H:=zo H
  obtain ⟨t44004,A50,H⟩:=H
  replace H:(some (t44003.toList == t44004.toList))=some r:=H
  have A5:=zk A50
  clear A50
  obtain rfl:=zi H
  go_wp2_with (first|(go_at_call 77;(with_reducible refine (impl_ApplyValues.calls a0_1 a1_0 a1_1 a1_2 t44003 _ A3.out).mono ?_);rintro e w11 ⟨rfl,hb⟩;have n0_:=zk (zb BK44001.out hb);have n1_:=zk (zb BK44002.out hb);have n2_:=zk (below_step za4 hb);clear BK44001;clear BK44002;clear HB;have BK44001:=n0_;have BK44002:=n1_;have HB:=n2_;clear n0_ n1_ n2_;(try clear hb);(try clear hb2);(try clear hk);(try clear hi);obtain ⟨hcz12_0,hcz12_1,hcz12_2,hcz12_3,hcz12_4,hcz12_5,hcz12_6,hcz12_7,hfz12_0,hfz12_1,hfz12_2,hfz12_3,hfz12_4,hfz12_5,hfz12_6,hfz12_7⟩:=blk8 BK44001.out;obtain ⟨hcz13_0,hcz13_1,hcz13_2,hfz13_0,hfz13_1,hfz13_2⟩:=blk3 BK44002.out)|(go_at_call 77;(with_reducible refine (impl_ApplyValues.calls a0_2 a1_0 a1_1 a1_2 t44004 _ A5.out).mono ?_);rintro e w14 ⟨rfl,hb⟩;have n0_:=zk (zb BK44001.out hb);have n1_:=zk (zb BK44002.out hb);have n2_:=zk (below_step za4 hb);clear BK44001;clear BK44002;clear HB;have BK44001:=n0_;have BK44002:=n1_;have HB:=n2_;clear n0_ n1_ n2_;(try clear hb);(try clear hb2);(try clear hk);(try clear hi)))
  repeat (go_quiet (first|(go_at_call 77;(with_reducible refine (impl_ApplyValues.calls a0_1 a1_0 a1_1 a1_2 t44003 _ A3.out).mono ?_);rintro e w11 ⟨rfl,hb⟩;have n0_:=zk (zb BK44001.out hb);have n1_:=zk (zb BK44002.out hb);have n2_:=zk (below_step za4 hb);clear BK44001;clear BK44002;clear HB;have BK44001:=n0_;have BK44002:=n1_;have HB:=n2_;clear n0_ n1_ n2_;(try clear hb);(try clear hb2);(try clear hk);(try clear hi);obtain ⟨hcz12_0,hcz12_1,hcz12_2,hcz12_3,hcz12_4,hcz12_5,hcz12_6,hcz12_7,hfz12_0,hfz12_1,hfz12_2,hfz12_3,hfz12_4,hfz12_5,hfz12_6,hfz12_7⟩:=blk8 BK44001.out;obtain ⟨hcz13_0,hcz13_1,hcz13_2,hfz13_0,hfz13_1,hfz13_2⟩:=blk3 BK44002.out)|(go_at_call 77;(with_reducible refine (impl_ApplyValues.calls a0_2 a1_0 a1_1 a1_2 t44004 _ A5.out).mono ?_);rintro e w14 ⟨rfl,hb⟩;have n0_:=zk (zb BK44001.out hb);have n1_:=zk (zb BK44002.out hb);have n2_:=zk (below_step za4 hb);clear BK44001;clear BK44002;clear HB;have BK44001:=n0_;have BK44002:=n1_;have HB:=n2_;clear n0_ n1_ n2_;(try clear hb);(try clear hb2);(try clear hk);(try clear hi)));try go_wp2_with (first|((with_reducible refine gate_dst (N:=2) rfl ?_);refine zE (N:=2) (cs:=#[.int .i64 a0_0,.string a0_1,.string a0_2,.int .i64 a0_3,.string a0_4,.slice A0_5 l0_5.length c0_5,.slice A0_6 l0_6.length c0_6,.int .i64 a0_7]) (t:=67) ?_;intro gb44001 hg w6 hbox hb;have n0_:=zk (below_step za4 hb);have n1_:=zk (hbox);have n2_:=zk (zs (w:=w) hg za4);have n3_:=zk (zs (w:=w) hg za4);clear HB;have HB:=n0_;have BK44001:=n1_;have GW44001:=n2_;have GE44001:=n3_;clear n0_ n1_ n2_ n3_;clear hb hbox hg)|((with_reducible refine gate_dst (N:=3) rfl ?_);refine zE (N:=3) (cs:=#[.string a1_0,.string a1_1,.string a1_2]) (t:=32) ?_;intro gb44002 hg w7 hbox hb;have n0_:=zk (zb BK44001.out hb);have n1_:=zk (below_step za4 hb);have n2_:=zk (hbox);have n3_:=zk (zs (w:=w) hg za4);have n4_:=zk (zs (w:=w) hg za4);have n5_:=zk ((by rw [hg];exact Nat.ne_of_lt (zl BK44001.out):gb44001 ≠ gb44002));have n6_:=zk ((by rw [hg];exact Nat.ne_of_gt (zl BK44001.out):gb44002 ≠ gb44001));clear BK44001;clear HB;have BK44001:=n0_;have HB:=n1_;have BK44002:=n2_;have GW44002:=n3_;have GE44002:=n4_;have NB44001_44002:=n5_;have NB44002_44001:=n6_;clear n0_ n1_ n2_ n3_ n4_ n5_ n6_;clear hb hbox hg;have hnb8:=NB44001_44002.out;have hnc8:=NB44002_44001.out;obtain ⟨hcz9_0,hcz9_1,hcz9_2,hcz9_3,hcz9_4,hcz9_5,hcz9_6,hcz9_7,hfz9_0,hfz9_1,hfz9_2,hfz9_3,hfz9_4,hfz9_5,hfz9_6,hfz9_7⟩:=blk8 BK44001.out;obtain ⟨hcz10_0,hcz10_1,hcz10_2,hfz10_0,hfz10_1,hfz10_2⟩:=blk3 BK44002.out)|(go_at_call 77;(with_reducible refine (impl_ApplyValues.calls a0_1 a1_0 a1_1 a1_2 t44003 _ A3.out).mono ?_);rintro e w11 ⟨rfl,hb⟩;have n0_:=zk (zb BK44001.out hb);have n1_:=zk (zb BK44002.out hb);have n2_:=zk (below_step za4 hb);clear BK44001;clear BK44002;clear HB;have BK44001:=n0_;have BK44002:=n1_;have HB:=n2_;clear n0_ n1_ n2_;(try clear hb);(try clear hb2);(try clear hk);(try clear hi);obtain ⟨hcz12_0,hcz12_1,hcz12_2,hcz12_3,hcz12_4,hcz12_5,hcz12_6,hcz12_7,hfz12_0,hfz12_1,hfz12_2,hfz12_3,hfz12_4,hfz12_5,hfz12_6,hfz12_7⟩:=blk8 BK44001.out;obtain ⟨hcz13_0,hcz13_1,hcz13_2,hfz13_0,hfz13_1,hfz13_2⟩:=blk3 BK44002.out)|(go_at_call 77;(with_reducible refine (impl_ApplyValues.calls a0_2 a1_0 a1_1 a1_2 t44004 _ A5.out).mono ?_);rintro e w14 ⟨rfl,hb⟩;have n0_:=zk (zb BK44001.out hb);have n1_:=zk (zb BK44002.out hb);have n2_:=zk (below_step za4 hb);clear BK44001;clear BK44002;clear HB;have BK44001:=n0_;have BK44002:=n1_;have HB:=n2_;clear n0_ n1_ n2_;(try clear hb);(try clear hb2);(try clear hk);(try clear hi))))
  go_ret
  exact ⟨za7,za4⟩
 rw [if_neg c4] at H
 have c4b0:(a0_0 == 1)=false:=beq_eq_false_iff_ne.mpr c4
 have c4b1:(a0_0 != 1)=true:=bne_iff_ne.mpr c4
 by_cases c15:a0_0=2
 ·rw [if_pos c15] at H
  have c15b0:(a0_0 == 2)=true:=beq_iff_eq.mpr c15
  have c15b1:(a0_0 != 2)=false:=bne_eq_false_iff_eq.mpr c15
  clear c15
  replace H:=zo H
  obtain ⟨t44005,A160,H⟩:=H
  replace H:(some (t44003.toList != t44005.toList))=some r:=H
  have A16:=zk A160
  clear A160
  obtain rfl:=zi H
  go_wp2_with (first|(go_at_call 77;(with_reducible refine (impl_ApplyValues.calls a0_1 a1_0 a1_1 a1_2 t44003 _ A3.out).mono ?_);rintro e w22 ⟨rfl,hb⟩;have n0_:=zk (zb BK44001.out hb);have n1_:=zk (zb BK44002.out hb);have n2_:=zk (below_step za4 hb);clear BK44001;clear BK44002;clear HB;have BK44001:=n0_;have BK44002:=n1_;have HB:=n2_;clear n0_ n1_ n2_;(try clear hb);(try clear hb2);(try clear hk);(try clear hi);obtain ⟨hcz23_0,hcz23_1,hcz23_2,hcz23_3,hcz23_4,hcz23_5,hcz23_6,hcz23_7,hfz23_0,hfz23_1,hfz23_2,hfz23_3,hfz23_4,hfz23_5,hfz23_6,hfz23_7⟩:=blk8 BK44001.out;obtain ⟨hcz24_0,hcz24_1,hcz24_2,hfz24_0,hfz24_1,hfz24_2⟩:=blk3 BK44002.out)|(go_at_call 77;(with_reducible refine (impl_ApplyValues.calls a0_2 a1_0 a1_1 a1_2 t44005 _ A16.out).mono ?_);rintro e w25 ⟨rfl,hb⟩;have n0_:=zk (zb BK44001.out hb);have n1_:=zk (zb BK44002.out hb);have n2_:=zk (below_step za4 hb);clear BK44001;clear BK44002;clear HB;have BK44001:=n0_;have BK44002:=n1_;have HB:=n2_;clear n0_ n1_ n2_;(try clear hb);(try clear hb2);(try clear hk);(try clear hi)))
  repeat (go_quiet (first|(go_at_call 77;(with_reducible refine (impl_ApplyValues.calls a0_1 a1_0 a1_1 a1_2 t44003 _ A3.out).mono ?_);rintro e w22 ⟨rfl,hb⟩;have n0_:=zk (zb BK44001.out hb);have n1_:=zk (zb BK44002.out hb);have n2_:=zk (below_step za4 hb);clear BK44001;clear BK44002;clear HB;have BK44001:=n0_;have BK44002:=n1_;have HB:=n2_;clear n0_ n1_ n2_;(try clear hb);(try clear hb2);(try clear hk);(try clear hi);obtain ⟨hcz23_0,hcz23_1,hcz23_2,hcz23_3,hcz23_4,hcz23_5,hcz23_6,hcz23_7,hfz23_0,hfz23_1,hfz23_2,hfz23_3,hfz23_4,hfz23_5,hfz23_6,hfz23_7⟩:=blk8 BK44001.out;obtain ⟨hcz24_0,hcz24_1,hcz24_2,hfz24_0,hfz24_1,hfz24_2⟩:=blk3 BK44002.out)|(go_at_call 77;(with_reducible refine (impl_ApplyValues.calls a0_2 a1_0 a1_1 a1_2 t44005 _ A16.out).mono ?_);rintro e w25 ⟨rfl,hb⟩;have n0_:=zk (zb BK44001.out hb);have n1_:=zk (zb BK44002.out hb);have n2_:=zk (below_step za4 hb);clear BK44001;clear BK44002;clear HB;have BK44001:=n0_;have BK44002:=n1_;have HB:=n2_;clear n0_ n1_ n2_;(try clear hb);(try clear hb2);(try clear hk);(try clear hi)));try go_wp2_with (first|((with_reducible refine gate_dst (N:=2) rfl ?_);refine zE (N:=2) (cs:=#[.int .i64 a0_0,.string a0_1,.string a0_2,.int .i64 a0_3,.string a0_4,.slice A0_5 l0_5.length c0_5,.slice A0_6 l0_6.length c0_6,.int .i64 a0_7]) (t:=67) ?_;intro gb44001 hg w6 hbox hb;have n0_:=zk (below_step za4 hb);have n1_:=zk (hbox);have n2_:=zk (zs (w:=w) hg za4);have n3_:=zk (zs (w:=w) hg za4);clear HB;have HB:=n0_;have BK44001:=n1_;have GW44001:=n2_;have GE44001:=n3_;clear n0_ n1_ n2_ n3_;clear hb hbox hg)|((with_reducible refine gate_dst (N:=3) rfl ?_);refine zE (N:=3) (cs:=#[.string a1_0,.string a1_1,.string a1_2]) (t:=32) ?_;intro gb44002 hg w7 hbox hb;have n0_:=zk (zb BK44001.out hb);have n1_:=zk (below_step za4 hb);have n2_:=zk (hbox);have n3_:=zk (zs (w:=w) hg za4);have n4_:=zk (zs (w:=w) hg za4);have n5_:=zk ((by rw [hg];exact Nat.ne_of_lt (zl BK44001.out):gb44001 ≠ gb44002));have n6_:=zk ((by rw [hg];exact Nat.ne_of_gt (zl BK44001.out):gb44002 ≠ gb44001));clear BK44001;clear HB;have BK44001:=n0_;have HB:=n1_;have BK44002:=n2_;have GW44002:=n3_;have GE44002:=n4_;have NB44001_44002:=n5_;have NB44002_44001:=n6_;clear n0_ n1_ n2_ n3_ n4_ n5_ n6_;clear hb hbox hg;have hnb8:=NB44001_44002.out;have hnc8:=NB44002_44001.out;obtain ⟨hcz9_0,hcz9_1,hcz9_2,hcz9_3,hcz9_4,hcz9_5,hcz9_6,hcz9_7,hfz9_0,hfz9_1,hfz9_2,hfz9_3,hfz9_4,hfz9_5,hfz9_6,hfz9_7⟩:=blk8 BK44001.out;obtain ⟨hcz10_0,hcz10_1,hcz10_2,hfz10_0,hfz10_1,hfz10_2⟩:=blk3 BK44002.out)|(go_at_call 77;(with_reducible refine (impl_ApplyValues.calls a0_1 a1_0 a1_1 a1_2 t44003 _ A3.out).mono ?_);rintro e w22 ⟨rfl,hb⟩;have n0_:=zk (zb BK44001.out hb);have n1_:=zk (zb BK44002.out hb);have n2_:=zk (below_step za4 hb);clear BK44001;clear BK44002;clear HB;have BK44001:=n0_;have BK44002:=n1_;have HB:=n2_;clear n0_ n1_ n2_;(try clear hb);(try clear hb2);(try clear hk);(try clear hi);obtain ⟨hcz23_0,hcz23_1,hcz23_2,hcz23_3,hcz23_4,hcz23_5,hcz23_6,hcz23_7,hfz23_0,hfz23_1,hfz23_2,hfz23_3,hfz23_4,hfz23_5,hfz23_6,hfz23_7⟩:=blk8 BK44001.out;obtain ⟨hcz24_0,hcz24_1,hcz24_2,hfz24_0,hfz24_1,hfz24_2⟩:=blk3 BK44002.out)|(go_at_call 77;(with_reducible refine (impl_ApplyValues.calls a0_2 a1_0 a1_1 a1_2 t44005 _ A16.out).mono ?_);rintro e w25 ⟨rfl,hb⟩;have n0_:=zk (zb BK44001.out hb);have n1_:=zk (zb BK44002.out hb);have n2_:=zk (below_step za4 hb);clear BK44001;clear BK44002;clear HB;have BK44001:=n0_;have BK44002:=n1_;have HB:=n2_;clear n0_ n1_ n2_;(try clear hb);(try clear hb2);(try clear hk);(try clear hi))))
  go_ret
  exact ⟨za7,za4⟩
 rw [if_neg c15] at H
 have c15b0:(a0_0 == 2)=false:=beq_eq_false_iff_ne.mpr c15
 have c15b1:(a0_0 != 2)=true:=bne_iff_ne.mpr c15
 by_cases c26:a0_0=3
 ·rw [if_pos c26] at H
  have c26b0:(a0_0 == 3)=true:=beq_iff_eq.mpr c26
  have c26b1:(a0_0 != 3)=false:=bne_eq_false_iff_eq.mpr c26
  clear c26
  replace H:=zo H
  obtain ⟨t44006,A270,H⟩:=H
  replace H:(some t44006)=some r:=H
  have A27:=zk A270
  clear A270
  obtain rfl:=zi H
  go_wp2_with (first|(go_at_call 77;(with_reducible refine (impl_ApplyValues.calls a0_1 a1_0 a1_1 a1_2 t44003 _ A3.out).mono ?_);rintro e w33 ⟨rfl,hb⟩;have n0_:=zk (zb BK44001.out hb);have n1_:=zk (zb BK44002.out hb);have n2_:=zk (below_step za4 hb);clear BK44001;clear BK44002;clear HB;have BK44001:=n0_;have BK44002:=n1_;have HB:=n2_;clear n0_ n1_ n2_;(try clear hb);(try clear hb2);(try clear hk);(try clear hi);obtain ⟨hcz34_0,hcz34_1,hcz34_2,hcz34_3,hcz34_4,hcz34_5,hcz34_6,hcz34_7,hfz34_0,hfz34_1,hfz34_2,hfz34_3,hfz34_4,hfz34_5,hfz34_6,hfz34_7⟩:=blk8 BK44001.out)|(go_at_call 78;(with_reducible refine (impl_matches.calls a0_3 a0_4 _ _ l0_5 t44003 t44006 _ ?side1 ?side2 A27.out).mono ?_);(case side1=>repeat (first|exact (Kd.C_below HR0_5.out HB.out)|(with_reducible refine Kd.C_alloc ?_ _)|(with_reducible refine Kd.C_drewN ?_ _)|(with_reducible refine Kd.C_drew ?_)));(case side2=>exact HC0_5.out);rintro e w35 ⟨rfl,hb⟩;have n0_:=zk (zb BK44001.out hb);have n1_:=zk (zb BK44002.out hb);have n2_:=zk (below_step za4 hb);clear BK44001;clear BK44002;clear HB;have BK44001:=n0_;have BK44002:=n1_;have HB:=n2_;clear n0_ n1_ n2_;(try clear hb);(try clear hb2);(try clear hk);(try clear hi)))
  repeat (go_quiet (first|(go_at_call 77;(with_reducible refine (impl_ApplyValues.calls a0_1 a1_0 a1_1 a1_2 t44003 _ A3.out).mono ?_);rintro e w33 ⟨rfl,hb⟩;have n0_:=zk (zb BK44001.out hb);have n1_:=zk (zb BK44002.out hb);have n2_:=zk (below_step za4 hb);clear BK44001;clear BK44002;clear HB;have BK44001:=n0_;have BK44002:=n1_;have HB:=n2_;clear n0_ n1_ n2_;(try clear hb);(try clear hb2);(try clear hk);(try clear hi);obtain ⟨hcz34_0,hcz34_1,hcz34_2,hcz34_3,hcz34_4,hcz34_5,hcz34_6,hcz34_7,hfz34_0,hfz34_1,hfz34_2,hfz34_3,hfz34_4,hfz34_5,hfz34_6,hfz34_7⟩:=blk8 BK44001.out)|(go_at_call 78;(with_reducible refine (impl_matches.calls a0_3 a0_4 _ _ l0_5 t44003 t44006 _ ?side1 ?side2 A27.out).mono ?_);(case side1=>repeat (first|exact (Kd.C_below HR0_5.out HB.out)|(with_reducible refine Kd.C_alloc ?_ _)|(with_reducible refine Kd.C_drewN ?_ _)|(with_reducible refine Kd.C_drew ?_)));(case side2=>exact HC0_5.out);rintro e w35 ⟨rfl,hb⟩;have n0_:=zk (zb BK44001.out hb);have n1_:=zk (zb BK44002.out hb);have n2_:=zk (below_step za4 hb);clear BK44001;clear BK44002;clear HB;have BK44001:=n0_;have BK44002:=n1_;have HB:=n2_;clear n0_ n1_ n2_;(try clear hb);(try clear hb2);(try clear hk);(try clear hi)));try go_wp2_with (first|((with_reducible refine gate_dst (N:=2) rfl ?_);refine zE (N:=2) (cs:=#[.int .i64 a0_0,.string a0_1,.string a0_2,.int .i64 a0_3,.string a0_4,.slice A0_5 l0_5.length c0_5,.slice A0_6 l0_6.length c0_6,.int .i64 a0_7]) (t:=67) ?_;intro gb44001 hg w6 hbox hb;have n0_:=zk (below_step za4 hb);have n1_:=zk (hbox);have n2_:=zk (zs (w:=w) hg za4);have n3_:=zk (zs (w:=w) hg za4);clear HB;have HB:=n0_;have BK44001:=n1_;have GW44001:=n2_;have GE44001:=n3_;clear n0_ n1_ n2_ n3_;clear hb hbox hg)|((with_reducible refine gate_dst (N:=3) rfl ?_);refine zE (N:=3) (cs:=#[.string a1_0,.string a1_1,.string a1_2]) (t:=32) ?_;intro gb44002 hg w7 hbox hb;have n0_:=zk (zb BK44001.out hb);have n1_:=zk (below_step za4 hb);have n2_:=zk (hbox);have n3_:=zk (zs (w:=w) hg za4);have n4_:=zk (zs (w:=w) hg za4);have n5_:=zk ((by rw [hg];exact Nat.ne_of_lt (zl BK44001.out):gb44001 ≠ gb44002));have n6_:=zk ((by rw [hg];exact Nat.ne_of_gt (zl BK44001.out):gb44002 ≠ gb44001));clear BK44001;clear HB;have BK44001:=n0_;have HB:=n1_;have BK44002:=n2_;have GW44002:=n3_;have GE44002:=n4_;have NB44001_44002:=n5_;have NB44002_44001:=n6_;clear n0_ n1_ n2_ n3_ n4_ n5_ n6_;clear hb hbox hg;have hnb8:=NB44001_44002.out;have hnc8:=NB44002_44001.out;obtain ⟨hcz9_0,hcz9_1,hcz9_2,hcz9_3,hcz9_4,hcz9_5,hcz9_6,hcz9_7,hfz9_0,hfz9_1,hfz9_2,hfz9_3,hfz9_4,hfz9_5,hfz9_6,hfz9_7⟩:=blk8 BK44001.out;obtain ⟨hcz10_0,hcz10_1,hcz10_2,hfz10_0,hfz10_1,hfz10_2⟩:=blk3 BK44002.out)|(go_at_call 77;(with_reducible refine (impl_ApplyValues.calls a0_1 a1_0 a1_1 a1_2 t44003 _ A3.out).mono ?_);rintro e w33 ⟨rfl,hb⟩;have n0_:=zk (zb BK44001.out hb);have n1_:=zk (zb BK44002.out hb);have n2_:=zk (below_step za4 hb);clear BK44001;clear BK44002;clear HB;have BK44001:=n0_;have BK44002:=n1_;have HB:=n2_;clear n0_ n1_ n2_;(try clear hb);(try clear hb2);(try clear hk);(try clear hi);obtain ⟨hcz34_0,hcz34_1,hcz34_2,hcz34_3,hcz34_4,hcz34_5,hcz34_6,hcz34_7,hfz34_0,hfz34_1,hfz34_2,hfz34_3,hfz34_4,hfz34_5,hfz34_6,hfz34_7⟩:=blk8 BK44001.out)|(go_at_call 78;(with_reducible refine (impl_matches.calls a0_3 a0_4 _ _ l0_5 t44003 t44006 _ ?side1 ?side2 A27.out).mono ?_);(case side1=>repeat (first|exact (Kd.C_below HR0_5.out HB.out)|(with_reducible refine Kd.C_alloc ?_ _)|(with_reducible refine Kd.C_drewN ?_ _)|(with_reducible refine Kd.C_drew ?_)));(case side2=>exact HC0_5.out);rintro e w35 ⟨rfl,hb⟩;have n0_:=zk (zb BK44001.out hb);have n1_:=zk (zb BK44002.out hb);have n2_:=zk (below_step za4 hb);clear BK44001;clear BK44002;clear HB;have BK44001:=n0_;have BK44002:=n1_;have HB:=n2_;clear n0_ n1_ n2_;(try clear hb);(try clear hb2);(try clear hk);(try clear hi))))
  go_ret
  exact ⟨za7,za4⟩
 rw [if_neg c26] at H
 have c26b0:(a0_0 == 3)=false:=beq_eq_false_iff_ne.mpr c26
 have c26b1:(a0_0 != 3)=true:=bne_iff_ne.mpr c26
 by_cases c36:a0_0=4
 ·rw [if_pos c36] at H
  have c36b0:(a0_0 == 4)=true:=beq_iff_eq.mpr c36
  have c36b1:(a0_0 != 4)=false:=bne_eq_false_iff_eq.mpr c36
  clear c36
  replace H:=zo H
  obtain ⟨t44007,A370,H⟩:=H
  replace H:(some (!t44007))=some r:=H
  have A37:=zk A370
  clear A370
  obtain rfl:=zi H
  go_wp2_with (first|(go_at_call 77;(with_reducible refine (impl_ApplyValues.calls a0_1 a1_0 a1_1 a1_2 t44003 _ A3.out).mono ?_);rintro e w43 ⟨rfl,hb⟩;have n0_:=zk (zb BK44001.out hb);have n1_:=zk (zb BK44002.out hb);have n2_:=zk (below_step za4 hb);clear BK44001;clear BK44002;clear HB;have BK44001:=n0_;have BK44002:=n1_;have HB:=n2_;clear n0_ n1_ n2_;(try clear hb);(try clear hb2);(try clear hk);(try clear hi);obtain ⟨hcz44_0,hcz44_1,hcz44_2,hcz44_3,hcz44_4,hcz44_5,hcz44_6,hcz44_7,hfz44_0,hfz44_1,hfz44_2,hfz44_3,hfz44_4,hfz44_5,hfz44_6,hfz44_7⟩:=blk8 BK44001.out)|(go_at_call 78;(with_reducible refine (impl_matches.calls a0_3 a0_4 _ _ l0_5 t44003 t44007 _ ?side1 ?side2 A37.out).mono ?_);(case side1=>repeat (first|exact (Kd.C_below HR0_5.out HB.out)|(with_reducible refine Kd.C_alloc ?_ _)|(with_reducible refine Kd.C_drewN ?_ _)|(with_reducible refine Kd.C_drew ?_)));(case side2=>exact HC0_5.out);rintro e w45 ⟨rfl,hb⟩;have n0_:=zk (zb BK44001.out hb);have n1_:=zk (zb BK44002.out hb);have n2_:=zk (below_step za4 hb);clear BK44001;clear BK44002;clear HB;have BK44001:=n0_;have BK44002:=n1_;have HB:=n2_;clear n0_ n1_ n2_;(try clear hb);(try clear hb2);(try clear hk);(try clear hi)))
  repeat (go_quiet (first|(go_at_call 77;(with_reducible refine (impl_ApplyValues.calls a0_1 a1_0 a1_1 a1_2 t44003 _ A3.out).mono ?_);rintro e w43 ⟨rfl,hb⟩;have n0_:=zk (zb BK44001.out hb);have n1_:=zk (zb BK44002.out hb);have n2_:=zk (below_step za4 hb);clear BK44001;clear BK44002;clear HB;have BK44001:=n0_;have BK44002:=n1_;have HB:=n2_;clear n0_ n1_ n2_;(try clear hb);(try clear hb2);(try clear hk);(try clear hi);obtain ⟨hcz44_0,hcz44_1,hcz44_2,hcz44_3,hcz44_4,hcz44_5,hcz44_6,hcz44_7,hfz44_0,hfz44_1,hfz44_2,hfz44_3,hfz44_4,hfz44_5,hfz44_6,hfz44_7⟩:=blk8 BK44001.out)|(go_at_call 78;(with_reducible refine (impl_matches.calls a0_3 a0_4 _ _ l0_5 t44003 t44007 _ ?side1 ?side2 A37.out).mono ?_);(case side1=>repeat (first|exact (Kd.C_below HR0_5.out HB.out)|(with_reducible refine Kd.C_alloc ?_ _)|(with_reducible refine Kd.C_drewN ?_ _)|(with_reducible refine Kd.C_drew ?_)));(case side2=>exact HC0_5.out);rintro e w45 ⟨rfl,hb⟩;have n0_:=zk (zb BK44001.out hb);have n1_:=zk (zb BK44002.out hb);have n2_:=zk (below_step za4 hb);clear BK44001;clear BK44002;clear HB;have BK44001:=n0_;have BK44002:=n1_;have HB:=n2_;clear n0_ n1_ n2_;(try clear hb);(try clear hb2);(try clear hk);(try clear hi)));try go_wp2_with (first|((with_reducible refine gate_dst (N:=2) rfl ?_);refine zE (N:=2) (cs:=#[.int .i64 a0_0,.string a0_1,.string a0_2,.int .i64 a0_3,.string a0_4,.slice A0_5 l0_5.length c0_5,.slice A0_6 l0_6.length c0_6,.int .i64 a0_7]) (t:=67) ?_;intro gb44001 hg w6 hbox hb;have n0_:=zk (below_step za4 hb);have n1_:=zk (hbox);have n2_:=zk (zs (w:=w) hg za4);have n3_:=zk (zs (w:=w) hg za4);clear HB;have HB:=n0_;have BK44001:=n1_;have GW44001:=n2_;have GE44001:=n3_;clear n0_ n1_ n2_ n3_;clear hb hbox hg)|((with_reducible refine gate_dst (N:=3) rfl ?_);refine zE (N:=3) (cs:=#[.string a1_0,.string a1_1,.string a1_2]) (t:=32) ?_;intro gb44002 hg w7 hbox hb;have n0_:=zk (zb BK44001.out hb);have n1_:=zk (below_step za4 hb);have n2_:=zk (hbox);have n3_:=zk (zs (w:=w) hg za4);have n4_:=zk (zs (w:=w) hg za4);have n5_:=zk ((by rw [hg];exact Nat.ne_of_lt (zl BK44001.out):gb44001 ≠ gb44002));have n6_:=zk ((by rw [hg];exact Nat.ne_of_gt (zl BK44001.out):gb44002 ≠ gb44001));clear BK44001;clear HB;have BK44001:=n0_;have HB:=n1_;have BK44002:=n2_;have GW44002:=n3_;have GE44002:=n4_;have NB44001_44002:=n5_;have NB44002_44001:=n6_;clear n0_ n1_ n2_ n3_ n4_ n5_ n6_;clear hb hbox hg;have hnb8:=NB44001_44002.out;have hnc8:=NB44002_44001.out;obtain ⟨hcz9_0,hcz9_1,hcz9_2,hcz9_3,hcz9_4,hcz9_5,hcz9_6,hcz9_7,hfz9_0,hfz9_1,hfz9_2,hfz9_3,hfz9_4,hfz9_5,hfz9_6,hfz9_7⟩:=blk8 BK44001.out;obtain ⟨hcz10_0,hcz10_1,hcz10_2,hfz10_0,hfz10_1,hfz10_2⟩:=blk3 BK44002.out)|(go_at_call 77;(with_reducible refine (impl_ApplyValues.calls a0_1 a1_0 a1_1 a1_2 t44003 _ A3.out).mono ?_);rintro e w43 ⟨rfl,hb⟩;have n0_:=zk (zb BK44001.out hb);have n1_:=zk (zb BK44002.out hb);have n2_:=zk (below_step za4 hb);clear BK44001;clear BK44002;clear HB;have BK44001:=n0_;have BK44002:=n1_;have HB:=n2_;clear n0_ n1_ n2_;(try clear hb);(try clear hb2);(try clear hk);(try clear hi);obtain ⟨hcz44_0,hcz44_1,hcz44_2,hcz44_3,hcz44_4,hcz44_5,hcz44_6,hcz44_7,hfz44_0,hfz44_1,hfz44_2,hfz44_3,hfz44_4,hfz44_5,hfz44_6,hfz44_7⟩:=blk8 BK44001.out)|(go_at_call 78;(with_reducible refine (impl_matches.calls a0_3 a0_4 _ _ l0_5 t44003 t44007 _ ?side1 ?side2 A37.out).mono ?_);(case side1=>repeat (first|exact (Kd.C_below HR0_5.out HB.out)|(with_reducible refine Kd.C_alloc ?_ _)|(with_reducible refine Kd.C_drewN ?_ _)|(with_reducible refine Kd.C_drew ?_)));(case side2=>exact HC0_5.out);rintro e w45 ⟨rfl,hb⟩;have n0_:=zk (zb BK44001.out hb);have n1_:=zk (zb BK44002.out hb);have n2_:=zk (below_step za4 hb);clear BK44001;clear BK44002;clear HB;have BK44001:=n0_;have BK44002:=n1_;have HB:=n2_;clear n0_ n1_ n2_;(try clear hb);(try clear hb2);(try clear hk);(try clear hi))))
  go_ret
  exact ⟨za7,za4⟩
 rw [if_neg c36] at H
 have c36b0:(a0_0 == 4)=false:=beq_eq_false_iff_ne.mpr c36
 have c36b1:(a0_0 != 4)=true:=bne_iff_ne.mpr c36
 by_cases c46:0 < (l0_6.length:Int)
 rw [if_pos c46] at H
 have c46b0:decide (0 < (l0_6.length:Int))=true:=decide_eq_true c46
 have c46b1:decide (0 < l0_6.length)=true:=decide_eq_true (by omega)
 clear c46
 by_cases c47:1 < (l0_6.length:Int)
 rw [if_pos c47] at H
 have c47b0:decide (1 < (l0_6.length:Int))=true:=decide_eq_true c47
 have c47b1:decide (1 < l0_6.length)=true:=decide_eq_true (by omega)
 clear c47
 by_cases c48:2 < (l0_6.length:Int)
 ·rw [if_pos c48] at H
  have c48b0:decide (2 < (l0_6.length:Int))=true:=decide_eq_true c48
  have c48b1:decide (2 < l0_6.length)=true:=decide_eq_true (by omega)
  clear c48
  obtain rfl:=zi H
  go_wp2_with (first|(go_at_call 77;(with_reducible refine (impl_ApplyValues.calls a0_1 a1_0 a1_1 a1_2 t44003 _ A3.out).mono ?_);rintro e w54 ⟨rfl,hb⟩;have n0_:=zk (zb BK44001.out hb);have n1_:=zk (zb BK44002.out hb);have n2_:=zk (below_step za4 hb);clear BK44001;clear BK44002;clear HB;have BK44001:=n0_;have BK44002:=n1_;have HB:=n2_;clear n0_ n1_ n2_;(try clear hb);(try clear hb2);(try clear hk);(try clear hi);obtain ⟨hcz55_0,hcz55_1,hcz55_2,hcz55_3,hcz55_4,hcz55_5,hcz55_6,hcz55_7,hfz55_0,hfz55_1,hfz55_2,hfz55_3,hfz55_4,hfz55_5,hfz55_6,hfz55_7⟩:=blk8 BK44001.out;have p44008:0≤(0:Int):=(by omega);have q44008:0 < (l0_6.length:Int):=of_decide_eq_true za9;obtain ⟨ad44008,e44008,hx44008_0⟩:=Kd.at_int HR0_6.out 0 p44008 q44008;cases e44008;have qi44008:(0 < l0_6.length)=True:=eq_true (by omega);(try rw [show ((0:Int)).toNat=0 from rfl] at hx44008_0);(try rw [Addr.add_zero'] at hx44008_0);replace hx44008_0:=zx HB.out hx44008_0;replace p44008:=eq_true p44008;replace q44008:=eq_true q44008;obtain ⟨hcz56_0,hcz56_1,hcz56_2,hfz56_0,hfz56_1,hfz56_2⟩:=blk3 BK44002.out;have p44009:0≤(1:Int):=(by omega);have q44009:1 < (l0_6.length:Int):=of_decide_eq_true za9;obtain ⟨ad44009,e44009,hx44009_0⟩:=Kd.at_int HR0_6.out 1 p44009 q44009;obtain rfl:ad44008=ad44009:=(by injection e44009);(try simp only [show (1:Int).toNat=1 from rfl,Nat.reduceMul,Nat.reduceEqDiff,Go.Addr.add,↓reduceIte] at hx44009_0);have qi44009:(1 < l0_6.length)=True:=eq_true (by omega);(try rw [show ((1:Int)).toNat=1 from rfl] at hx44009_0);replace hx44009_0:=zx HB.out hx44009_0;replace p44009:=eq_true p44009;replace q44009:=eq_true q44009;have p44010:0≤(2:Int):=(by omega);have q44010:2 < (l0_6.length:Int):=of_decide_eq_true za9;obtain ⟨ad44010,e44010,hx44010_0⟩:=Kd.at_int HR0_6.out 2 p44010 q44010;obtain rfl:ad44008=ad44010:=(by injection e44010);(try simp only [show (2:Int).toNat=2 from rfl,Nat.reduceMul,Nat.reduceEqDiff,Go.Addr.add,↓reduceIte] at hx44010_0);have qi44010:(2 < l0_6.length)=True:=eq_true (by omega);(try rw [show ((2:Int)).toNat=2 from rfl] at hx44010_0);replace hx44010_0:=zx HB.out hx44010_0;replace p44010:=eq_true p44010;replace q44010:=eq_true q44010))
  repeat (go_quiet (first|(go_at_call 77;(with_reducible refine (impl_ApplyValues.calls a0_1 a1_0 a1_1 a1_2 t44003 _ A3.out).mono ?_);rintro e w54 ⟨rfl,hb⟩;have n0_:=zk (zb BK44001.out hb);have n1_:=zk (zb BK44002.out hb);have n2_:=zk (below_step za4 hb);clear BK44001;clear BK44002;clear HB;have BK44001:=n0_;have BK44002:=n1_;have HB:=n2_;clear n0_ n1_ n2_;(try clear hb);(try clear hb2);(try clear hk);(try clear hi);obtain ⟨hcz55_0,hcz55_1,hcz55_2,hcz55_3,hcz55_4,hcz55_5,hcz55_6,hcz55_7,hfz55_0,hfz55_1,hfz55_2,hfz55_3,hfz55_4,hfz55_5,hfz55_6,hfz55_7⟩:=blk8 BK44001.out;have p44008:0≤(0:Int):=(by omega);have q44008:0 < (l0_6.length:Int):=of_decide_eq_true za9;obtain ⟨ad44008,e44008,hx44008_0⟩:=Kd.at_int HR0_6.out 0 p44008 q44008;cases e44008;have qi44008:(0 < l0_6.length)=True:=eq_true (by omega);(try rw [show ((0:Int)).toNat=0 from rfl] at hx44008_0);(try rw [Addr.add_zero'] at hx44008_0);replace hx44008_0:=zx HB.out hx44008_0;replace p44008:=eq_true p44008;replace q44008:=eq_true q44008;obtain ⟨hcz56_0,hcz56_1,hcz56_2,hfz56_0,hfz56_1,hfz56_2⟩:=blk3 BK44002.out;have p44009:0≤(1:Int):=(by omega);have q44009:1 < (l0_6.length:Int):=of_decide_eq_true za9;obtain ⟨ad44009,e44009,hx44009_0⟩:=Kd.at_int HR0_6.out 1 p44009 q44009;obtain rfl:ad44008=ad44009:=(by injection e44009);(try simp only [show (1:Int).toNat=1 from rfl,Nat.reduceMul,Nat.reduceEqDiff,Go.Addr.add,↓reduceIte] at hx44009_0);have qi44009:(1 < l0_6.length)=True:=eq_true (by omega);(try rw [show ((1:Int)).toNat=1 from rfl] at hx44009_0);replace hx44009_0:=zx HB.out hx44009_0;replace p44009:=eq_true p44009;replace q44009:=eq_true q44009;have p44010:0≤(2:Int):=(by omega);have q44010:2 < (l0_6.length:Int):=of_decide_eq_true za9;obtain ⟨ad44010,e44010,hx44010_0⟩:=Kd.at_int HR0_6.out 2 p44010 q44010;obtain rfl:ad44008=ad44010:=(by injection e44010);(try simp only [show (2:Int).toNat=2 from rfl,Nat.reduceMul,Nat.reduceEqDiff,Go.Addr.add,↓reduceIte] at hx44010_0);have qi44010:(2 < l0_6.length)=True:=eq_true (by omega);(try rw [show ((2:Int)).toNat=2 from rfl] at hx44010_0);replace hx44010_0:=zx HB.out hx44010_0;replace p44010:=eq_true p44010;replace q44010:=eq_true q44010));try go_wp2_with (first|((with_reducible refine gate_dst (N:=2) rfl ?_);refine zE (N:=2) (cs:=#[.int .i64 a0_0,.string a0_1,.string a0_2,.int .i64 a0_3,.string a0_4,.slice A0_5 l0_5.length c0_5,.slice A0_6 l0_6.length c0_6,.int .i64 a0_7]) (t:=67) ?_;intro gb44001 hg w6 hbox hb;have n0_:=zk (below_step za4 hb);have n1_:=zk (hbox);have n2_:=zk (zs (w:=w) hg za4);have n3_:=zk (zs (w:=w) hg za4);clear HB;have HB:=n0_;have BK44001:=n1_;have GW44001:=n2_;have GE44001:=n3_;clear n0_ n1_ n2_ n3_;clear hb hbox hg)|((with_reducible refine gate_dst (N:=3) rfl ?_);refine zE (N:=3) (cs:=#[.string a1_0,.string a1_1,.string a1_2]) (t:=32) ?_;intro gb44002 hg w7 hbox hb;have n0_:=zk (zb BK44001.out hb);have n1_:=zk (below_step za4 hb);have n2_:=zk (hbox);have n3_:=zk (zs (w:=w) hg za4);have n4_:=zk (zs (w:=w) hg za4);have n5_:=zk ((by rw [hg];exact Nat.ne_of_lt (zl BK44001.out):gb44001 ≠ gb44002));have n6_:=zk ((by rw [hg];exact Nat.ne_of_gt (zl BK44001.out):gb44002 ≠ gb44001));clear BK44001;clear HB;have BK44001:=n0_;have HB:=n1_;have BK44002:=n2_;have GW44002:=n3_;have GE44002:=n4_;have NB44001_44002:=n5_;have NB44002_44001:=n6_;clear n0_ n1_ n2_ n3_ n4_ n5_ n6_;clear hb hbox hg;have hnb8:=NB44001_44002.out;have hnc8:=NB44002_44001.out;obtain ⟨hcz9_0,hcz9_1,hcz9_2,hcz9_3,hcz9_4,hcz9_5,hcz9_6,hcz9_7,hfz9_0,hfz9_1,hfz9_2,hfz9_3,hfz9_4,hfz9_5,hfz9_6,hfz9_7⟩:=blk8 BK44001.out;obtain ⟨hcz10_0,hcz10_1,hcz10_2,hfz10_0,hfz10_1,hfz10_2⟩:=blk3 BK44002.out)|(go_at_call 77;(with_reducible refine (impl_ApplyValues.calls a0_1 a1_0 a1_1 a1_2 t44003 _ A3.out).mono ?_);rintro e w54 ⟨rfl,hb⟩;have n0_:=zk (zb BK44001.out hb);have n1_:=zk (zb BK44002.out hb);have n2_:=zk (below_step za4 hb);clear BK44001;clear BK44002;clear HB;have BK44001:=n0_;have BK44002:=n1_;have HB:=n2_;clear n0_ n1_ n2_;(try clear hb);(try clear hb2);(try clear hk);(try clear hi);obtain ⟨hcz55_0,hcz55_1,hcz55_2,hcz55_3,hcz55_4,hcz55_5,hcz55_6,hcz55_7,hfz55_0,hfz55_1,hfz55_2,hfz55_3,hfz55_4,hfz55_5,hfz55_6,hfz55_7⟩:=blk8 BK44001.out;have p44008:0≤(0:Int):=(by omega);have q44008:0 < (l0_6.length:Int):=of_decide_eq_true za9;obtain ⟨ad44008,e44008,hx44008_0⟩:=Kd.at_int HR0_6.out 0 p44008 q44008;cases e44008;have qi44008:(0 < l0_6.length)=True:=eq_true (by omega);(try rw [show ((0:Int)).toNat=0 from rfl] at hx44008_0);(try rw [Addr.add_zero'] at hx44008_0);replace hx44008_0:=zx HB.out hx44008_0;replace p44008:=eq_true p44008;replace q44008:=eq_true q44008;obtain ⟨hcz56_0,hcz56_1,hcz56_2,hfz56_0,hfz56_1,hfz56_2⟩:=blk3 BK44002.out;have p44009:0≤(1:Int):=(by omega);have q44009:1 < (l0_6.length:Int):=of_decide_eq_true za9;obtain ⟨ad44009,e44009,hx44009_0⟩:=Kd.at_int HR0_6.out 1 p44009 q44009;obtain rfl:ad44008=ad44009:=(by injection e44009);(try simp only [show (1:Int).toNat=1 from rfl,Nat.reduceMul,Nat.reduceEqDiff,Go.Addr.add,↓reduceIte] at hx44009_0);have qi44009:(1 < l0_6.length)=True:=eq_true (by omega);(try rw [show ((1:Int)).toNat=1 from rfl] at hx44009_0);replace hx44009_0:=zx HB.out hx44009_0;replace p44009:=eq_true p44009;replace q44009:=eq_true q44009;have p44010:0≤(2:Int):=(by omega);have q44010:2 < (l0_6.length:Int):=of_decide_eq_true za9;obtain ⟨ad44010,e44010,hx44010_0⟩:=Kd.at_int HR0_6.out 2 p44010 q44010;obtain rfl:ad44008=ad44010:=(by injection e44010);(try simp only [show (2:Int).toNat=2 from rfl,Nat.reduceMul,Nat.reduceEqDiff,Go.Addr.add,↓reduceIte] at hx44010_0);have qi44010:(2 < l0_6.length)=True:=eq_true (by omega);(try rw [show ((2:Int)).toNat=2 from rfl] at hx44010_0);replace hx44010_0:=zx HB.out hx44010_0;replace p44010:=eq_true p44010;replace q44010:=eq_true q44010)))
  go_ret
  exact ⟨za7,za4⟩
 ·rw [if_neg c48] at H
  exact absurd H (by simp)
 ·rw [if_neg c47] at H
  exact absurd H (by simp)
 ·rw [if_neg c46] at H
  exact absurd H (by simp)
end Go.Proofs.YtffjfdoghofkdaaGreat.A
-- ALSO loop.example/g00582/impl.IsValidConstraint
namespace Go.Proofs.YtffjfdoghofkdaaGreat.Ext
open Go.RowKit YtffjfdoghofkdaaGreatW.PrintWords YtffjfdoghofkdaaGreatW.PrintLast YtffjfdoghofkdaaGreat.A
def ClC (w:World) (l:List S67) (p:Nat→Bool) (g:Nat) (lb:Array Value):Prop :=
 ∀ (i:Nat) (h:i < l.length) (A5:Option Addr) (c5:Nat) (A6:Option Addr) (c6:Nat) (W:World),Below w.heap.size w W→l[i].f3.f2.length≤c5→Kd.C k65 w A5 l[i].f3.f2.length l[i].f3.f2→l[i].f4.length≤c6→(Kd.int .i64).C w A6 l[i].f4.length l[i].f4 →
  Calls Tryz.prog g (#[.agg #[.int .i64 l[i].f0,.string l[i].f1,.string l[i].f2,.int .i64 l[i].f3.f0,.string l[i].f3.f1,.slice A5 l[i].f3.f2.length c5,.slice A6 l[i].f4.length c6,.int .i64 l[i].f5]] ++ lb) W fun e W'=>e = .returned (.bool (p i))∧Below W.heap.size W W'
theorem cs_at {w0 W:World} {A:Option Addr} {l:List S67} (hC:Kd.C k67 w0 A l.length l) (hB:Below w0.heap.size w0 W) (i:Nat) (hi:i < l.length) :
  ∃ ad A5 c5 A6 c6,A=some ad∧W.cell? (ad.add (i * 8))=some (.int .i64 l[i].f0)∧W.cell? ⟨(ad.add (i * 8)).block,(ad.add (i * 8)).off+1,none⟩=some (.string l[i].f1)∧W.cell? ⟨(ad.add (i * 8)).block,(ad.add (i * 8)).off+2,none⟩=some (.string l[i].f2)∧W.cell? ⟨(ad.add (i * 8)).block,(ad.add (i * 8)).off+3,none⟩=some (.int .i64 l[i].f3.f0)∧W.cell? ⟨(ad.add (i * 8)).block,(ad.add (i * 8)).off+4,none⟩=some (.string l[i].f3.f1)∧W.cell? ⟨(ad.add (i * 8)).block,(ad.add (i * 8)).off+5,none⟩=some (.slice A5 l[i].f3.f2.length c5)∧W.cell? ⟨(ad.add (i * 8)).block,(ad.add (i * 8)).off+6,none⟩=some (.slice A6 l[i].f4.length c6)∧W.cell? ⟨(ad.add (i * 8)).block,(ad.add (i * 8)).off+7,none⟩=some (.int .i64 l[i].f5)∧l[i].f3.f2.length≤c5∧Kd.C k65 w0 A5 l[i].f3.f2.length l[i].f3.f2∧l[i].f4.length≤c6∧(Kd.int .i64).C w0 A6 l[i].f4.length l[i].f4:=by
 obtain ⟨ad,A5,c5,A6,c6,e,h0,h1,h2,h3,h4,h5,h6,h7,g1,g2,g3,g4⟩:=at_T67 hC (i:Int) (by omega) (by omega)
 have he:rd_T67 l (i:Int)=l[i]:=by simp [rd_T67,hi]
 rw [he] at h0 h1 h2 h3 h4 h5 h6 h7 g1 g2 g3 g4
 rw [Int.toNat_natCast] at h0 h1 h2 h3 h4 h5 h6 h7
 have up:∀ {a:Addr} {v:Value},w0.cell? a=some v→W.cell? a=some v:=fun h=>(hB.cell (World.block_lt_of_cell? w0 _ h)).trans h
 exact ⟨ad,A5,c5,A6,c6,e,up h0,up h1,up h2,up h3,up h4,up h5,up h6,up h7,g1,g2,g3,g4⟩
set_option maxHeartbeats 2000000 in
theorem idx_cs (p:Nat→Bool) (g:Nat) (lb:Array Value) (eg:∀ args w,(callFunc g args).run Tryz.prog w = .ok (.enter g args) w) (A:Option Addr) (l:List S67) (c:Nat) (w:World) (hn:l.length≤9223372036854775806) (hC:Kd.C k67 w A l.length l) (hcl:ClC w l p g lb) :
  Calls Tryz.prog 76 #[.slice A l.length c,.func (.func g) #[] lb] w fun e w'=>e = .returned (.int .i64 (idxN p l.length))∧Below w.heap.size w w':=by
 have HC:=zk hC
 have HCL:=zk hcl
 have HB0:=zk (Below.refl w.heap.size w)
 clear hC hcl
 go_enter Tryz.func76,Tryz.ntmps76
 go_wp2
 go_loopg [8] l.length (fun gk v wr=>∃ (x:Nat),v = .int .i64 (x:Int)∧Aside0 (x+gk=l.length)∧Aside0 (∀ j:Nat,j < x→p j=false)∧Aside0 (Below w.heap.size w wr))
 case atStart=>exact ⟨0,rfl,⟨by omega⟩,⟨fun j hj=>by omega⟩,⟨by first|exact HB0.out|exact below_drew HB0.out|exact pw_below_drewN HB0.out _⟩⟩
 case round =>
  obtain ⟨x,rfl,HK,HT,HB⟩:=hrel
  by_cases hlt:x < l.length
  ·obtain ⟨ad,A5,c5,A6,c6,hA,e0,e1,e2,e3,e4,e5,e6,e7,g1,g2,g3,g4⟩:=cs_at HC.out HB.out x hlt
   have HCA:=zk (HCL.out x hlt A5 c5 A6 c6 wr HB.out g1 g2 g3 g4)
   have c4b0:decide (x < l.length)=true:=decide_eq_true hlt
   have HLT:=zk hlt
   have q4:=eq_true hlt
   generalize l[x]=lx at *
   subst hA
   clear hlt g1 g2 g3 g4
   cases hp:p x with
   | true =>
    have HP:=zk hp
    rw [hp] at HCA
    clear hp
    go_wp2_with (go_at_fn g;refine HCA.out.mono ?_;rintro e w2 ⟨rfl,hb2⟩;have B2:=zk (below_step HB.out hb2);clear hb2)
    go_ret
    exact ⟨congrArg (fun i=>Ending.returned (Value.int .i64 i)) (idxN_hit p l.length x HLT.out HT.out HP.out).symm,B2.out⟩
   | false =>
    have HP:=zk hp
    rw [hp] at HCA
    clear hp
    cases gk with
    | zero=>exact absurd HK.out (by have:=HLT.out;omega)
    | succ k1 =>
     go_wp2_with (go_at_fn g;refine HCA.out.mono ?_;rintro e w2 ⟨rfl,hb2⟩;have B2:=zk (below_step HB.out hb2);clear hb2)
     have hw:wrap64 ((x:Int)+1)=((x+1:Nat):Int):=by have:=HLT.out;unfold wrap64;omega
     go_roundg k1
     case measure=>omega
     case rel =>
      refine ⟨x+1,by first|rfl|exact congrArg (Value.int IntKind.i64) hw|(simp [*];done),⟨by have:=HK.out;omega⟩,⟨fun j hj=>?_⟩,B2⟩
      by_cases e:j < x
      ·exact HT.out j e
      ·obtain rfl:j=x:=by omega
       exact HP.out
  ·have c4b0:decide (x < l.length)=false:=decide_eq_false hlt
   have hx:x=l.length:=by have:=HK.out;omega
   have HE:=zk (idxN_miss p l.length (fun j hj=>HT.out j (by omega)))
   clear hlt hx
   go_wp2
   go_ret
   exact ⟨congrArg (fun i=>Ending.returned (Value.int .i64 i)) HE.out.symm,HB.out⟩
set_option maxHeartbeats 1000000 in
theorem any_cs (p:Nat→Bool) (g:Nat) (lb:Array Value) (eg:∀ args w,(callFunc g args).run Tryz.prog w = .ok (.enter g args) w) (A:Option Addr) (l:List S67) (c:Nat) (w:World) (hn:l.length≤9223372036854775806) (hC:Kd.C k67 w A l.length l) (hcl:ClC w l p g lb) :
  Calls Tryz.prog 42 #[.slice A l.length c,.func (.func g) #[] lb] w fun e w'=>e = .returned (.bool (anyN p l.length))∧Below w.heap.size w w':=by
 have HI:=zk (idx_cs p g lb eg A l c w hn hC hcl)
 have HR:=zk (anyN_idx p l.length)
 clear hC hcl
 go_enter Tryz.func42,Tryz.ntmps42
 go_wp2_with (go_at_call 76;refine HI.out.mono ?_;generalize idxN p l.length=m at HR;rintro e w' ⟨rfl,hb⟩)
 go_ret
 exact ⟨congrArg (fun b=>Ending.returned (Value.bool b)) HR.out,hb⟩
def anyO (f:S67→Option Bool) (l:List S67):Option Bool:=if (l.all fun c=>(f c).isSome)=true then some (l.any fun c=>f c == some true) else none
theorem anyO_at {f:S67→Option Bool} {l:List S67} {r:Bool} (h:anyO f l=some r):anyN (fun i=>(l[i]?.map fun c=>f c == some true).getD false) l.length=r∧∀ (i:Nat) (hi:i < l.length),f l[i]=some ((l[i]?.map fun c=>f c == some true).getD false):=by
 unfold anyO at h
 split at h
 ·next ha =>
  rw [List.all_eq_true] at ha
  refine ⟨?_,fun i hi=>?_⟩
  ·rw [← zi h]
   unfold anyN
   rw [Bool.eq_iff_iff,List.any_eq_true,List.any_eq_true]
   constructor
   ·rintro ⟨i,hi,e⟩
    rw [List.mem_range] at hi
    rw [List.getElem?_eq_getElem hi] at e
    exact ⟨l[i],List.getElem_mem hi,e⟩
   ·rintro ⟨x,hx,e⟩
    obtain ⟨i,hi,rfl⟩:=List.getElem_of_mem hx
    exact ⟨i,List.mem_range.2 hi,by rw [List.getElem?_eq_getElem hi];exact e⟩
  ·have:=ha l[i] (List.getElem_mem hi)
   rw [List.getElem?_eq_getElem hi]
   cases hf:f l[i] with
   | none=>rw [hf] at this;cases this
   | some b=>simp only [Option.map_some,Option.getD_some,hf];cases b <;> rfl
 ·cases h
theorem anyO_mono {f g:S67→Option Bool} (hfg:∀ c,LeO (f c) (g c)) (l:List S67):LeO (anyO f l) (anyO g l):=by
 intro r h
 unfold anyO at h ⊢
 split at h
 ·next ha =>
  have e:∀ c ∈ l,g c=f c:=fun c hc=>by
   have:=(List.all_eq_true.1 ha) c hc
   cases hf:f c with
   | none=>rw [hf] at this;cases this
   | some b=>exact hfg c b hf
  have e1:(l.all fun c=>(g c).isSome)=true:=List.all_eq_true.2 fun c hc=>by rw [e c hc];exact List.all_eq_true.1 ha c hc
  rw [if_pos e1,← zi h]
  congr 1
  rw [Bool.eq_iff_iff,List.any_eq_true,List.any_eq_true]
  exact ⟨fun ⟨c,hc,h⟩=>⟨c,hc,by rw [← e c hc];exact h⟩,fun ⟨c,hc,h⟩=>⟨c,hc,by rw [e c hc];exact h⟩⟩
 ·cases h
def notValid (k:Nat) (c:S67):Option Bool:=(impl_IsValidConstraint.f k c.f0 c.f1 c.f2 c.f3.f0 c.f3.f1 c.f3.f2 c.f4 c.f5).bind fun t=>some (!t)
set_option maxHeartbeats 1000000 in
theorem clo_valid (k:Nat) (x:S67) (r:Bool) (h:notValid k x=some r) (A5:Option Addr) (c5:Nat) (A6:Option Addr) (c6:Nat) (W:World) (g1:x.f3.f2.length≤c5) (g2:Kd.C k65 W A5 x.f3.f2.length x.f3.f2) (g3:x.f4.length≤c6) (g4:(Kd.int .i64).C W A6 x.f4.length x.f4) :
  Calls Tryz.prog 64 #[.agg #[.int .i64 x.f0,.string x.f1,.string x.f2,.int .i64 x.f3.f0,.string x.f3.f1,.slice A5 x.f3.f2.length c5,.slice A6 x.f4.length c6,.int .i64 x.f5]] W fun e W'=>e = .returned (.bool r)∧Below W.heap.size W W':=by
 obtain ⟨t,ht,hr⟩:=zo h
 obtain rfl:=zi hr
 have HV:=zk (fun (W':World) (hB:Below W.heap.size W W')=>impl_IsValidConstraint.calls k x.f0 x.f1 x.f2 x.f3.f0 x.f3.f1 A5 c5 x.f3.f2 A6 c6 x.f4 x.f5 t W' (Kd.C_below g2 hB) g1 (Kd.C_below g4 hB) g3 ht)
 have HB:=zk (Below.refl W.heap.size W)
 obtain ⟨f0,f1,f2,⟨d,e,l⟩,f4,f5⟩:=x
 simp only at HV ⊢
 clear g1 g2 g3 g4 h ht hr
 go_enter Tryz.func64,Tryz.ntmps64
 go_wp2_with (first
  | ((with_reducible refine gate_dst (N:=1) rfl ?_);refine zE (N:=1) (cs:=#[.int .i64 f0,.string f1,.string f2,.int .i64 d,.string e,.slice A5 l.length c5,.slice A6 f4.length c6,.int .i64 f5]) (t:=67) ?_;intro gr hgr w3 hbox hb3;have X3:=zk hbox;have B3:=zk (below_step HB.out hb3);obtain ⟨y0,y1,y2,y3,y4,y5,y6,y7,q0,q1,q2,q3,q4,q5,q6,q7⟩:=blk8 hbox;clear hb3 hbox hgr)
  | (go_at_call 65;(with_reducible refine (HV.out _ (by first|exact B3.out|exact pw_below_drewN B3.out _|exact below_drew B3.out|exact HB.out)).mono ?_);rintro e w2 ⟨rfl,hb2⟩;have B2:=zk (show Below W.heap.size W w2 by first|exact below_step B3.out hb2|exact below_step HB.out hb2);clear hb2))
 go_ret
 exact ⟨za54,by first|exact B2.out|exact B3.out⟩
-- EXT loop.example/g00582/impl.IsValidProblem rounds making
def impl_IsValidProblem.f (k:Nat) (l0_0:List S67):Option Bool:=if l0_0.length≤6 then (anyO (notValid k) l0_0).bind fun t=>some (!t) else some false
theorem impl_IsValidProblem.mono (a0:List S67) (k:Nat):LeO (impl_IsValidProblem.f k a0) (impl_IsValidProblem.f (k+1) a0):=by
 unfold impl_IsValidProblem.f
 refine LeO.ite (LeO.bind (anyO_mono (fun c=>?_) a0) fun _=>LeO.refl _) (LeO.refl _)
 exact LeO.bind (impl_IsValidConstraint.mono _ _ _ _ _ _ _ _ _) fun _=>LeO.refl _
set_option maxHeartbeats 1000000 in
theorem impl_IsValidProblem.calls (k:Nat) (A0_0:Option Addr) (c0_0:Nat) (l0_0:List S67) (r:Bool) (w:World) (hr0_0:Kd.C k67 w A0_0 l0_0.length l0_0) (hc0_0:l0_0.length≤c0_0) (h:impl_IsValidProblem.f k l0_0=some r) :
  Calls Tryz.prog 30 #[.agg #[.slice A0_0 l0_0.length c0_0]] w fun e w'=>e = .returned (.bool r)∧Below w.heap.size w w':=by
 have HB:=zk (Below.refl w.heap.size w)
 have HR:=zk hr0_0
 have HH:=zk h
 generalize hn:l0_0.length=n at *
 have HN:=zk hn
 clear hr0_0 hc0_0 h hn
 go_enter Tryz.func30,Tryz.ntmps30
 go_upto_region 1 with (first
  | ((with_reducible refine gate_dst (N:=1) rfl ?_);refine zE (N:=1) (cs:=#[.slice A0_0 n c0_0]) (t:=26) ?_;intro gr hgr w3 hbox hb3;have X3:=zk hbox;have B3:=zk (below_step HB.out hb3);clear hb3 hbox hgr))
 obtain ⟨y0,g0⟩:=blk1 X3.out
 by_cases h6:n≤6
 ·have hd6:decide (n≤6)=true:=decide_eq_true h6
  have hd7:decide ((n:Int)≤6)=true:=decide_eq_true (by omega)
  have hf:=HH.out
  unfold impl_IsValidProblem.f at hf
  rw [HN.out,if_pos h6] at hf
  obtain ⟨t,ht,hr⟩:=zo hf
  obtain rfl:=zi hr
  obtain ⟨a1,a2⟩:=anyO_at ht
  rw [HN.out] at a1
  have CC:=any_cs _ 64 #[] (enters_of Tryz.func64 (by kernel_rfl) rfl) A0_0 l0_0 c0_0 w3 (by rw [HN.out];omega) (Kd.C_below (by rw [HN.out];exact HR.out) B3.out) (fun i hi A5 c5 A6 c6 W hB g1 g2 g3 g4=>clo_valid k l0_0[i] _ (a2 i hi) A5 c5 A6 c6 W g1 (Kd.C_below g2 hB) g3 (Kd.C_below g4 hB))
  rw [HN.out,a1] at CC
  have HCC:=zk CC
  clear CC a1 a2 ht hr hf h6
  go_wp2_with (go_at_call 42;(with_reducible refine HCC.out.mono ?_);rintro e w2 ⟨rfl,hb2⟩;have B2:=zk (below_step B3.out hb2);clear hb2)
  go_ret
  exact ⟨za54,B2.out⟩
 ·have hd6:decide (n≤6)=false:=decide_eq_false h6
  have hd7:decide ((n:Int)≤6)=false:=decide_eq_false (by omega)
  have hf:=HH.out
  unfold impl_IsValidProblem.f at hf
  rw [HN.out,if_neg h6] at hf
  obtain rfl:=zi hf
  clear h6 hf
  go_wp2
  go_ret
  exact ⟨za54,B3.out⟩
end Go.Proofs.YtffjfdoghofkdaaGreat.Ext
namespace Go.Proofs.YtffjfdoghofkdaaGreat.A
open Go.RowKit YtffjfdoghofkdaaGreat.Ext YtffjfdoghofkdaaGreatW.PrintWords YtffjfdoghofkdaaGreatW.PrintLast YtffjfdoghofkdaaGreatW.PrintMore
attribute [local go_sem] max2_int min2_int max_two min_two max_three min_three max_four min_four
def impl_VarsOfProblem.l0:Nat→ByteArray→List (S67)→Int→Int→Option (ByteArray)
 | 0,_,_,_,_=>none
 | k+1,x3,x10,x11,x12=>if x12 < x11 then (if 0≤x12 then (if x12 < (x10.length:Int) then ((impl_VarsOfConstraint.f k ((rd_T67 x10 x12).f0) ((rd_T67 x10 x12).f1) ((rd_T67 x10 x12).f2) ((rd_T67 x10 x12).f3.f0) ((rd_T67 x10 x12).f3.f1) ((rd_T67 x10 x12).f3.f2) ((rd_T67 x10 x12).f4) ((rd_T67 x10 x12).f5)).bind fun t31005=>(if x3.size+t31005.size≤9223372036854775807 then (impl_VarsOfProblem.l0 k (x3 ++ t31005) x10 x11 (wrap64 (x12+1))) else (none))) else (none)) else (none)) else ((impl_VarsOf.f k x3).bind fun t31006=>(some t31006))
def impl_VarsOfProblem.f (k:Nat) (l0_0:List (S67)):Option (ByteArray):=(impl_IsValidProblem.f k l0_0).bind fun t31002=>(if t31002=true then (impl_VarsOfProblem.l0 k (⟨#[]⟩:ByteArray) l0_0 (l0_0.length:Int) 0) else (some (⟨#[]⟩:ByteArray)))
theorem impl_VarsOfProblem.mono_l:∀ k,(∀ y0 y1 y2 y3,LeO (impl_VarsOfProblem.l0 k y0 y1 y2 y3) (impl_VarsOfProblem.l0 (k+1) y0 y1 y2 y3))
 | 0=>fun _ _ _ _ r h=>by simp [impl_VarsOfProblem.l0] at h
 | k+1=>by
  have ih0:=impl_VarsOfProblem.mono_l k
  ·intro y0 y1 y2 y3
   unfold impl_VarsOfProblem.l0
   repeat' first
   | with_reducible first|exact ih0 _ _ _ _|exact impl_IsValidProblem.mono _ _|exact impl_VarsOf.mono _ _|exact impl_VarsOfConstraint.mono _ _ _ _ _ _ _ _ _|exact LeO.refl _|exact LeO.none _|refine LeO.ite ?_ ?_|refine LeO.bind ?_ (fun _=>?_)
theorem impl_VarsOfProblem.mono:∀ a0 k,LeO (impl_VarsOfProblem.f k a0) (impl_VarsOfProblem.f (k+1) a0):=by
 intro a0 k
 have ih0:=impl_VarsOfProblem.mono_l k
 unfold impl_VarsOfProblem.f
 repeat' first
  | with_reducible first|exact ih0 _ _ _ _|exact impl_IsValidProblem.mono _ _|exact impl_VarsOf.mono _ _|exact impl_VarsOfConstraint.mono _ _ _ _ _ _ _ _ _|exact LeO.refl _|exact LeO.none _|refine LeO.ite ?_ ?_|refine LeO.bind ?_ (fun _=>?_)
theorem impl_VarsOfProblem.calls (k:Nat) (A0_0:Option Addr) (c0_0:Nat) (l0_0:List (S67)) (r:ByteArray) (w:World) (hr0_0:Kd.C k67 w A0_0 l0_0.length l0_0) (hc0_0:l0_0.length≤c0_0) (h:impl_VarsOfProblem.f k l0_0=some r) :
  Calls Tryz.prog 31 #[.agg #[.slice A0_0 l0_0.length c0_0]] w fun e w'=>e = .returned (.string r)∧Below w.heap.size w w':=by
 have hu26:=Tryz.underlying26
 have hu67:=Tryz.underlying67
 have HR0_0:=zk hr0_0
 have HC0_0:=zk hc0_0
 clear hr0_0 hc0_0
 have HB:=zk (Below.refl w.heap.size w)
 have H:((impl_IsValidProblem.f k l0_0).bind fun t31002=>(if t31002=true then (impl_VarsOfProblem.l0 k (⟨#[]⟩:ByteArray) l0_0 (l0_0.length:Int) 0) else (some (⟨#[]⟩:ByteArray))))=some r:=h
 clear h
 go_enter Tryz.func31,Tryz.ntmps31
 go_upto_region 1 with (first|((with_reducible refine gate_dst (N:=1) rfl ?_);refine zE (N:=1) (cs:=#[.slice A0_0 l0_0.length c0_0]) (t:=26) ?_;intro gb31001 hg w4 hbox hb;have n0_:=zk (below_step za4 hb);have n1_:=zk (hbox);have n2_:=zk (zs (w:=w) hg za4);have n3_:=zk (zs (w:=w) hg za4);clear HB;have HB:=n0_;have BK31001:=n1_;have GW31001:=n2_;have GE31001:=n3_;clear n0_ n1_ n2_ n3_;clear hb hbox hg;obtain ⟨hcz5_0,hfz5_0⟩:=blk1 BK31001.out))
 replace H:=zo H
 obtain ⟨t31002,A20,H⟩:=H
 replace H:(if t31002=true then (impl_VarsOfProblem.l0 k (⟨#[]⟩:ByteArray) l0_0 (l0_0.length:Int) 0) else (some (⟨#[]⟩:ByteArray)))=some r:=H
 have A2:=zk A20
 clear A20
 by_cases c3:t31002=true
 ·subst c3
  have H1:(impl_VarsOfProblem.l0 k (⟨#[]⟩:ByteArray) l0_0 (l0_0.length:Int) 0)=some r:=by rw [if_pos rfl] at H;exact H
  clear H
  have H:=H1
  clear H1
  have H':=zk H
  clear H
  go_wp2_with (first|((with_reducible refine gate_callee (f:=30) rfl ?_);refine goesL_ (some 7) rfl rfl Tryz.func30 (by kernel_rfl) rfl #[.agg #[.slice A0_0 l0_0.length c0_0]] rfl za5 ?_;(with_reducible refine (impl_IsValidProblem.calls k _ _ l0_0 _ _ ?side1 ?side2 A2.out).mono ?_);(case side1=>repeat (first|exact (Kd.C_below HR0_0.out HB.out)|(with_reducible refine Kd.C_alloc ?_ _)|(with_reducible refine Kd.C_drewN ?_ _)|(with_reducible refine Kd.C_drew ?_)));(case side2=>exact HC0_0.out);rintro e w6 ⟨rfl,hb⟩;refine ⟨_,rfl,?_⟩;have n0_:=zk (zb BK31001.out hb);have n1_:=zk (below_step za4 hb);clear BK31001;clear HB;have BK31001:=n0_;have HB:=n1_;clear n0_ n1_;(try clear hb);(try clear hb2);(try clear hk);(try clear hi);obtain ⟨hcz7_0,hfz7_0⟩:=blk1 BK31001.out))
  first|go_loopg [3,12] k (fun kq v3 v12 w'=>∃ (x3_1:ByteArray) (x12_1:Int),v3 = .string x3_1∧v12 = .int .i64 x12_1∧Aside0 (impl_VarsOfProblem.l0 kq x3_1 l0_0 (l0_0.length:Int) x12_1=some r)∧Aside0 (kq≤k)∧Aside0 (w'.heap[gb31001]? = some (.cells #[(.slice A0_0 l0_0.length c0_0)] 26 (0,0)))∧Aside0 (Below w.heap.size w w'))|(simp only [Act.put,zt,zv,zu];go_loopg [3,12] k (fun kq v3 v12 w'=>∃ (x3_1:ByteArray) (x12_1:Int),v3 = .string x3_1∧v12 = .int .i64 x12_1∧Aside0 (impl_VarsOfProblem.l0 kq x3_1 l0_0 (l0_0.length:Int) x12_1=some r)∧Aside0 (kq≤k)∧Aside0 (w'.heap[gb31001]? = some (.cells #[(.slice A0_0 l0_0.length c0_0)] 26 (0,0)))∧Aside0 (Below w.heap.size w w')))
  case atStart=>exact ⟨((⟨#[]⟩:ByteArray)),(0),za8,za8,H',⟨Nat.le_refl _⟩,⟨za0 BK31001.out⟩,⟨za4⟩⟩
  case round =>
   clear H'
   try clear c3
   try clear hcz5_0
   try clear hcz7_0
   try clear hfz5_0
   try clear hfz7_0
   obtain ⟨x3_1,x12_1,rfl,rfl,HA,HK1,BK31001,HB⟩:=hrel
   cases gk with
   | zero=>exact absurd HA.out (by simp [impl_VarsOfProblem.l0])
   | succ k1 =>
    have H:=HA.out
    clear HA
    simp only [impl_VarsOfProblem.l0] at H
    by_cases c8:x12_1 < (l0_0.length:Int)
    rw [if_pos c8] at H
    have c8b0:decide (x12_1 < (l0_0.length:Int))=true:=decide_eq_true c8
    clear c8
    by_cases c9:0≤x12_1
    rw [if_pos c9] at H
    have c9b0:decide (0≤x12_1)=true:=decide_eq_true c9
    clear c9
    by_cases c10:x12_1 < (l0_0.length:Int)
    rw [if_pos c10] at H
    have c10b0:decide (x12_1 < (l0_0.length:Int))=true:=decide_eq_true c10
    clear c10
    replace H:=zo H
    obtain ⟨t31005,A110,H⟩:=H
    replace H:(if x3_1.size+t31005.size≤9223372036854775807 then (impl_VarsOfProblem.l0 k1 (x3_1 ++ t31005) l0_0 (l0_0.length:Int) (wrap64 (x12_1+1))) else (none))=some r:=H
    have A11:=zk A110
    clear A110
    by_cases c12:x3_1.size+t31005.size≤9223372036854775807
    rw [if_pos c12] at H
    have c12z:=c12
    try simp at c12z
    try replace c12z:=eq_false (Nat.not_lt.2 c12z)
    have c12b0:=eq_true c12
    have c12b1:decide (x3_1.size+t31005.size≤9223372036854775807)=true:=decide_eq_true c12
    try have c12b2:(9223372036854775807 < x3_1.size+t31005.size)=False:=eq_false (Nat.not_lt.2 c12)
    have H':=zk H
    clear H
    have p31003:0≤(x12_1:Int):=of_decide_eq_true za9
    have q31003:x12_1 < (l0_0.length:Int):=of_decide_eq_true za9
    obtain ⟨ad31003,A31003_5,c31003_5,A31003_6,c31003_6,e31003,hx31003_0,hx31003_1,hx31003_2,hx31003_3,hx31003_4,hx31003_5,hx31003_6,hx31003_7,hl31003_5,hi31003_5,hl31003_6,hi31003_6⟩:=at_T67 HR0_0.out x12_1 p31003 q31003
    cases e31003
    replace hx31003_0:=zx HB.out hx31003_0
    replace hx31003_1:=zx HB.out hx31003_1
    replace hx31003_2:=zx HB.out hx31003_2
    replace hx31003_3:=zx HB.out hx31003_3
    replace hx31003_4:=zx HB.out hx31003_4
    replace hx31003_5:=zx HB.out hx31003_5
    replace hx31003_6:=zx HB.out hx31003_6
    replace hx31003_7:=zx HB.out hx31003_7
    have HR31003_5:=zk hi31003_5
    have HC31003_5:=zk hl31003_5
    clear hi31003_5 hl31003_5
    have HR31003_6:=zk hi31003_6
    have HC31003_6:=zk hl31003_6
    clear hi31003_6 hl31003_6
    replace p31003:=eq_true p31003
    replace q31003:=eq_true q31003
    have fin0_:=zk trivial
    rotate_left
    · rw [if_neg c12] at H
      exact absurd H (by simp)
    · rw [if_neg c10] at H
      exact absurd H (by simp)
    · rw [if_neg c9] at H
      exact absurd H (by simp)
    rw [if_neg c8] at H
    have c8b0:decide (x12_1 < (l0_0.length:Int))=false:=decide_eq_false c8
    clear c8
    replace H:=zo H
    obtain ⟨t31006,A170,H⟩:=H
    replace H:(some t31006)=some r:=H
    have A17:=zk A170
    clear A170
    obtain rfl:=zi H
    have fin1_:=zk trivial
    rotate_left
    all_goals
     go_wp2_with (first|((with_reducible refine gate_dst (N:=5) rfl ?_);refine zE (N:=5) (cs:=#[.int .i64 0,.string (⟨#[]⟩:ByteArray),.string (⟨#[]⟩:ByteArray),.int .i64 0,.string (⟨#[]⟩:ByteArray),.slice none 0 0,.slice none 0 0,.int .i64 0]) (t:=67) ?_;intro gb31004 hg w13 hbox hb;have n0_:=zk (zb BK31001.out hb);have n1_:=zk (below_step za4 hb);have n2_:=zk (hbox);have n3_:=zk (zs (w:=w) hg za4);have n4_:=zk (zs (w:=w) hg za4);have n5_:=zk ((by rw [hg];exact Nat.ne_of_lt (zl BK31001.out):gb31001 ≠ gb31004));have n6_:=zk ((by rw [hg];exact Nat.ne_of_gt (zl BK31001.out):gb31004 ≠ gb31001));clear BK31001;clear HB;have BK31001:=n0_;have HB:=n1_;have BK31004:=n2_;have GW31004:=n3_;have GE31004:=n4_;have NB31001_31004:=n5_;have NB31004_31001:=n6_;clear n0_ n1_ n2_ n3_ n4_ n5_ n6_;clear hb hbox hg;have hnb14:=NB31004_31001.out;have hnc14:=NB31001_31004.out;obtain ⟨hcz15_0,hcz15_1,hcz15_2,hcz15_3,hcz15_4,hcz15_5,hcz15_6,hcz15_7,hfz15_0,hfz15_1,hfz15_2,hfz15_3,hfz15_4,hfz15_5,hfz15_6,hfz15_7⟩:=blk8 BK31004.out)|((with_reducible refine gate_callee (f:=66) rfl ?_);refine goesL_ (some 18) rfl rfl Tryz.func66 (by kernel_rfl) rfl #[.agg #[.int .i64 ((rd_T67 l0_0 x12_1).f0),.string ((rd_T67 l0_0 x12_1).f1),.string ((rd_T67 l0_0 x12_1).f2),.int .i64 ((rd_T67 l0_0 x12_1).f3.f0),.string ((rd_T67 l0_0 x12_1).f3.f1),.slice A31003_5 ((rd_T67 l0_0 x12_1).f3.f2).length c31003_5,.slice A31003_6 ((rd_T67 l0_0 x12_1).f4).length c31003_6,.int .i64 ((rd_T67 l0_0 x12_1).f5)]] rfl za5 ?_;(with_reducible refine (impl_VarsOfConstraint.calls k1 ((rd_T67 l0_0 x12_1).f0) ((rd_T67 l0_0 x12_1).f1) ((rd_T67 l0_0 x12_1).f2) ((rd_T67 l0_0 x12_1).f3.f0) ((rd_T67 l0_0 x12_1).f3.f1) _ _ ((rd_T67 l0_0 x12_1).f3.f2) _ _ ((rd_T67 l0_0 x12_1).f4) ((rd_T67 l0_0 x12_1).f5) t31005 _ ?side1 ?side2 ?side3 ?side4 A11.out).mono ?_);(case side1=>exact Kd.C_below HR31003_5.out za4);(case side2=>exact HC31003_5.out);(case side3=>exact Kd.C_below HR31003_6.out za4);(case side4=>exact HC31003_6.out);rintro e w16 ⟨rfl,hb⟩;refine ⟨_,rfl,?_⟩;have n0_:=zk (blk_below (g:=gb31001) (o:=.cells #[.slice (some ad31003) l0_0.length c0_0] 26 (0,0)) (by (with_reducible repeat (first|refine blk_drewN ?_ _|refine blk_drew ?_|refine blk_alloc ?_ _));refine blk_far ?_ NB31001_31004.out _;(with_reducible repeat (first|refine blk_drewN ?_ _|refine blk_drew ?_|refine blk_alloc ?_ _));refine blk_far ?_ NB31001_31004.out _;(with_reducible repeat (first|refine blk_drewN ?_ _|refine blk_drew ?_|refine blk_alloc ?_ _));refine blk_far ?_ NB31001_31004.out _;(with_reducible repeat (first|refine blk_drewN ?_ _|refine blk_drew ?_|refine blk_alloc ?_ _));refine blk_far ?_ NB31001_31004.out _;(with_reducible repeat (first|refine blk_drewN ?_ _|refine blk_drew ?_|refine blk_alloc ?_ _));refine blk_far ?_ NB31001_31004.out _;(with_reducible repeat (first|refine blk_drewN ?_ _|refine blk_drew ?_|refine blk_alloc ?_ _));refine blk_far ?_ NB31001_31004.out _;(with_reducible repeat (first|refine blk_drewN ?_ _|refine blk_drew ?_|refine blk_alloc ?_ _));refine blk_far ?_ NB31001_31004.out _;(with_reducible repeat (first|refine blk_drewN ?_ _|refine blk_drew ?_|refine blk_alloc ?_ _));refine blk_far ?_ NB31001_31004.out _;(with_reducible repeat (first|refine blk_drewN ?_ _|refine blk_drew ?_|refine blk_alloc ?_ _));exact BK31001.out) hb);have n1_:=zk (blk_below (g:=gb31004) (o:=.cells #[.int .i64 ((rd_T67 l0_0 x12_1).f0),.string ((rd_T67 l0_0 x12_1).f1),.string ((rd_T67 l0_0 x12_1).f2),.int .i64 ((rd_T67 l0_0 x12_1).f3.f0),.string ((rd_T67 l0_0 x12_1).f3.f1),.slice A31003_5 ((rd_T67 l0_0 x12_1).f3.f2).length c31003_5,.slice A31003_6 ((rd_T67 l0_0 x12_1).f4).length c31003_6,.int .i64 ((rd_T67 l0_0 x12_1).f5)] 67 (0,0)) (by (with_reducible repeat (first|refine blk_drewN ?_ _|refine blk_drew ?_|refine blk_alloc ?_ _));refine blk_put (cs:=#[.int .i64 ((rd_T67 l0_0 x12_1).f0),.string ((rd_T67 l0_0 x12_1).f1),.string ((rd_T67 l0_0 x12_1).f2),.int .i64 ((rd_T67 l0_0 x12_1).f3.f0),.string ((rd_T67 l0_0 x12_1).f3.f1),.slice A31003_5 ((rd_T67 l0_0 x12_1).f3.f2).length c31003_5,.slice A31003_6 ((rd_T67 l0_0 x12_1).f4).length c31003_6,.int .i64 0]) ?_ 7 _ rfl;(with_reducible repeat (first|refine blk_drewN ?_ _|refine blk_drew ?_|refine blk_alloc ?_ _));refine blk_put (cs:=#[.int .i64 ((rd_T67 l0_0 x12_1).f0),.string ((rd_T67 l0_0 x12_1).f1),.string ((rd_T67 l0_0 x12_1).f2),.int .i64 ((rd_T67 l0_0 x12_1).f3.f0),.string ((rd_T67 l0_0 x12_1).f3.f1),.slice A31003_5 ((rd_T67 l0_0 x12_1).f3.f2).length c31003_5,.slice none 0 0,.int .i64 0]) ?_ 6 _ rfl;(with_reducible repeat (first|refine blk_drewN ?_ _|refine blk_drew ?_|refine blk_alloc ?_ _));refine blk_put (cs:=#[.int .i64 ((rd_T67 l0_0 x12_1).f0),.string ((rd_T67 l0_0 x12_1).f1),.string ((rd_T67 l0_0 x12_1).f2),.int .i64 ((rd_T67 l0_0 x12_1).f3.f0),.string ((rd_T67 l0_0 x12_1).f3.f1),.slice none 0 0,.slice none 0 0,.int .i64 0]) ?_ 5 _ rfl;(with_reducible repeat (first|refine blk_drewN ?_ _|refine blk_drew ?_|refine blk_alloc ?_ _));refine blk_put (cs:=#[.int .i64 ((rd_T67 l0_0 x12_1).f0),.string ((rd_T67 l0_0 x12_1).f1),.string ((rd_T67 l0_0 x12_1).f2),.int .i64 ((rd_T67 l0_0 x12_1).f3.f0),.string (⟨#[]⟩:ByteArray),.slice none 0 0,.slice none 0 0,.int .i64 0]) ?_ 4 _ rfl;(with_reducible repeat (first|refine blk_drewN ?_ _|refine blk_drew ?_|refine blk_alloc ?_ _));refine blk_put (cs:=#[.int .i64 ((rd_T67 l0_0 x12_1).f0),.string ((rd_T67 l0_0 x12_1).f1),.string ((rd_T67 l0_0 x12_1).f2),.int .i64 0,.string (⟨#[]⟩:ByteArray),.slice none 0 0,.slice none 0 0,.int .i64 0]) ?_ 3 _ rfl;(with_reducible repeat (first|refine blk_drewN ?_ _|refine blk_drew ?_|refine blk_alloc ?_ _));refine blk_put (cs:=#[.int .i64 ((rd_T67 l0_0 x12_1).f0),.string ((rd_T67 l0_0 x12_1).f1),.string (⟨#[]⟩:ByteArray),.int .i64 0,.string (⟨#[]⟩:ByteArray),.slice none 0 0,.slice none 0 0,.int .i64 0]) ?_ 2 _ rfl;(with_reducible repeat (first|refine blk_drewN ?_ _|refine blk_drew ?_|refine blk_alloc ?_ _));refine blk_put (cs:=#[.int .i64 ((rd_T67 l0_0 x12_1).f0),.string (⟨#[]⟩:ByteArray),.string (⟨#[]⟩:ByteArray),.int .i64 0,.string (⟨#[]⟩:ByteArray),.slice none 0 0,.slice none 0 0,.int .i64 0]) ?_ 1 _ rfl;(with_reducible repeat (first|refine blk_drewN ?_ _|refine blk_drew ?_|refine blk_alloc ?_ _));refine blk_put (cs:=#[.int .i64 0,.string (⟨#[]⟩:ByteArray),.string (⟨#[]⟩:ByteArray),.int .i64 0,.string (⟨#[]⟩:ByteArray),.slice none 0 0,.slice none 0 0,.int .i64 0]) ?_ 0 _ rfl;(with_reducible repeat (first|refine blk_drewN ?_ _|refine blk_drew ?_|refine blk_alloc ?_ _));exact BK31004.out) hb);have n2_:=zk (below_step za4 hb);clear BK31001;clear BK31004;clear HB;have BK31001:=n0_;have BK31004:=n1_;have HB:=n2_;clear n0_ n1_ n2_;(try clear hb);(try clear hb2);(try clear hk);(try clear hi))|((with_reducible refine gate_callee (f:=67) rfl ?_);refine goesL_ (some 22) rfl rfl Tryz.func67 (by kernel_rfl) rfl #[.string x3_1] rfl za5 ?_;(with_reducible refine (impl_VarsOf.calls k1 x3_1 t31006 _ A17.out).mono ?_);rintro e w' ⟨rfl,⟨nd,rfl⟩⟩;refine ⟨_,rfl,?_⟩))
     first
     | (
       clear fin0_
       go_roundg k1
       case measure=>have:=HK1.out;omega
       case rel=>exact ⟨(x3_1 ++ t31005),(wrap64 (x12_1+1)),za8,za8,H',⟨za17⟩,⟨za0 BK31001.out⟩,⟨za4⟩⟩)
     | (
       clear fin1_
       go_ret
       exact ⟨za7,za4⟩)
 ·replace c3:=Bool.eq_false_iff.mpr c3
  subst c3
  have H1:(some (⟨#[]⟩:ByteArray))=some r:=by rw [if_neg (show ¬ (false=true) by decide)] at H;exact H
  clear H
  have H:=H1
  clear H1
  obtain rfl:=zi H
  go_wp2_with (first|((with_reducible refine gate_callee (f:=30) rfl ?_);refine goesL_ (some 7) rfl rfl Tryz.func30 (by kernel_rfl) rfl #[.agg #[.slice A0_0 l0_0.length c0_0]] rfl za5 ?_;(with_reducible refine (impl_IsValidProblem.calls k _ _ l0_0 _ _ ?side1 ?side2 A2.out).mono ?_);(case side1=>repeat (first|exact (Kd.C_below HR0_0.out HB.out)|(with_reducible refine Kd.C_alloc ?_ _)|(with_reducible refine Kd.C_drewN ?_ _)|(with_reducible refine Kd.C_drew ?_)));(case side2=>exact HC0_0.out);rintro e w20 ⟨rfl,hb⟩;refine ⟨_,rfl,?_⟩;have n0_:=zk (zb BK31001.out hb);have n1_:=zk (below_step za4 hb);clear BK31001;clear HB;have BK31001:=n0_;have HB:=n1_;clear n0_ n1_;(try clear hb);(try clear hb2);(try clear hk);(try clear hi)))
  go_ret
  exact ⟨za7,za4⟩
def impl_cleared.l0:Nat→ByteArray→Int→ByteArray→ByteArray→ByteArray→Option (ByteArray × ByteArray × ByteArray)
 | 0,_,_,_,_,_=>none
 | k+1,x1,x6,x41002000,x41002001,x41002002=>if x6 < 3 then (if 0≤x6 then ((strings_IndexByte.f x1 (bt (⟨#[88,89,90]⟩:ByteArray) x6)).bind fun t41003=>(if t41003 < 0 then ((impl_WithValue.f x41002000 x41002001 x41002002 (bt (⟨#[88,89,90]⟩:ByteArray) x6) (⟨#[]⟩:ByteArray)).bind fun bt41004=>(impl_cleared.l0 k x1 (wrap64 (x6+1)) bt41004.1 bt41004.2.1 bt41004.2.2)) else (impl_cleared.l0 k x1 (wrap64 (x6+1)) x41002000 x41002001 x41002002))) else (none)) else (some (x41002000,x41002001,x41002002))
def impl_cleared.f (k:Nat) (a0_0:ByteArray) (a0_1:ByteArray) (a0_2:ByteArray) (a1:ByteArray):Option (ByteArray × ByteArray × ByteArray):=impl_cleared.l0 k a1 0 a0_0 a0_1 a0_2
theorem impl_cleared.mono_l:∀ k,(∀ y0 y1 y2 y3 y4,LeO (impl_cleared.l0 k y0 y1 y2 y3 y4) (impl_cleared.l0 (k+1) y0 y1 y2 y3 y4))
 | 0=>fun _ _ _ _ _ r h=>by simp [impl_cleared.l0] at h
 | k+1=>by
  have ih0:=impl_cleared.mono_l k
  ·intro y0 y1 y2 y3 y4
   unfold impl_cleared.l0
   repeat' first
   | with_reducible first|exact ih0 _ _ _ _ _|exact LeO.refl _|exact LeO.none _|refine LeO.ite ?_ ?_|refine LeO.bind ?_ (fun _=>?_)
theorem impl_cleared.mono:∀ a0 a1 a2 a3 k,LeO (impl_cleared.f k a0 a1 a2 a3) (impl_cleared.f (k+1) a0 a1 a2 a3):=by
 intro a0 a1 a2 a3 k
 have ih0:=impl_cleared.mono_l k
 unfold impl_cleared.f
 repeat' first
  | with_reducible first|exact ih0 _ _ _ _ _|exact LeO.refl _|exact LeO.none _|refine LeO.ite ?_ ?_|refine LeO.bind ?_ (fun _=>?_)
theorem impl_cleared.calls (k:Nat) (a0_0:ByteArray) (a0_1:ByteArray) (a0_2:ByteArray) (a1:ByteArray) (r1:ByteArray) (r2:ByteArray) (r3:ByteArray) (w:World) (h:impl_cleared.f k a0_0 a0_1 a0_2 a1=some (r1,r2,r3)) :
   Calls Tryz.prog 41 #[.agg #[.string a0_0,.string a0_1,.string a0_2],.string a1] w fun e w'=>e = .returned (.agg #[.string r1,.string r2,.string r3])∧Below w.heap.size w w':=by
 have hu32:=Tryz.underlying32
 have HB:=zk (Below.refl w.heap.size w)
 have H:(impl_cleared.l0 k a1 0 a0_0 a0_1 a0_2)=some (r1,r2,r3):=h
 clear h
 have H':=zk H
 clear H
 go_enter Tryz.func41,Tryz.ntmps41
 go_wp2_with (first|((with_reducible refine gate_dst (N:=2) rfl ?_);refine zE (N:=2) (cs:=#[.string a0_0,.string a0_1,.string a0_2]) (t:=32) ?_;intro gb41001 hg w3 hbox hb;have n0_:=zk (below_step za4 hb);have n1_:=zk (hbox);have n2_:=zk (zs (w:=w) hg za4);have n3_:=zk (zs (w:=w) hg za4);clear HB;have HB:=n0_;have BK41001:=n1_;have GW41001:=n2_;have GE41001:=n3_;clear n0_ n1_ n2_ n3_;clear hb hbox hg)|((with_reducible refine gate_dst (N:=4) rfl ?_);refine zE (N:=4) (cs:=#[.string (⟨#[]⟩:ByteArray),.string (⟨#[]⟩:ByteArray),.string (⟨#[]⟩:ByteArray)]) (t:=32) ?_;intro gb41002 hg w4 hbox hb;have n0_:=zk (zb BK41001.out hb);have n1_:=zk (below_step za4 hb);have n2_:=zk (hbox);have n3_:=zk (zs (w:=w) hg za4);have n4_:=zk (zs (w:=w) hg za4);have n5_:=zk ((by rw [hg];exact Nat.ne_of_lt (zl BK41001.out):gb41001 ≠ gb41002));have n6_:=zk ((by rw [hg];exact Nat.ne_of_gt (zl BK41001.out):gb41002 ≠ gb41001));clear BK41001;clear HB;have BK41001:=n0_;have HB:=n1_;have BK41002:=n2_;have GW41002:=n3_;have GE41002:=n4_;have NB41001_41002:=n5_;have NB41002_41001:=n6_;clear n0_ n1_ n2_ n3_ n4_ n5_ n6_;clear hb hbox hg))
 first|go_loopg [6] k (fun kq v6 w'=>∃ (x6_1:Int) (x41002000_1:ByteArray) (x41002001_1:ByteArray) (x41002002_1:ByteArray),v6 = .int .i64 x6_1∧Aside0 (impl_cleared.l0 kq a1 x6_1 x41002000_1 x41002001_1 x41002002_1=some (r1,r2,r3))∧Aside0 (kq≤k)∧Aside0 (w'.heap[gb41001]? = some (.cells #[.string x41002000_1,.string x41002001_1,.string x41002002_1] 32 (0,0)))∧Aside0 (w'.heap[gb41002]? = some (.cells #[.string (⟨#[]⟩:ByteArray),.string (⟨#[]⟩:ByteArray),.string (⟨#[]⟩:ByteArray)] 32 (0,0)))∧Aside0 (Below w.heap.size w w'))|(simp only [Act.put,zt,zv,zu];go_loopg [6] k (fun kq v6 w'=>∃ (x6_1:Int) (x41002000_1:ByteArray) (x41002001_1:ByteArray) (x41002002_1:ByteArray),v6 = .int .i64 x6_1∧Aside0 (impl_cleared.l0 kq a1 x6_1 x41002000_1 x41002001_1 x41002002_1=some (r1,r2,r3))∧Aside0 (kq≤k)∧Aside0 (w'.heap[gb41001]? = some (.cells #[.string x41002000_1,.string x41002001_1,.string x41002002_1] 32 (0,0)))∧Aside0 (w'.heap[gb41002]? = some (.cells #[.string (⟨#[]⟩:ByteArray),.string (⟨#[]⟩:ByteArray),.string (⟨#[]⟩:ByteArray)] 32 (0,0)))∧Aside0 (Below w.heap.size w w')))
 case atStart=>exact ⟨(0),(a0_0),(a0_1),(a0_2),za8,H',⟨Nat.le_refl _⟩,⟨za0 BK41001.out⟩,⟨za0 BK41002.out⟩,⟨za4⟩⟩
 case round =>
  clear H'
  obtain ⟨x6_1,x41002000_1,x41002001_1,x41002002_1,rfl,HA,HK1,BK41001,BK41002,HB⟩:=hrel
  cases gk with
  | zero=>exact absurd HA.out (by simp [impl_cleared.l0])
  | succ k1 =>
   have H:=HA.out
   clear HA
   simp only [impl_cleared.l0] at H
   by_cases c5:x6_1 < 3
   rw [if_pos c5] at H
   have c5b0:decide (x6_1 < 3)=true:=decide_eq_true c5
   clear c5
   by_cases c6:0≤x6_1
   rw [if_pos c6] at H
   have c6b0:decide (0≤x6_1)=true:=decide_eq_true c6
   clear c6
   replace H:=zo H
   obtain ⟨t41003,A80,H⟩:=H
   replace H:(if t41003 < 0 then ((impl_WithValue.f x41002000_1 x41002001_1 x41002002_1 (bt (⟨#[88,89,90]⟩:ByteArray) x6_1) (⟨#[]⟩:ByteArray)).bind fun bt41004=>(impl_cleared.l0 k1 a1 (wrap64 (x6_1+1)) bt41004.1 bt41004.2.1 bt41004.2.2)) else (impl_cleared.l0 k1 a1 (wrap64 (x6_1+1)) x41002000_1 x41002001_1 x41002002_1))=some (r1,r2,r3):=H
   have A8:=zk A80
   clear A80
   by_cases c9:t41003 < 0
   ·rw [if_pos c9] at H
    have c9b0:decide (t41003 < 0)=true:=decide_eq_true c9
    clear c9
    replace H:=zo H
    obtain ⟨⟨t41004,t41005,t41006⟩,A110,H⟩:=H
    replace H:(impl_cleared.l0 k1 a1 (wrap64 (x6_1+1)) t41004 t41005 t41006)=some (r1,r2,r3):=H
    have A11:=zk A110
    clear A110
    have H':=zk H
    clear H
    have p7:0≤(x6_1:Int):=of_decide_eq_true za9
    have q7:x6_1 < (3:Int):=of_decide_eq_true za9
    have hx7:=bt_at (⟨#[88,89,90]⟩:ByteArray) x6_1
    replace p7:=eq_true p7
    replace q7:=eq_true q7
    try go_wp2_with (first|((with_reducible refine gate_callee (f:=75) rfl ?_);refine goesL_ (some 12) rfl rfl Tryz.func75 (by kernel_rfl) rfl #[.string a1,.int .u8 (bt (⟨#[88,89,90]⟩:ByteArray) x6_1)] rfl za5 ?_;(with_reducible refine (strings_IndexByte.calls a1 (bt (⟨#[88,89,90]⟩:ByteArray) x6_1) t41003 _ A8.out).mono ?_);rintro e w' ⟨rfl,⟨nd,rfl⟩⟩;refine ⟨_,rfl,?_⟩;(try (rw [drewN_self wr];generalize hq_:World.drewN wr _=wr;have n0_:Aside0 (wr.heap[gb41001]? = some (.cells #[.string x41002000_1,.string x41002001_1,.string x41002002_1] 32 (0,0))):=⟨by rw [← hq_];exact (za0 BK41001.out)⟩;have n1_:Aside0 (wr.heap[gb41002]? = some (.cells #[.string (⟨#[]⟩:ByteArray),.string (⟨#[]⟩:ByteArray),.string (⟨#[]⟩:ByteArray)] 32 (0,0))):=⟨by rw [← hq_];exact (za0 BK41002.out)⟩;have n2_:Aside0 (Below w.heap.size w wr):=⟨by rw [← hq_];exact za4⟩;clear BK41001 BK41002 HB hq_;have BK41001:=n0_;have BK41002:=n1_;have HB:=n2_;clear n0_ n1_ n2_))))
    have n0_:=zk (blk_drew BK41001.out)
    have n1_:=zk (blk_drew BK41002.out)
    have n2_:=zk (below_drew1 HB.out)
    clear BK41001
    clear BK41002
    clear HB
    have BK41001:=n0_
    have BK41002:=n1_
    have HB:=n2_
    clear n0_ n1_ n2_
    have p10:0≤(x6_1:Int):=of_decide_eq_true za9
    have q10:x6_1 < (3:Int):=of_decide_eq_true za9
    have hx10:=bt_at (⟨#[88,89,90]⟩:ByteArray) x6_1
    replace p10:=eq_true p10
    replace q10:=eq_true q10
    refine start_ (n:=5) (S:=fun w'=>w'.cell? ⟨gb41001,0,none⟩=some (.string x41002000_1)∧w'.cell? ⟨gb41001,1,none⟩=some (.string x41002001_1)∧w'.cell? ⟨gb41001,2,none⟩=some (.string x41002002_1)) (ds:=[4]) #[false,false,false,false,false] (by kernel_rfl) rfl rfl ⟨(blk_cell BK41001.out 0).trans rfl,(blk_cell BK41001.out 1).trans rfl,(blk_cell BK41001.out 2).trans rfl⟩ (fun hHeld=>?_)
    generalize wr.drew=w12 at BK41001 BK41002 HB hHeld ⊢
    refine pure_ (i:=1) (N:=some 15) (v:=?_) (a':=?_) #[false,true,false,false,false] rfl rfl (by kernel_rfl) (fun _ _ _ h=>h) (Or.inl ⟨by rfl,?_⟩) ?_ ?_
    rotate_left
    ·intro w'
     go_simp
     first|with_reducible rfl|(rw [if_neg (by omega)];done)|(rw [if_neg za6];done)
    rotate_left
    ·simp only [Act.put,zt,zu,zv,i64_w,i32_w]
     rfl
    refine take_ (i:=0) (N:=some 14) (v:=?_) (a':=?_) #[true,true,false,false,false] rfl rfl (by kernel_rfl) (fun _ _ _ h=>h) (Or.inl ⟨by rfl,?_⟩) hHeld ?_ ?_
    rotate_left
    ·rintro w' ⟨s0,s1,s2⟩
     go_simp
     first|with_reducible rfl|(rw [if_neg (by omega)];done)|(rw [if_neg za6];done)
    rotate_left
    ·simp only [Act.put,zt,zu,zv,i64_w,i32_w]
     rfl
    refine take_ (i:=2) (N:=some 16) (v:=?_) (a':=?_) #[true,true,true,false,false] rfl rfl (by kernel_rfl) (fun _ _ _ h=>h) (Or.inl ⟨by rfl,?_⟩) hHeld ?_ ?_
    rotate_left
    ·rintro w' ⟨s0,s1,s2⟩
     go_simp
     first|with_reducible rfl|(rw [if_neg (by omega)];done)|(rw [if_neg za6];done)
    rotate_left
    ·simp only [Act.put,zt,zu,zv,i64_w,i32_w]
     rfl
    refine one_ (i:=3) (N:=some 17) #[true,true,true,true,false] rfl rfl (by kernel_rfl) (by decide) (fun K hK=>?_)
    refine goes_ Tryz.func34 (by kernel_rfl) rfl #[.agg #[.string x41002000_1,.string x41002001_1,.string x41002002_1],.int .u8 (bt (⟨#[88,89,90]⟩:ByteArray) x6_1),.string (⟨#[]⟩:ByteArray)] (by rfl) rfl rfl za5 ?_
    with_reducible refine (impl_WithValue.calls x41002000_1 x41002001_1 x41002002_1 (bt (⟨#[88,89,90]⟩:ByteArray) x6_1) (⟨#[]⟩:ByteArray) t41004 t41005 t41006 _ A11.out).mono ?_
    rintro e w13 ⟨rfl,hb⟩
    refine ⟨_,rfl,?_⟩
    have n0_:=zk (zb BK41001.out hb)
    have n1_:=zk (zb BK41002.out hb)
    have n2_:=zk (below_step za4 hb)
    clear BK41001
    clear BK41002
    clear HB
    have BK41001:=n0_
    have BK41002:=n1_
    have HB:=n2_
    clear n0_ n1_ n2_
    (try clear hb)
    (try clear hb2)
    (try clear hk)
    (try clear hi)
    refine hK.out _ _ ⟨(blk_cell BK41001.out 0).trans rfl,(blk_cell BK41001.out 1).trans rfl,(blk_cell BK41001.out 2).trans rfl⟩ (fun hHeld=>?_)
    clear hK K
    refine norm_ (a':=?_) ?_ ?_
    rotate_left
    ·show Act.put _ (some 17) _=_
     simp only [Act.put,zt,zu,zv,i64_w,i32_w]
     rfl
    refine last_ (i:=4) (N:=none) #[true,true,true,true,true] rfl rfl (by kernel_rfl) (by decide) (fun K hK=>?_)
    have hs14:w13.cell? ⟨gb41001,0,none⟩=some (.string x41002000_1):=(blk_cell BK41001.out 0).trans rfl
    have hfs14:=blk_frozen BK41001.out 0
    have hns14_1:=NB41002_41001.out
    have hms14_1:=NB41001_41002.out
    have hs15:w13.cell? ⟨gb41001,1,none⟩=some (.string x41002001_1):=(blk_cell BK41001.out 1).trans rfl
    have hfs15:=blk_frozen BK41001.out 1
    have hns15_1:=NB41002_41001.out
    have hms15_1:=NB41001_41002.out
    have hs16:w13.cell? ⟨gb41001,2,none⟩=some (.string x41002002_1):=(blk_cell BK41001.out 2).trans rfl
    have hfs16:=blk_frozen BK41001.out 2
    have hns16_1:=NB41002_41001.out
    have hms16_1:=NB41001_41002.out
    refine skip_ (w1:=?_) (by rfl) rfl ?_ ?_
    rotate_left
    ·go_simp
     rfl
    refine hK.out _ _ ?_
    clear hK K
    refine done_ (by kernel_rfl) ?_
    try go_wp2
    go_roundg k1
    case measure=>have:=HK1.out;omega
    case rel=>exact ⟨(wrap64 (x6_1+1)),(t41004),(t41005),(t41006),za8,H',⟨za17⟩,⟨by (with_reducible repeat (first|refine blk_drewN ?_ _|refine blk_drew ?_|refine blk_alloc ?_ _));refine blk_put (cs:=#[.string t41004,.string t41005,.string x41002002_1]) ?_ 2 _ rfl;(with_reducible repeat (first|refine blk_drewN ?_ _|refine blk_drew ?_|refine blk_alloc ?_ _));refine blk_put (cs:=#[.string t41004,.string x41002001_1,.string x41002002_1]) ?_ 1 _ rfl;(with_reducible repeat (first|refine blk_drewN ?_ _|refine blk_drew ?_|refine blk_alloc ?_ _));refine blk_put (cs:=#[.string x41002000_1,.string x41002001_1,.string x41002002_1]) ?_ 0 _ rfl;(with_reducible repeat (first|refine blk_drewN ?_ _|refine blk_drew ?_|refine blk_alloc ?_ _));exact BK41001.out⟩,⟨by (with_reducible repeat (first|refine blk_drewN ?_ _|refine blk_drew ?_|refine blk_alloc ?_ _));refine blk_far ?_ NB41002_41001.out _;(with_reducible repeat (first|refine blk_drewN ?_ _|refine blk_drew ?_|refine blk_alloc ?_ _));refine blk_far ?_ NB41002_41001.out _;(with_reducible repeat (first|refine blk_drewN ?_ _|refine blk_drew ?_|refine blk_alloc ?_ _));refine blk_far ?_ NB41002_41001.out _;(with_reducible repeat (first|refine blk_drewN ?_ _|refine blk_drew ?_|refine blk_alloc ?_ _));exact BK41002.out⟩,⟨za4⟩⟩
   ·rw [if_neg c9] at H
    have c9b0:decide (t41003 < 0)=false:=decide_eq_false c9
    clear c9
    have H':=zk H
    clear H
    have p7:0≤(x6_1:Int):=of_decide_eq_true za9
    have q7:x6_1 < (3:Int):=of_decide_eq_true za9
    have hx7:=bt_at (⟨#[88,89,90]⟩:ByteArray) x6_1
    replace p7:=eq_true p7
    replace q7:=eq_true q7
    go_wp2_with (first|((with_reducible refine gate_callee (f:=75) rfl ?_);refine goesL_ (some 12) rfl rfl Tryz.func75 (by kernel_rfl) rfl #[.string a1,.int .u8 (bt (⟨#[88,89,90]⟩:ByteArray) x6_1)] rfl za5 ?_;(with_reducible refine (strings_IndexByte.calls a1 (bt (⟨#[88,89,90]⟩:ByteArray) x6_1) t41003 _ A8.out).mono ?_);rintro e w' ⟨rfl,⟨nd,rfl⟩⟩;refine ⟨_,rfl,?_⟩))
    go_roundg k1
    case measure=>have:=HK1.out;omega
    case rel=>exact ⟨(wrap64 (x6_1+1)),(x41002000_1),(x41002001_1),(x41002002_1),za8,H',⟨za17⟩,⟨za0 BK41001.out⟩,⟨za0 BK41002.out⟩,⟨za4⟩⟩
   ·rw [if_neg c6] at H
    exact absurd H (by simp)
   ·rw [if_neg c5] at H
    have c5b0:decide (x6_1 < 3)=false:=decide_eq_false c5
    clear c5
    simp only [Option.some.injEq,Prod.mk.injEq] at H
    obtain ⟨rfl,rfl,rfl⟩:=H
    have hnb17:=NB41001_41002.out
    have hnc17:=NB41002_41001.out
    obtain ⟨hcz18_0,hcz18_1,hcz18_2,hfz18_0,hfz18_1,hfz18_2⟩:=blk3 BK41001.out
    obtain ⟨hcz19_0,hcz19_1,hcz19_2,hfz19_0,hfz19_1,hfz19_2⟩:=blk3 BK41002.out
    go_wp2
    refine bodyPost_ret (results_cell_row rfl _ _ gb41002 32 #[.string x41002000_1,.string x41002001_1,.string x41002002_1] (0,0) _ rfl (by (with_reducible repeat (first|refine blk_drewN ?_ _|refine blk_drew ?_|refine blk_alloc ?_ _));refine blk_put (cs:=#[.string x41002000_1,.string x41002001_1,.string (⟨#[]⟩:ByteArray)]) ?_ 2 _ rfl;(with_reducible repeat (first|refine blk_drewN ?_ _|refine blk_drew ?_|refine blk_alloc ?_ _));refine blk_put (cs:=#[.string x41002000_1,.string (⟨#[]⟩:ByteArray),.string (⟨#[]⟩:ByteArray)]) ?_ 1 _ rfl;(with_reducible repeat (first|refine blk_drewN ?_ _|refine blk_drew ?_|refine blk_alloc ?_ _));refine blk_put (cs:=#[.string (⟨#[]⟩:ByteArray),.string (⟨#[]⟩:ByteArray),.string (⟨#[]⟩:ByteArray)]) ?_ 0 _ rfl;(with_reducible repeat (first|refine blk_drewN ?_ _|refine blk_drew ?_|refine blk_alloc ?_ _));exact BK41002.out) Tryz.underlying32 rfl (by kernel_rfl)) rfl ?_
    exact ⟨za7,za4⟩
end Go.Proofs.YtffjfdoghofkdaaGreat.A
-- ALSO loop.example/g00582/impl.VarsOfProblem
-- ALSO loop.example/g00582/impl.cleared
-- ALSO loop.example/g00582/impl.IsValues
-- ALSO loop.example/g00582/impl.holds
namespace Go.Proofs.YtffjfdoghofkdaaGreat.Ext
open Go.RowKit YtffjfdoghofkdaaGreatW.PrintWords YtffjfdoghofkdaaGreatW.PrintLast YtffjfdoghofkdaaGreat.A
theorem toList_same {s t:ByteArray} (h:s.toList=t.toList):s=t:=by
 rw [Lib.toList_data,Lib.toList_data] at h
 cases s;cases t
 simp only [ByteArray.mk.injEq]
 exact Array.toList_inj.1 h
def notHolds (a b c:ByteArray) (x:S67):Option Bool:=(impl_holds.f x.f0 x.f1 x.f2 x.f3.f0 x.f3.f1 x.f3.f2 x.f4 x.f5 a b c).bind fun t=>some (!t)
set_option maxHeartbeats 1000000 in
theorem clo_model (a b c:ByteArray) (x:S67) (r:Bool) (h:notHolds a b c x=some r) (gv:Nat) (A5:Option Addr) (c5:Nat) (A6:Option Addr) (c6:Nat) (W:World) (hX:W.heap[gv]? = some (.cells #[.string a,.string b,.string c] 32 (0,0))) (g1:x.f3.f2.length≤c5) (g2:Kd.C k65 W A5 x.f3.f2.length x.f3.f2) (g3:x.f4.length≤c6) (g4:(Kd.int .i64).C W A6 x.f4.length x.f4) :
  Calls Tryz.prog 43 #[.agg #[.int .i64 x.f0,.string x.f1,.string x.f2,.int .i64 x.f3.f0,.string x.f3.f1,.slice A5 x.f3.f2.length c5,.slice A6 x.f4.length c6,.int .i64 x.f5],.pointer (some ⟨gv,0,none⟩)] W fun e W'=>e = .returned (.bool r)∧Below W.heap.size W W':=by
 obtain ⟨t,ht,hr⟩:=zo h
 obtain rfl:=zi hr
 have HV:=zk (fun (W':World) (hB:Below W.heap.size W W')=>impl_holds.calls x.f0 x.f1 x.f2 x.f3.f0 x.f3.f1 A5 c5 x.f3.f2 A6 c6 x.f4 x.f5 a b c t W' (Kd.C_below g2 hB) g1 (Kd.C_below g4 hB) g3 ht)
 have HB:=zk (Below.refl W.heap.size W)
 have HX:=zk hX
 obtain ⟨f0,f1,f2,⟨d,e,l⟩,f4,f5⟩:=x
 simp only at HV ⊢
 clear g1 g2 g3 g4 h ht hr hX
 go_enter Tryz.func43,Tryz.ntmps43
 go_wp2_with (first
  | ((with_reducible refine gate_dst (N:=2) rfl ?_);refine zE (N:=2) (cs:=#[.int .i64 f0,.string f1,.string f2,.int .i64 d,.string e,.slice A5 l.length c5,.slice A6 f4.length c6,.int .i64 f5]) (t:=67) ?_;intro gr hgr w3 hbox hb3;have X3:=zk hbox;have B3:=zk (below_step HB.out hb3);obtain ⟨z0,z1,z2,u0,u1,u2⟩:=blk3 (blk_below HX.out hb3);obtain ⟨y0,y1,y2,y3,y4,y5,y6,y7,q0,q1,q2,q3,q4,q5,q6,q7⟩:=blk8 hbox;clear hb3 hbox hgr)
  | (go_at_call 44;(with_reducible refine (HV.out _ (by first|exact B3.out|exact pw_below_drewN B3.out _|exact below_drew B3.out|exact HB.out)).mono ?_);rintro e w2 ⟨rfl,hb2⟩;have B2:=zk (show Below W.heap.size W w2 by first|exact below_step B3.out hb2|exact below_step HB.out hb2);clear hb2))
 go_ret
 exact ⟨za54,by first|exact B2.out|exact B3.out⟩
-- EXT loop.example/g00582/impl.IsModel rounds making
def impl_IsModel.f (k:Nat) (l0_0:List S67) (a1_0:ByteArray) (a1_1:ByteArray) (a1_2:ByteArray):Option Bool :=
 (impl_IsValidProblem.f k l0_0).bind fun t=>if t=true then ((impl_IsValues.f k a1_0 a1_1 a1_2).bind fun u=>if u=true then ((impl_VarsOfProblem.f k l0_0).bind fun vs=>(impl_cleared.f k a1_0 a1_1 a1_2 vs).bind fun q=>if q=(a1_0,a1_1,a1_2) then ((anyO (notHolds a1_0 a1_1 a1_2) l0_0).bind fun b=>some (!b)) else some false) else some false) else some false
theorem impl_IsModel.mono (a0:List S67) (a1 a2 a3:ByteArray) (k:Nat):LeO (impl_IsModel.f k a0 a1 a2 a3) (impl_IsModel.f (k+1) a0 a1 a2 a3):=by
 unfold impl_IsModel.f
 exact LeO.bind (impl_IsValidProblem.mono _ _) fun t=>LeO.ite (LeO.bind (impl_IsValues.mono _ _ _ _) fun u=>LeO.ite (LeO.bind (impl_VarsOfProblem.mono _ _) fun vs=>LeO.bind (impl_cleared.mono _ _ _ _ _) fun q=>LeO.refl _) (LeO.refl _)) (LeO.refl _)
set_option maxHeartbeats 20000000 in
theorem impl_IsModel.calls (k:Nat) (A0_0:Option Addr) (c0_0:Nat) (l0_0:List S67) (a1_0:ByteArray) (a1_1:ByteArray) (a1_2:ByteArray) (r:Bool) (w:World) (hr0_0:Kd.C k67 w A0_0 l0_0.length l0_0) (hc0_0:l0_0.length≤c0_0) (h:impl_IsModel.f k l0_0 a1_0 a1_1 a1_2=some r) :
  Calls Tryz.prog 15 #[.agg #[.slice A0_0 l0_0.length c0_0],.agg #[.string a1_0,.string a1_1,.string a1_2]] w fun e w'=>e = .returned (.bool r)∧Below w.heap.size w w':=by
 have HB:=zk (Below.refl w.heap.size w)
 have HR:=zk hr0_0
 have HC:=zk hc0_0
 unfold impl_IsModel.f at h
 replace h:=zo h
 obtain ⟨t,ht,h⟩:=h
 have HV:=zk (fun (W:World) (hB:Below w.heap.size w W)=>impl_IsValidProblem.calls k A0_0 c0_0 l0_0 t W (Kd.C_below hr0_0 hB) hc0_0 ht)
 have HL6:Aside0 (t=true→l0_0.length≤6):=⟨fun e=>by
  subst e
  unfold impl_IsValidProblem.f at ht
  split at ht
  ·assumption
  ·cases ht⟩
 clear ht
 go_enter Tryz.func15,Tryz.ntmps15
 go_upto_region 1 with (first
  | ((with_reducible refine gate_dst (N:=2) rfl ?_);refine zE (N:=2) (cs:=#[.slice A0_0 l0_0.length c0_0]) (t:=26) ?_;intro gp hgp w3 hbox hb3;have X3:=zk hbox;have B3:=zk (below_step HB.out hb3);clear hb3 hbox hgp)
  | ((with_reducible refine gate_dst (N:=3) rfl ?_);refine zE (N:=3) (cs:=#[.string a1_0,.string a1_1,.string a1_2]) (t:=32) ?_;intro gv hgv w4 hbox hb4;have X4:=zk hbox;have Y4:=zk (blk_below X3.out hb4);have B4:=zk (below_step B3.out hb4);clear hb4 hbox hgv))
 obtain ⟨y0,g0⟩:=blk1 Y4.out
 obtain ⟨z0,z1,z2,u0,u1,u2⟩:=blk3 X4.out
 cases t with
 | false =>
  obtain rfl:=zi (show some false=some r from h)
  clear h hr0_0 hc0_0
  go_region_with (first|(go_at_call 30;(with_reducible refine (HV.out _ (by first|exact B4.out|exact below_drew B4.out|exact pw_below_drewN B4.out _)).mono ?_);rintro e w5 ⟨rfl,hb5⟩;have B5:=zk (show Below w.heap.size w w5 by first|exact below_step B4.out hb5|exact below_step (below_drew B4.out) hb5|exact below_step (pw_below_drewN B4.out _) hb5);clear hb5))
  all_goals
   go_wp2
   go_ret
   exact ⟨za54,by first|exact B5.out|exact below_drew B5.out|exact pw_below_drewN B5.out _⟩
 | true =>
  rw [if_pos rfl] at h
  replace h:=zo h
  obtain ⟨u,hu,h⟩:=h
  have HI:=zk (fun (W:World) (_:Below w.heap.size w W)=>impl_IsValues.calls k a1_0 a1_1 a1_2 u W hu)
  have h6:=HL6.out rfl
  have HBc:=B4
  have Yc:=Y4
  have Xc:=X4
  clear hu B4 Y4 X4 X3 B3 HL6
  cases u with
  | false =>
   obtain rfl:=zi (show some false=some r from h)
   clear h hr0_0 hc0_0
   go_region_with (first|(go_at_call 30;(with_reducible refine (HV.out _ za14).mono ?_);rintro e w5 ⟨rfl,hb5⟩;have n1:=zk (show Below w.heap.size w w5 by first|exact below_step HBc.out hb5|exact below_step (below_drew HBc.out) hb5|exact below_step (pw_below_drewN HBc.out _) hb5);have n2:=zk (show w5.heap[gp]? = _ by first|exact blk_below Yc.out hb5|exact blk_below (blk_drew Yc.out) hb5|exact blk_below (blk_drewN Yc.out _) hb5);have n3:=zk (show w5.heap[gv]? = _ by first|exact blk_below Xc.out hb5|exact blk_below (blk_drew Xc.out) hb5|exact blk_below (blk_drewN Xc.out _) hb5);clear HBc Yc Xc y0 g0 z0 z1 z2 u0 u1 u2 hb5;have HBc:=n1;have Yc:=n2;have Xc:=n3;clear n1 n2 n3;obtain ⟨y0,g0⟩:=blk1 Yc.out;obtain ⟨z0,z1,z2,u0,u1,u2⟩:=blk3 Xc.out)|(go_at_call 40;(with_reducible refine (HI.out _ za14).mono ?_);rintro e w5 ⟨rfl,hb5⟩;have n1:=zk (show Below w.heap.size w w5 by first|exact below_step HBc.out hb5|exact below_step (below_drew HBc.out) hb5|exact below_step (pw_below_drewN HBc.out _) hb5);have n2:=zk (show w5.heap[gp]? = _ by first|exact blk_below Yc.out hb5|exact blk_below (blk_drew Yc.out) hb5|exact blk_below (blk_drewN Yc.out _) hb5);have n3:=zk (show w5.heap[gv]? = _ by first|exact blk_below Xc.out hb5|exact blk_below (blk_drew Xc.out) hb5|exact blk_below (blk_drewN Xc.out _) hb5);clear HBc Yc Xc y0 g0 z0 z1 z2 u0 u1 u2 hb5;have HBc:=n1;have Yc:=n2;have Xc:=n3;clear n1 n2 n3;obtain ⟨y0,g0⟩:=blk1 Yc.out;obtain ⟨z0,z1,z2,u0,u1,u2⟩:=blk3 Xc.out))
   all_goals
    go_wp2
    go_ret
    exact ⟨za54,za14⟩
  | true =>
   rw [if_pos rfl] at h
   replace h:=zo h
   obtain ⟨vs,hvs,h⟩:=h
   replace h:=zo h
   obtain ⟨⟨q1,q2,q3⟩,hq,h⟩:=h
   have HP:=zk (fun (W:World) (hB:Below w.heap.size w W)=>impl_VarsOfProblem.calls k A0_0 c0_0 l0_0 vs W (Kd.C_below hr0_0 hB) hc0_0 hvs)
   have HQ:=zk (fun (W:World) (_:Below w.heap.size w W)=>impl_cleared.calls k a1_0 a1_1 a1_2 vs q1 q2 q3 W hq)
   clear hvs hq hr0_0 hc0_0
   by_cases he:(q1,q2,q3)=(a1_0,a1_1,a1_2)
   ·rw [if_pos he] at h
    obtain ⟨rfl,rfl,rfl⟩:q1=a1_0∧q2=a1_1∧q3=a1_2:=by simpa using he
    have HH:=zk h
    clear he h
    go_region_held3 (fun w'=>w'.cell? ⟨gp,0,none⟩=some (.slice A0_0 l0_0.length c0_0)∧w'.cell? ⟨gv,0,none⟩=some (.string q1)∧w'.cell? ⟨gv,1,none⟩=some (.string q2)∧w'.cell? ⟨gv,2,none⟩=some (.string q3)) (go_keep) (first|(go_at_call 30;(with_reducible refine (HV.out _ za14).mono ?_);rintro e w5 ⟨rfl,hb5⟩;have n1:=zk (show Below w.heap.size w w5 by first|exact below_step HBc.out hb5|exact below_step (below_drew HBc.out) hb5|exact below_step (pw_below_drewN HBc.out _) hb5);have n2:=zk (show w5.heap[gp]? = _ by first|exact blk_below Yc.out hb5|exact blk_below (blk_drew Yc.out) hb5|exact blk_below (blk_drewN Yc.out _) hb5);have n3:=zk (show w5.heap[gv]? = _ by first|exact blk_below Xc.out hb5|exact blk_below (blk_drew Xc.out) hb5|exact blk_below (blk_drewN Xc.out _) hb5);clear HBc Yc Xc y0 g0 z0 z1 z2 u0 u1 u2 hb5;have HBc:=n1;have Yc:=n2;have Xc:=n3;clear n1 n2 n3;obtain ⟨y0,g0⟩:=blk1 Yc.out;obtain ⟨z0,z1,z2,u0,u1,u2⟩:=blk3 Xc.out)|(go_at_call 40;(with_reducible refine (HI.out _ za14).mono ?_);rintro e w5 ⟨rfl,hb5⟩;have n1:=zk (show Below w.heap.size w w5 by first|exact below_step HBc.out hb5|exact below_step (below_drew HBc.out) hb5|exact below_step (pw_below_drewN HBc.out _) hb5);have n2:=zk (show w5.heap[gp]? = _ by first|exact blk_below Yc.out hb5|exact blk_below (blk_drew Yc.out) hb5|exact blk_below (blk_drewN Yc.out _) hb5);have n3:=zk (show w5.heap[gv]? = _ by first|exact blk_below Xc.out hb5|exact blk_below (blk_drew Xc.out) hb5|exact blk_below (blk_drewN Xc.out _) hb5);clear HBc Yc Xc y0 g0 z0 z1 z2 u0 u1 u2 hb5;have HBc:=n1;have Yc:=n2;have Xc:=n3;clear n1 n2 n3;obtain ⟨y0,g0⟩:=blk1 Yc.out;obtain ⟨z0,z1,z2,u0,u1,u2⟩:=blk3 Xc.out)|(go_at_call 31;(with_reducible refine (HP.out _ za14).mono ?_);rintro e w5 ⟨rfl,hb5⟩;have n1:=zk (show Below w.heap.size w w5 by first|exact below_step HBc.out hb5|exact below_step (below_drew HBc.out) hb5|exact below_step (pw_below_drewN HBc.out _) hb5);have n2:=zk (show w5.heap[gp]? = _ by first|exact blk_below Yc.out hb5|exact blk_below (blk_drew Yc.out) hb5|exact blk_below (blk_drewN Yc.out _) hb5);have n3:=zk (show w5.heap[gv]? = _ by first|exact blk_below Xc.out hb5|exact blk_below (blk_drew Xc.out) hb5|exact blk_below (blk_drewN Xc.out _) hb5);clear HBc Yc Xc y0 g0 z0 z1 z2 u0 u1 u2 hb5;have HBc:=n1;have Yc:=n2;have Xc:=n3;clear n1 n2 n3;obtain ⟨y0,g0⟩:=blk1 Yc.out;obtain ⟨z0,z1,z2,u0,u1,u2⟩:=blk3 Xc.out)|(go_at_call 41;(with_reducible refine (HQ.out _ za14).mono ?_);rintro e w5 ⟨rfl,hb5⟩;have n1:=zk (show Below w.heap.size w w5 by first|exact below_step HBc.out hb5|exact below_step (below_drew HBc.out) hb5|exact below_step (pw_below_drewN HBc.out _) hb5);have n2:=zk (show w5.heap[gp]? = _ by first|exact blk_below Yc.out hb5|exact blk_below (blk_drew Yc.out) hb5|exact blk_below (blk_drewN Yc.out _) hb5);have n3:=zk (show w5.heap[gv]? = _ by first|exact blk_below Xc.out hb5|exact blk_below (blk_drew Xc.out) hb5|exact blk_below (blk_drewN Xc.out _) hb5);clear HBc Yc Xc y0 g0 z0 z1 z2 u0 u1 u2 hb5;have HBc:=n1;have Yc:=n2;have Xc:=n3;clear n1 n2 n3;obtain ⟨y0,g0⟩:=blk1 Yc.out;obtain ⟨z0,z1,z2,u0,u1,u2⟩:=blk3 Xc.out))
    obtain ⟨b,hb,hr⟩:=zo HH.out
    obtain rfl:=zi hr
    obtain ⟨a1,a2⟩:=anyO_at hb
    have CC:=any_cs _ 43 #[.pointer (some ⟨gv,0,none⟩)] (enters_of Tryz.func43 (by kernel_rfl) rfl) A0_0 l0_0 c0_0 w5 (by omega) (Kd.C_below HR.out HBc.out) (fun i hi A5 c5 A6 c6 W hB g1 g2 g3 g4=>clo_model q1 q2 q3 l0_0[i] _ (a2 i hi) gv A5 c5 A6 c6 W (blk_below Xc.out hB) g1 (Kd.C_below g2 hB) g3 (Kd.C_below g4 hB))
    rw [a1] at CC
    have HCC:=zk CC
    clear CC a1 a2 hb hr HH HV HI HP HQ
    go_wp2_with (go_at_call 42;(with_reducible refine HCC.out.mono ?_);rintro e w9 ⟨rfl,hb9⟩;have B9:=zk (below_step HBc.out hb9);clear hb9)
    go_ret
    exact ⟨za54,B9.out⟩
   ·rw [if_neg he] at h
    obtain rfl:=zi (show some false=some r from h)
    have HE:=zk he
    clear he h
    by_cases e1:q1.toList=a1_0.toList
    ·have e1':=eq_true e1
     by_cases e2:q2.toList=a1_1.toList
     ·have e2':=eq_true e2
      have e3:¬ q3.toList=a1_2.toList:=fun e3=>HE.out (by rw [toList_same e1,toList_same e2,toList_same e3])
      have e3':=eq_false e3
      clear e1 e2 e3
      go_region_held3 (fun w'=>w'.cell? ⟨gp,0,none⟩=some (.slice A0_0 l0_0.length c0_0)∧w'.cell? ⟨gv,0,none⟩=some (.string a1_0)∧w'.cell? ⟨gv,1,none⟩=some (.string a1_1)∧w'.cell? ⟨gv,2,none⟩=some (.string a1_2)) (go_keep) (first|(go_at_call 30;(with_reducible refine (HV.out _ za14).mono ?_);rintro e w5 ⟨rfl,hb5⟩;have n1:=zk (show Below w.heap.size w w5 by first|exact below_step HBc.out hb5|exact below_step (below_drew HBc.out) hb5|exact below_step (pw_below_drewN HBc.out _) hb5);have n2:=zk (show w5.heap[gp]? = _ by first|exact blk_below Yc.out hb5|exact blk_below (blk_drew Yc.out) hb5|exact blk_below (blk_drewN Yc.out _) hb5);have n3:=zk (show w5.heap[gv]? = _ by first|exact blk_below Xc.out hb5|exact blk_below (blk_drew Xc.out) hb5|exact blk_below (blk_drewN Xc.out _) hb5);clear HBc Yc Xc y0 g0 z0 z1 z2 u0 u1 u2 hb5;have HBc:=n1;have Yc:=n2;have Xc:=n3;clear n1 n2 n3;obtain ⟨y0,g0⟩:=blk1 Yc.out;obtain ⟨z0,z1,z2,u0,u1,u2⟩:=blk3 Xc.out)|(go_at_call 40;(with_reducible refine (HI.out _ za14).mono ?_);rintro e w5 ⟨rfl,hb5⟩;have n1:=zk (show Below w.heap.size w w5 by first|exact below_step HBc.out hb5|exact below_step (below_drew HBc.out) hb5|exact below_step (pw_below_drewN HBc.out _) hb5);have n2:=zk (show w5.heap[gp]? = _ by first|exact blk_below Yc.out hb5|exact blk_below (blk_drew Yc.out) hb5|exact blk_below (blk_drewN Yc.out _) hb5);have n3:=zk (show w5.heap[gv]? = _ by first|exact blk_below Xc.out hb5|exact blk_below (blk_drew Xc.out) hb5|exact blk_below (blk_drewN Xc.out _) hb5);clear HBc Yc Xc y0 g0 z0 z1 z2 u0 u1 u2 hb5;have HBc:=n1;have Yc:=n2;have Xc:=n3;clear n1 n2 n3;obtain ⟨y0,g0⟩:=blk1 Yc.out;obtain ⟨z0,z1,z2,u0,u1,u2⟩:=blk3 Xc.out)|(go_at_call 31;(with_reducible refine (HP.out _ za14).mono ?_);rintro e w5 ⟨rfl,hb5⟩;have n1:=zk (show Below w.heap.size w w5 by first|exact below_step HBc.out hb5|exact below_step (below_drew HBc.out) hb5|exact below_step (pw_below_drewN HBc.out _) hb5);have n2:=zk (show w5.heap[gp]? = _ by first|exact blk_below Yc.out hb5|exact blk_below (blk_drew Yc.out) hb5|exact blk_below (blk_drewN Yc.out _) hb5);have n3:=zk (show w5.heap[gv]? = _ by first|exact blk_below Xc.out hb5|exact blk_below (blk_drew Xc.out) hb5|exact blk_below (blk_drewN Xc.out _) hb5);clear HBc Yc Xc y0 g0 z0 z1 z2 u0 u1 u2 hb5;have HBc:=n1;have Yc:=n2;have Xc:=n3;clear n1 n2 n3;obtain ⟨y0,g0⟩:=blk1 Yc.out;obtain ⟨z0,z1,z2,u0,u1,u2⟩:=blk3 Xc.out)|(go_at_call 41;(with_reducible refine (HQ.out _ za14).mono ?_);rintro e w5 ⟨rfl,hb5⟩;have n1:=zk (show Below w.heap.size w w5 by first|exact below_step HBc.out hb5|exact below_step (below_drew HBc.out) hb5|exact below_step (pw_below_drewN HBc.out _) hb5);have n2:=zk (show w5.heap[gp]? = _ by first|exact blk_below Yc.out hb5|exact blk_below (blk_drew Yc.out) hb5|exact blk_below (blk_drewN Yc.out _) hb5);have n3:=zk (show w5.heap[gv]? = _ by first|exact blk_below Xc.out hb5|exact blk_below (blk_drew Xc.out) hb5|exact blk_below (blk_drewN Xc.out _) hb5);clear HBc Yc Xc y0 g0 z0 z1 z2 u0 u1 u2 hb5;have HBc:=n1;have Yc:=n2;have Xc:=n3;clear n1 n2 n3;obtain ⟨y0,g0⟩:=blk1 Yc.out;obtain ⟨z0,z1,z2,u0,u1,u2⟩:=blk3 Xc.out))
      all_goals
       go_wp2
       go_ret
       exact ⟨za54,za14⟩
     ·have e2':=eq_false e2
      clear e1 e2
      go_region_held3 (fun w'=>w'.cell? ⟨gp,0,none⟩=some (.slice A0_0 l0_0.length c0_0)∧w'.cell? ⟨gv,0,none⟩=some (.string a1_0)∧w'.cell? ⟨gv,1,none⟩=some (.string a1_1)∧w'.cell? ⟨gv,2,none⟩=some (.string a1_2)) (go_keep) (first|(go_at_call 30;(with_reducible refine (HV.out _ za14).mono ?_);rintro e w5 ⟨rfl,hb5⟩;have n1:=zk (show Below w.heap.size w w5 by first|exact below_step HBc.out hb5|exact below_step (below_drew HBc.out) hb5|exact below_step (pw_below_drewN HBc.out _) hb5);have n2:=zk (show w5.heap[gp]? = _ by first|exact blk_below Yc.out hb5|exact blk_below (blk_drew Yc.out) hb5|exact blk_below (blk_drewN Yc.out _) hb5);have n3:=zk (show w5.heap[gv]? = _ by first|exact blk_below Xc.out hb5|exact blk_below (blk_drew Xc.out) hb5|exact blk_below (blk_drewN Xc.out _) hb5);clear HBc Yc Xc y0 g0 z0 z1 z2 u0 u1 u2 hb5;have HBc:=n1;have Yc:=n2;have Xc:=n3;clear n1 n2 n3;obtain ⟨y0,g0⟩:=blk1 Yc.out;obtain ⟨z0,z1,z2,u0,u1,u2⟩:=blk3 Xc.out)|(go_at_call 40;(with_reducible refine (HI.out _ za14).mono ?_);rintro e w5 ⟨rfl,hb5⟩;have n1:=zk (show Below w.heap.size w w5 by first|exact below_step HBc.out hb5|exact below_step (below_drew HBc.out) hb5|exact below_step (pw_below_drewN HBc.out _) hb5);have n2:=zk (show w5.heap[gp]? = _ by first|exact blk_below Yc.out hb5|exact blk_below (blk_drew Yc.out) hb5|exact blk_below (blk_drewN Yc.out _) hb5);have n3:=zk (show w5.heap[gv]? = _ by first|exact blk_below Xc.out hb5|exact blk_below (blk_drew Xc.out) hb5|exact blk_below (blk_drewN Xc.out _) hb5);clear HBc Yc Xc y0 g0 z0 z1 z2 u0 u1 u2 hb5;have HBc:=n1;have Yc:=n2;have Xc:=n3;clear n1 n2 n3;obtain ⟨y0,g0⟩:=blk1 Yc.out;obtain ⟨z0,z1,z2,u0,u1,u2⟩:=blk3 Xc.out)|(go_at_call 31;(with_reducible refine (HP.out _ za14).mono ?_);rintro e w5 ⟨rfl,hb5⟩;have n1:=zk (show Below w.heap.size w w5 by first|exact below_step HBc.out hb5|exact below_step (below_drew HBc.out) hb5|exact below_step (pw_below_drewN HBc.out _) hb5);have n2:=zk (show w5.heap[gp]? = _ by first|exact blk_below Yc.out hb5|exact blk_below (blk_drew Yc.out) hb5|exact blk_below (blk_drewN Yc.out _) hb5);have n3:=zk (show w5.heap[gv]? = _ by first|exact blk_below Xc.out hb5|exact blk_below (blk_drew Xc.out) hb5|exact blk_below (blk_drewN Xc.out _) hb5);clear HBc Yc Xc y0 g0 z0 z1 z2 u0 u1 u2 hb5;have HBc:=n1;have Yc:=n2;have Xc:=n3;clear n1 n2 n3;obtain ⟨y0,g0⟩:=blk1 Yc.out;obtain ⟨z0,z1,z2,u0,u1,u2⟩:=blk3 Xc.out)|(go_at_call 41;(with_reducible refine (HQ.out _ za14).mono ?_);rintro e w5 ⟨rfl,hb5⟩;have n1:=zk (show Below w.heap.size w w5 by first|exact below_step HBc.out hb5|exact below_step (below_drew HBc.out) hb5|exact below_step (pw_below_drewN HBc.out _) hb5);have n2:=zk (show w5.heap[gp]? = _ by first|exact blk_below Yc.out hb5|exact blk_below (blk_drew Yc.out) hb5|exact blk_below (blk_drewN Yc.out _) hb5);have n3:=zk (show w5.heap[gv]? = _ by first|exact blk_below Xc.out hb5|exact blk_below (blk_drew Xc.out) hb5|exact blk_below (blk_drewN Xc.out _) hb5);clear HBc Yc Xc y0 g0 z0 z1 z2 u0 u1 u2 hb5;have HBc:=n1;have Yc:=n2;have Xc:=n3;clear n1 n2 n3;obtain ⟨y0,g0⟩:=blk1 Yc.out;obtain ⟨z0,z1,z2,u0,u1,u2⟩:=blk3 Xc.out))
      all_goals
       go_wp2
       go_ret
       exact ⟨za54,za14⟩
    ·have e1':=eq_false e1
     clear e1
     go_region_held3 (fun w'=>w'.cell? ⟨gp,0,none⟩=some (.slice A0_0 l0_0.length c0_0)∧w'.cell? ⟨gv,0,none⟩=some (.string a1_0)∧w'.cell? ⟨gv,1,none⟩=some (.string a1_1)∧w'.cell? ⟨gv,2,none⟩=some (.string a1_2)) (go_keep) (first|(go_at_call 30;(with_reducible refine (HV.out _ za14).mono ?_);rintro e w5 ⟨rfl,hb5⟩;have n1:=zk (show Below w.heap.size w w5 by first|exact below_step HBc.out hb5|exact below_step (below_drew HBc.out) hb5|exact below_step (pw_below_drewN HBc.out _) hb5);have n2:=zk (show w5.heap[gp]? = _ by first|exact blk_below Yc.out hb5|exact blk_below (blk_drew Yc.out) hb5|exact blk_below (blk_drewN Yc.out _) hb5);have n3:=zk (show w5.heap[gv]? = _ by first|exact blk_below Xc.out hb5|exact blk_below (blk_drew Xc.out) hb5|exact blk_below (blk_drewN Xc.out _) hb5);clear HBc Yc Xc y0 g0 z0 z1 z2 u0 u1 u2 hb5;have HBc:=n1;have Yc:=n2;have Xc:=n3;clear n1 n2 n3;obtain ⟨y0,g0⟩:=blk1 Yc.out;obtain ⟨z0,z1,z2,u0,u1,u2⟩:=blk3 Xc.out)|(go_at_call 40;(with_reducible refine (HI.out _ za14).mono ?_);rintro e w5 ⟨rfl,hb5⟩;have n1:=zk (show Below w.heap.size w w5 by first|exact below_step HBc.out hb5|exact below_step (below_drew HBc.out) hb5|exact below_step (pw_below_drewN HBc.out _) hb5);have n2:=zk (show w5.heap[gp]? = _ by first|exact blk_below Yc.out hb5|exact blk_below (blk_drew Yc.out) hb5|exact blk_below (blk_drewN Yc.out _) hb5);have n3:=zk (show w5.heap[gv]? = _ by first|exact blk_below Xc.out hb5|exact blk_below (blk_drew Xc.out) hb5|exact blk_below (blk_drewN Xc.out _) hb5);clear HBc Yc Xc y0 g0 z0 z1 z2 u0 u1 u2 hb5;have HBc:=n1;have Yc:=n2;have Xc:=n3;clear n1 n2 n3;obtain ⟨y0,g0⟩:=blk1 Yc.out;obtain ⟨z0,z1,z2,u0,u1,u2⟩:=blk3 Xc.out)|(go_at_call 31;(with_reducible refine (HP.out _ za14).mono ?_);rintro e w5 ⟨rfl,hb5⟩;have n1:=zk (show Below w.heap.size w w5 by first|exact below_step HBc.out hb5|exact below_step (below_drew HBc.out) hb5|exact below_step (pw_below_drewN HBc.out _) hb5);have n2:=zk (show w5.heap[gp]? = _ by first|exact blk_below Yc.out hb5|exact blk_below (blk_drew Yc.out) hb5|exact blk_below (blk_drewN Yc.out _) hb5);have n3:=zk (show w5.heap[gv]? = _ by first|exact blk_below Xc.out hb5|exact blk_below (blk_drew Xc.out) hb5|exact blk_below (blk_drewN Xc.out _) hb5);clear HBc Yc Xc y0 g0 z0 z1 z2 u0 u1 u2 hb5;have HBc:=n1;have Yc:=n2;have Xc:=n3;clear n1 n2 n3;obtain ⟨y0,g0⟩:=blk1 Yc.out;obtain ⟨z0,z1,z2,u0,u1,u2⟩:=blk3 Xc.out)|(go_at_call 41;(with_reducible refine (HQ.out _ za14).mono ?_);rintro e w5 ⟨rfl,hb5⟩;have n1:=zk (show Below w.heap.size w w5 by first|exact below_step HBc.out hb5|exact below_step (below_drew HBc.out) hb5|exact below_step (pw_below_drewN HBc.out _) hb5);have n2:=zk (show w5.heap[gp]? = _ by first|exact blk_below Yc.out hb5|exact blk_below (blk_drew Yc.out) hb5|exact blk_below (blk_drewN Yc.out _) hb5);have n3:=zk (show w5.heap[gv]? = _ by first|exact blk_below Xc.out hb5|exact blk_below (blk_drew Xc.out) hb5|exact blk_below (blk_drewN Xc.out _) hb5);clear HBc Yc Xc y0 g0 z0 z1 z2 u0 u1 u2 hb5;have HBc:=n1;have Yc:=n2;have Xc:=n3;clear n1 n2 n3;obtain ⟨y0,g0⟩:=blk1 Yc.out;obtain ⟨z0,z1,z2,u0,u1,u2⟩:=blk3 Xc.out))
     all_goals
      go_wp2
      go_ret
      exact ⟨za54,za14⟩
end Go.Proofs.YtffjfdoghofkdaaGreat.Ext
namespace Go.Proofs.YtffjfdoghofkdaaGreat.A
open Go.RowKit YtffjfdoghofkdaaGreat.Ext YtffjfdoghofkdaaGreatW.PrintWords YtffjfdoghofkdaaGreatW.PrintLast YtffjfdoghofkdaaGreatW.PrintMore
attribute [local go_sem] max2_int min2_int max_two min_two max_three min_three max_four min_four
def impl_BoundOf.f (k:Nat) (l0_0:List (S67)):Option (Int):=(impl_IsValidProblem.f k l0_0).bind fun t13002=>(if t13002=true then ((some (([5,5,3,2]:List Int):List Int)).bind fun y13003=>((impl_VarsOfProblem.f k l0_0).bind fun t13006=>(if 0≤(t13006.size:Int) then (if (t13006.size:Int) < (y13003.length:Int) then (some (rd y13003 (t13006.size:Int))) else (none)) else (none)))) else (some (-1)))
theorem impl_BoundOf.mono:∀ a0 k,LeO (impl_BoundOf.f k a0) (impl_BoundOf.f (k+1) a0):=by
 intro a0 k
 unfold impl_BoundOf.f
 repeat' first
  | with_reducible first|exact impl_IsValidProblem.mono _ _|exact impl_VarsOfProblem.mono _ _|exact LeO.refl _|exact LeO.none _|refine LeO.ite ?_ ?_|refine LeO.bind ?_ (fun _=>?_)
theorem impl_BoundOf.calls (k:Nat) (A0_0:Option Addr) (c0_0:Nat) (l0_0:List (S67)) (r:Int) (w:World) (hr0_0:Kd.C k67 w A0_0 l0_0.length l0_0) (hc0_0:l0_0.length≤c0_0) (h:impl_BoundOf.f k l0_0=some r) :
   Calls Tryz.prog 13 #[.agg #[.slice A0_0 l0_0.length c0_0]] w fun e w'=>e = .returned (.int .i64 r)∧Below w.heap.size w w':=by
 have hu26:=Tryz.underlying26
 have HR0_0:=zk hr0_0
 have HC0_0:=zk hc0_0
 clear hr0_0 hc0_0
 have HB:=zk (Below.refl w.heap.size w)
 have H:((impl_IsValidProblem.f k l0_0).bind fun t13002=>(if t13002=true then ((some (([5,5,3,2]:List Int):List Int)).bind fun y13003=>((impl_VarsOfProblem.f k l0_0).bind fun t13006=>(if 0≤(t13006.size:Int) then (if (t13006.size:Int) < (y13003.length:Int) then (some (rd y13003 (t13006.size:Int))) else (none)) else (none)))) else (some (-1))))=some r:=h
 clear h
 replace H:=zo H
 obtain ⟨t13002,A20,H⟩:=H
 replace H:(if t13002=true then ((some (([5,5,3,2]:List Int):List Int)).bind fun y13003=>((impl_VarsOfProblem.f k l0_0).bind fun t13006=>(if 0≤(t13006.size:Int) then (if (t13006.size:Int) < (y13003.length:Int) then (some (rd y13003 (t13006.size:Int))) else (none)) else (none)))) else (some (-1)))=some r:=H
 have A2:=zk A20
 clear A20
 by_cases c3:t13002=true
 subst c3
 have H1:((some (([5,5,3,2]:List Int):List Int)).bind fun y13003=>((impl_VarsOfProblem.f k l0_0).bind fun t13006=>(if 0≤(t13006.size:Int) then (if (t13006.size:Int) < (y13003.length:Int) then (some (rd y13003 (t13006.size:Int))) else (none)) else (none))))=some r:=by rw [if_pos rfl] at H;exact H
 clear H
 have H:=H1
 clear H1
 obtain ⟨y13003,hy13003⟩:∃ y_:List Int,y_=(([5,5,3,2]:List Int)):=⟨_,rfl⟩
 replace H:((impl_VarsOfProblem.f k l0_0).bind fun t13006=>(if 0≤(t13006.size:Int) then (if (t13006.size:Int) < (y13003.length:Int) then (some (rd y13003 (t13006.size:Int))) else (none)) else (none)))=some r:=by first|(rw [hy13003];with_reducible exact H)|(have H2_:=(Option.bind_some _ _).symm.trans H;rw [hy13003];with_reducible exact H2_)|(have H2_:=(Option.bind_some _ _).symm.trans H;with_reducible exact H2_)|with_reducible exact H|(rw [hy13003];exact H)|exact H
 have Ny13003:=zk hy13003
 clear hy13003
 replace H:=zo H
 obtain ⟨t13006,A40,H⟩:=H
 replace H:(if 0≤(t13006.size:Int) then (if (t13006.size:Int) < (y13003.length:Int) then (some (rd y13003 (t13006.size:Int))) else (none)) else (none))=some r:=H
 have A4:=zk A40
 clear A40
 by_cases c5:0≤(t13006.size:Int)
 rw [if_pos c5] at H
 have c5b0:decide (0≤(t13006.size:Int))=true:=decide_eq_true c5
 have c5b1:decide (0≤t13006.size)=true:=decide_eq_true (by omega)
 clear c5
 by_cases c6:(t13006.size:Int) < (y13003.length:Int)
 rw [if_pos c6] at H
 have c6b0:decide ((t13006.size:Int) < (y13003.length:Int))=true:=decide_eq_true c6
 have c6b1:decide (t13006.size < y13003.length)=true:=decide_eq_true (Int.ofNat_lt.mp c6)
 clear c6
 rotate_left
 · rw [if_neg c6] at H
   exact absurd H (by simp)
 · rw [if_neg c5] at H
   exact absurd H (by simp)
 replace c3:=Bool.eq_false_iff.mpr c3
 subst c3
 have H1:(some (-1))=some r:=by rw [if_neg (show ¬ (false=true) by decide)] at H;exact H
 clear H
 have H:=H1
 clear H1
 rotate_left
 all_goals
  obtain rfl:=zi H
  go_enter Tryz.func13,Tryz.ntmps13
  go_wp2_with (first|((with_reducible refine gate_dst (N:=1) rfl ?_);refine zE (N:=1) (cs:=#[.slice A0_0 l0_0.length c0_0]) (t:=26) ?_;intro gb13001 hg w15 hbox hb;have n0_:=zk (below_step za4 hb);have n1_:=zk (hbox);have n2_:=zk (zs (w:=w) hg za4);have n3_:=zk (zs (w:=w) hg za4);clear HB;have HB:=n0_;have BK13001:=n1_;have GW13001:=n2_;have GE13001:=n3_;clear n0_ n1_ n2_ n3_;clear hb hbox hg;obtain ⟨hcz16_0,hfz16_0⟩:=blk1 BK13001.out)|((with_reducible refine gate_callee (f:=30) rfl ?_);refine goesL_ (some 4) rfl rfl Tryz.func30 (by kernel_rfl) rfl #[.agg #[.slice A0_0 l0_0.length c0_0]] rfl za5 ?_;(with_reducible refine (impl_IsValidProblem.calls k _ _ l0_0 _ _ ?side1 ?side2 A2.out).mono ?_);(case side1=>repeat (first|exact (Kd.C_below HR0_0.out HB.out)|(with_reducible refine Kd.C_alloc ?_ _)|(with_reducible refine Kd.C_drewN ?_ _)|(with_reducible refine Kd.C_drew ?_)));(case side2=>exact HC0_0.out);rintro e w17 ⟨rfl,hb⟩;refine ⟨_,rfl,?_⟩;have n0_:=zk (zb BK13001.out hb);have n1_:=zk (below_step za4 hb);clear BK13001;clear HB;have BK13001:=n0_;have HB:=n1_;clear n0_ n1_;(try clear hb);(try clear hb2);(try clear hk);(try clear hi))|((with_reducible refine gate_dst (N:=6) rfl ?_);refine Kd.R_lit (Kd.int .i64) _ 3 ?hg (N:=6) ?hd (xs:=([5,5,3,2]:List Int)) (inner:=[.int .i64 5,.int .i64 5,.int .i64 3,.int .i64 2]) (ok:=fun _=>True) (okp:=fun _=>True) ?hr ?hp (fun _ hk=>hk) trivial (Below.refl _ _) (Nat.le_refl _) (by simp) ?_;(case hd=>rfl);(case hg=>rfl);(case hr=>first|(go_simp;done)|(go_simp;rfl));(case hp=>exact (Reps.one (show Kd.M (Kd.int .i64) _ _ _ 5 [.int .i64 5] from rfl) (Reps.one (show Kd.M (Kd.int .i64) _ _ _ 5 [.int .i64 5] from rfl) (Reps.one (show Kd.M (Kd.int .i64) _ _ _ 3 [.int .i64 3] from rfl) (Reps.one (show Kd.M (Kd.int .i64) _ _ _ 2 [.int .i64 2] from rfl) (Reps.none _ _))))));intro v13004 w10 ho11 hb hg_ hnew_;clear hg_ hnew_;(first|rw [← Ny13003.out] at ho11|(simp only [Int.reduceToNat] at ho11;rw [← Ny13003.out] at ho11));have n0_:=zk (Kd.R_lower ho11 (below_size za4));have n1_:=zk (zb BK13001.out hb);have n2_:=zk (below_step za4 hb);clear BK13001;clear HB;have HO13005:=n0_;have BK13001:=n1_;have HB:=n2_;clear n0_ n1_ n2_;clear hb ho11;obtain ⟨hcz12_0,hfz12_0⟩:=blk1 BK13001.out)|((with_reducible refine gate_callee (f:=31) rfl ?_);refine goesL_ (some 8) rfl rfl Tryz.func31 (by kernel_rfl) rfl #[.agg #[.slice A0_0 l0_0.length c0_0]] rfl za5 ?_;(with_reducible refine (impl_VarsOfProblem.calls k _ _ l0_0 t13006 _ ?side1 ?side2 A4.out).mono ?_);(case side1=>repeat (first|exact (Kd.C_below HR0_0.out HB.out)|(with_reducible refine Kd.C_alloc ?_ _)|(with_reducible refine Kd.C_drewN ?_ _)|(with_reducible refine Kd.C_drew ?_)));(case side2=>exact HC0_0.out);rintro e w13 ⟨rfl,hb⟩;refine ⟨_,rfl,?_⟩;have n0_:=zk (Kd.R_below (za1 HO13005.out) hb);have n1_:=zk (zb BK13001.out hb);have n2_:=zk (below_step za4 hb);clear HO13005;clear BK13001;clear HB;have HO13005:=n0_;have BK13001:=n1_;have HB:=n2_;clear n0_ n1_ n2_;(try clear hb);(try clear hb2);(try clear hk);(try clear hi);obtain ⟨Ao14,co14,eo14⟩:=Kd.R_slice HO13005.out;subst eo14;have p13007:0≤((t13006.size:Int):Int):=of_decide_eq_true za9;have q13007:(t13006.size:Int) < (y13003.length:Int):=of_decide_eq_true za9;obtain ⟨ad13007,e13007,hx13007_0⟩:=Kd.at_int (Kd.R_reads' HO13005.out).2.2 (t13006.size:Int) p13007 q13007;(try simp only [Int.toNat_natCast] at hx13007_0);cases e13007;replace p13007:=eq_true p13007;replace q13007:=eq_true q13007))
  go_ret
  exact ⟨za7,za4⟩
end Go.Proofs.YtffjfdoghofkdaaGreat.A
-- ALSO loop.example/g00582/impl.WordsUpTo
-- ALSO loop.example/g00582/impl.BoundOf
-- ALSO loop.example/g00582/impl.WithValue
namespace Go.Proofs.YtffjfdoghofkdaaGreat.Ext
open Go Go.RowKit YtffjfdoghofkdaaGreatW.PrintWords YtffjfdoghofkdaaGreatW.PrintLast YtffjfdoghofkdaaGreat.A
mutual
def mwF:Nat→List S67→ByteArray→List ByteArray→Int→ByteArray→ByteArray→ByteArray→List S32→Option (List S32)
 | 0,_,_,_,_,_,_,_,_=>none
 | k+1,ps,ns,ws,i,x,y,z,out=>if i=(ns.size:Int) then ((impl_IsModel.f k ps x y z).bind fun t=>if t=true then (if out.length < 2932031007402 then some (out ++ [⟨x,y,z⟩]) else none) else some out) else mwL k ps ns ws i x y z out 0
def mwL:Nat→List S67→ByteArray→List ByteArray→Int→ByteArray→ByteArray→ByteArray→List S32→Int→Option (List S32)
 | 0,_,_,_,_,_,_,_,_,_=>none
 | k+1,ps,ns,ws,i,x,y,z,out,j=>if j < (ws.length:Int) then (if 0≤j∧0≤i∧i < (ns.size:Int) then ((impl_WithValue.f x y z (bt ns i) (rdOf ByteArray.empty ws j)).bind fun q=>(mwF k ps ns ws (wrap64 (i+1)) q.1 q.2.1 q.2.2 out).bind fun o=>mwL k ps ns ws i x y z o (wrap64 (j+1))) else none) else some out
end
structure Fr (go : Nat) (W : World) (vo : Value) (W' : World) (vo' : Value) : Prop where
 sz:W.heap.size≤W'.heap.size
 fr:∀ k,k < W.heap.size→k ≠ go→vo.ownBlock ≠ some k→W'.heap[k]? = W.heap[k]?
 n:∀ k,vo'.ownBlock=some k→vo.ownBlock=some k∨W.heap.size≤k
theorem Fr.refl (go:Nat) (W:World) (vo:Value):Fr go W vo W vo:=⟨Nat.le_refl _,fun _ _ _ _=>rfl,fun _ h => .inl h⟩
theorem Fr.trans {go:Nat} {W W1 W2:World} {v v1 v2:Value} (h:Fr go W v W1 v1) (h':Fr go W1 v1 W2 v2):Fr go W v W2 v2:=by
 refine ⟨Nat.le_trans h.sz h'.sz,fun k hk hg hv=>(h'.fr k (Nat.lt_of_lt_of_le hk h.sz) hg fun e=>?_).trans (h.fr k hk hg hv),fun k hk=>?_⟩
 ·rcases h.n k e with e|e
  ·exact hv e
  ·omega
 ·rcases h'.n k hk with e|e
  ·exact h.n k e
  ·exact .inr (Nat.le_trans h.sz e)
theorem Fr.below {go:Nat} {W W1 W2:World} {v v1:Value} (h:Fr go W v W1 v1) (hb:Below W1.heap.size W1 W2):Fr go W v W2 v1 :=
 h.trans ⟨below_size hb,fun k hk _ _=>hb.block k hk,fun _ h => .inl h⟩
structure St (w0 : World) (gn gp go gw gf : Nat) (A0 : Option Addr) (c0 : Nat) (ps : List S67) (ns : ByteArray) (Aw : Option Addr) (cw : Nat) (ws : List ByteArray) (W : World) (vo : Value) (out : List S32) : Prop where
 n:W.heap[gn]? = some (.cells #[.string ns] 9 (0,0))
 p:W.heap[gp]? = some (.cells #[.slice A0 ps.length c0] 26 (0,0))
 o:W.heap[go]? = some (.cells #[vo] 29 (0,0))
 w:W.heap[gw]? = some (.cells #[.slice Aw ws.length cw] 53 (0,0))
 k:W.heap[gf]? = some (.cells #[.func (.func 33) #[] #[.pointer (some ⟨gn,0,none⟩),.pointer (some ⟨gp,0,none⟩),.pointer (some ⟨go,0,none⟩),.pointer (some ⟨gw,0,none⟩),.pointer (some ⟨gf,0,none⟩)]] 55 (0,0))
 r:Kd.R k32 32 W w0.heap.size (fun _=>True) vo out
 q:Kd.R Kd.string 9 W w0.heap.size (fun k=>some k=(Value.slice Aw ws.length cw).ownBlock) (.slice Aw ws.length cw) ws
 b:Below w0.heap.size w0 W
 g:w0.heap.size≤go
section
variable {w0 : World} {gn gp go gw gf : Nat} {A0 : Option Addr} {c0 : Nat} {ps : List S67} {ns : ByteArray} {Aw : Option Addr} {cw : Nat} {ws : List ByteArray} {W W' : World} {vo vo' : Value} {out out' : List S32}
theorem St.below (h:St w0 gn gp go gw gf A0 c0 ps ns Aw cw ws W vo out) (hb:Below W.heap.size W W'):St w0 gn gp go gw gf A0 c0 ps ns Aw cw ws W' vo out :=
 ⟨blk_below h.n hb,blk_below h.p hb,blk_below h.o hb,blk_below h.w hb,blk_below h.k hb,Kd.R_below h.r hb,Kd.R_below h.q hb,below_step h.b hb,h.g⟩
theorem St.drewN (h:St w0 gn gp go gw gf A0 c0 ps ns Aw cw ws W vo out) (m:Nat):St w0 gn gp go gw gf A0 c0 ps ns Aw cw ws (W.drewN m) vo out:=h.below (pw_below_drewN (Below.refl _ _) m)
theorem St.drew (h:St w0 gn gp go gw gf A0 c0 ps ns Aw cw ws W vo out):St w0 gn gp go gw gf A0 c0 ps ns Aw cw ws W.drew vo out:=h.below (below_drew (Below.refl _ _))
theorem St.put (h:St w0 gn gp go gw gf A0 c0 ps ns Aw cw ws W vo out) (hg:W.grownBy W' vo.ownBlock) (hr:Kd.R k32 32 W' w0.heap.size (fun _=>True) vo' out') (hb:Below w0.heap.size w0 W') (hat:vo'.ownBlock=vo.ownBlock∨∃ b,vo'.ownBlock=some b∧W.heap.size≤b) :
  St w0 gn gp go gw gf A0 c0 ps ns Aw cw ws (W'.setCell ⟨go,0,none⟩ vo') vo' out'∧Fr go W vo (W'.setCell ⟨go,0,none⟩ vo') vo':=by
 have b1:=blk_grown h.n hg (Kd.R_ne h.r h.n (by decide))
 have b2:=blk_grown h.p hg (Kd.R_ne h.r h.p (by decide))
 have b3:=blk_grown h.o hg (Kd.R_ne h.r h.o (by decide))
 have b4:=blk_grown h.w hg (Kd.R_ne h.r h.w (by decide))
 have b5:=blk_grown h.k hg (Kd.R_ne h.r h.k (by decide))
 have q1:Kd.R Kd.string 9 W' w0.heap.size (fun k=>some k=(Value.slice Aw ws.length cw).ownBlock) (.slice Aw ws.length cw) ws:=by
  refine Kd.R_grown h.q hg fun k hk e=>?_
  obtain ⟨cs,hc⟩:=Kd.R_typed h.q k hk.symm
  exact Kd.R_ne h.r hc (by decide) e
 refine ⟨⟨blk_far b1 (blk_ne b1 b3 (by decide)) _,blk_far b2 (blk_ne b2 b3 (by decide)) _,blk_put b3 0 _ rfl,blk_far b4 (blk_ne b4 b3 (by decide)) _,blk_far b5 (blk_ne b5 b3 (by decide)) _,Kd.R_set hr b3 (by decide) 0 _,Kd.R_set q1 b3 (by decide) 0 _,hb.setCell h.g _,h.g⟩,⟨?_,fun k hk hne hv=>?_,fun k hk=>?_⟩⟩
 ·have:=hg.size;simpa using this
 ·rw [Below.heap_setCell _ _ _ _ hne]
  exact hg.block k hk fun e=>hv e.symm
 ·rcases hat with e|⟨b,e,hb⟩
  ·exact .inl (e ▸ hk)
  ·rw [e] at hk
   injection hk with hk
   exact .inr (hk ▸ hb)
set_option maxHeartbeats 4000000 in
theorem walk_calls (hps:Kd.C k67 w0 A0 ps.length ps) (hc0:ps.length≤c0) (hns:ns.size≤1000) (k:Nat):∀ (i:Int) (x y z:ByteArray) (out r:List S32) (W:World) (vo:Value),St w0 gn gp go gw gf A0 c0 ps ns Aw cw ws W vo out→mwF k ps ns ws i x y z out=some r →
  Calls Tryz.prog 33 #[.int .i64 i,.agg #[.string x,.string y,.string z],.pointer (some ⟨gn,0,none⟩),.pointer (some ⟨gp,0,none⟩),.pointer (some ⟨go,0,none⟩),.pointer (some ⟨gw,0,none⟩),.pointer (some ⟨gf,0,none⟩)] W fun e W'=>e = .returned (.tuple #[])∧∃ v',St w0 gn gp go gw gf A0 c0 ps ns Aw cw ws W' v' r∧Fr go W vo W' v':=by
 induction k using Nat.strongRecOn with
 | _ k ih =>
 intro i x y z out r W vo hS h
 cases k with
 | zero=>exact absurd h (by simp [mwF])
 | succ k =>
 simp only [mwF] at h
 have HS:=zk hS
 have HP:=zk hps
 have HC:=zk hc0
 have HN:=zk hns
 have HI:=zk ih
 have HH:=zk h
 clear hps hc0 hns ih h hS
 go_enter Tryz.func33,Tryz.ntmps33
 go_upto_region 1 with (first
  | ((with_reducible refine gate_dst (N:=8) rfl ?_);refine zE (N:=8) (cs:=#[.string x,.string y,.string z]) (t:=32) ?_;intro gv hgv w1 hbox hb1;have X1:=zk hbox;have S1:=zk (HS.out.below hb1);have F1:=zk ((Fr.refl go W vo).below hb1);have G1:=zk hgv;clear hb1 hbox hgv))
 obtain ⟨n0,n1⟩:=blk1 S1.out.n
 obtain ⟨p0,p1⟩:=blk1 S1.out.p
 obtain ⟨o0,o1⟩:=blk1 S1.out.o
 obtain ⟨w0_,w1_⟩:=blk1 S1.out.w
 obtain ⟨k0,k1⟩:=blk1 S1.out.k
 obtain ⟨x0,x1,x2,y0,y1,y2⟩:=blk3 X1.out
 have h:=HH.out
 clear HH
 by_cases hi:i=(ns.size:Int)
 ·subst hi
  rw [if_pos rfl] at h
  obtain ⟨t,ht,h⟩:=zo h
  have HM:=zk (fun (W':World) (hb:Below w0.heap.size w0 W')=>impl_IsModel.calls k A0 c0 ps x y z t W' (Kd.C_below HP.out hb) HC.out ht)
  clear ht
  cases t with
  | false =>
   obtain rfl:=zi (show some out=some r from h)
   clear h
   go_wp2_with (go_at_call 15;(with_reducible refine (HM.out _ S1.out.b).mono ?_);rintro e w2 ⟨rfl,hb2⟩;have S2:=zk (S1.out.below hb2);have F2:=zk (F1.out.below hb2);clear hb2)
   (try simp only [Exit.inBlock,Exit.then])
   refine bodyPost_ret (results_none rfl _ _ _) rfl ?_
   exact ⟨za54,vo,S2.out,F2.out⟩
  | true =>
   rw [if_pos rfl] at h
   by_cases hl:out.length < 2932031007402
   ·rw [if_pos hl] at h
    obtain rfl:=zi h
    have HL:=zk hl
    clear h hl
    go_wp2_with (first
     | (go_at_call 15;(with_reducible refine (HM.out _ S1.out.b).mono ?_);rintro e w2 ⟨rfl,hb2⟩;have S2:=zk (S1.out.below hb2);have F2:=zk (F1.out.below hb2);have X2:=zk (blk_below X1.out hb2);clear hb2 n0 n1 p0 p1 o0 o1 w0_ w1_ k0 k1 x0 x1 x2 y0 y1 y2;obtain ⟨o0,o1⟩:=blk1 S2.out.o;obtain ⟨x0,x1,x2,y0,y1,y2⟩:=blk3 X2.out)
     | ((with_reducible refine gate_builtin (b:=.append) (xs:=#[.tmp 18,.tmp 20]) rfl ?_);at_builtin;refine Kd.R_append k32 (w0:=w0) w0.heap.size rfl (.tmp 18) (.tmp 20) 29 32 (.agg #[(.string ⟨#[]⟩),(.string ⟨#[]⟩),(.string ⟨#[]⟩)]) 48 rfl Tryz.underlying29 info32 rfl (by decide) (by decide) vo out (⟨x,y,z⟩:S32) [.string x,.string y,.string z] (fun _=>True) (fun _=>False) rfl rfl (k32_mkM _ _ _ (⟨x,y,z⟩:S32)) (fun _ hk=>hk.elim) (fun _ _=>trivial) S2.out.r S2.out.b S2.out.b.size (by have:=HL.out;omega) ?_;intro v3 w3 ho hb hg hat;have S3:=zk (S2.out.put hg ho hb hat);have Z3:=zk (blk_grown S2.out.o hg (Kd.R_ne S2.out.r S2.out.o (by decide)));clear o0 o1 x0 x1 x2 y0 y1 y2;obtain ⟨A3,c3,e3⟩:=Kd.R_slice ho;subst e3;obtain ⟨o0,o1⟩:=blk1 Z3.out;clear ho hb hg hat))
    (try simp only [Exit.inBlock,Exit.then])
    refine bodyPost_ret (results_none rfl _ _ _) rfl ?_
    have T3:=S3.out
    rw [show (out ++ [(⟨x,y,z⟩:S32)]).length=out.length+1 by simp] at T3
    exact ⟨za54,_,T3.1,F2.out.trans T3.2⟩
   ·rw [if_neg hl] at h
    cases h
 ·rw [if_neg hi] at h
  have d1:decide (i=(ns.size:Int))=false:=decide_eq_false hi
  have d2:(i == (ns.size:Int))=false:=beq_eq_false_iff_ne.mpr hi
  have HH:=zk h
  clear h hi p0 p1 o0 o1 x0 x1 x2 y0 y1 y2
  go_wp2
  go_loopg [24] k (fun kq v24 w'=>∃ (o2:List S32) (j:Int) (v2:Value),v24 = .int .i64 j∧Aside0 (mwL kq ps ns ws i x y z o2 j=some r)∧Aside0 (kq≤k)∧Aside0 (St w0 gn gp go gw gf A0 c0 ps ns Aw cw ws w' v2 o2)∧Aside0 (Fr go W vo w' v2)∧Aside0 (w'.heap[gv]? = some (.cells #[.string x,.string y,.string z] 32 (0,0)))∧Aside0 (v2.ownBlock ≠ some gv))
  case atStart=>exact ⟨out,0,vo,za54,HH,⟨Nat.le_refl _⟩,S1,F1,X1,⟨fun e=>by have:=Kd.R_lt HS.out.r gv e;have:=G1.out;omega⟩⟩
  case round =>
   clear HH n0 n1 w0_ w1_ k0 k1 d1 d2
   obtain ⟨o2,j,v2,rfl,HA,HK,S2,F2,X2,V2⟩:=hrel
   cases gk with
   | zero=>exact absurd HA.out (by simp [mwL])
   | succ k1 =>
    have h:=HA.out
    clear HA
    simp only [mwL] at h
    obtain ⟨n0,n1⟩:=blk1 S2.out.n
    obtain ⟨k0,k1_⟩:=blk1 S2.out.k
    obtain ⟨x0,x1,x2,y0,y1,y2⟩:=blk3 X2.out
    by_cases hj:j < (ws.length:Int)
    ·rw [if_pos hj] at h
     by_cases hij:0≤j∧0≤i∧i < (ns.size:Int)
     ·rw [if_pos hij] at h
      obtain ⟨⟨q1,q2,q3⟩,hq,h⟩:=zo h
      obtain ⟨o3,ho,h⟩:=zo h
      have dj:decide (j < (ws.length:Int))=true:=decide_eq_true hj
      have HW:=zk (fun (W':World)=>impl_WithValue.calls x y z (bt ns i) (rdOf ByteArray.empty ws j) q1 q2 q3 W' hq)
      have HO:=zk (fun (W':World) (hS:St w0 gn gp go gw gf A0 c0 ps ns Aw cw ws W' v2 o2)=>HI.out k1 (by have:=HK.out;omega) (wrap64 (i+1)) q1 q2 q3 o2 o3 W' v2 hS ho)
      have HH:=zk h
      obtain ⟨ad,e1,hx1⟩:=Kd.at_string (Kd.R_reads' S2.out.q).2.2 j hij.1 hj
      cases e1
      have p4:=eq_true hij.2.1
      have q4:=eq_true hij.2.2
      have hx4:=bt_at ns i
      have pj:=eq_true hij.1
      have qj:=eq_true hj
      obtain ⟨i1,hi1⟩:∃ i1,wrap64 (i+1)=i1:=⟨_,rfl⟩
      rw [hi1] at HO
      have hw1:IntKind.i64.wrap (i+1)=i1:=by rw [i64_w];exact hi1
      clear hi1 hij hj h ho hq
      go_wp2
      go_region_held3 (fun w'=>w'.cell? ⟨gf,0,none⟩=some (.func (.func 33) #[] #[.pointer (some ⟨gn,0,none⟩),.pointer (some ⟨gp,0,none⟩),.pointer (some ⟨go,0,none⟩),.pointer (some ⟨gw,0,none⟩),.pointer (some ⟨gf,0,none⟩)])∧w'.cell? ⟨gn,0,none⟩=some (.string ns)∧w'.cell? ⟨gv,0,none⟩=some (.string x)∧w'.cell? ⟨gv,1,none⟩=some (.string y)∧w'.cell? ⟨gv,2,none⟩=some (.string z)) (go_keep) (first
       | (go_at_call 34;(with_reducible refine (HW.out _).mono ?_);rintro e w5 ⟨rfl,hb5⟩;have n2:=zk (show St w0 gn gp go gw gf A0 c0 ps ns (some ad) cw ws w5 v2 o2 by first|exact S2.out.below hb5|exact S2.out.drew.below hb5|exact (S2.out.drewN _).below hb5);have n3:=zk (show Fr go W vo w5 v2 by first|exact F2.out.below hb5|exact (F2.out.below (below_drew (Below.refl _ _))).below hb5|exact (F2.out.below (pw_below_drewN (Below.refl _ _) _)).below hb5);have n4:=zk (show w5.heap[gv]? = _ by first|exact blk_below X2.out hb5|exact blk_below (blk_drew X2.out) hb5|exact blk_below (blk_drewN X2.out _) hb5);clear S2 F2 X2 hb5 hx1;have S2:=n2;have F2:=n3;have X2:=n4;clear n2 n3 n4;clear n0 n1 k0 k1_ x0 x1 x2 y0 y1 y2;obtain ⟨n0,n1⟩:=blk1 S2.out.n;obtain ⟨k0,k1_⟩:=blk1 S2.out.k;obtain ⟨x0,x1,x2,y0,y1,y2⟩:=blk3 X2.out)
       | (go_at_call 33;(with_reducible refine (HO.out _ (by first|exact S2.out|exact S2.out.drew|exact S2.out.drewN _)).mono ?_);rintro e w5 ⟨rfl,v5,S5,F5⟩;have n2:=zk S5;have n3:=zk (show Fr go W vo w5 v5 by first|exact F2.out.trans F5|exact (F2.out.below (below_drew (Below.refl _ _))).trans F5|exact (F2.out.below (pw_below_drewN (Below.refl _ _) _)).trans F5);have n4:=zk (show w5.heap[gv]? = some (.cells #[.string x,.string y,.string z] 32 (0,0)) from (F5.fr gv (blk_lt X2.out) (blk_ne X2.out S2.out.o (by decide)) V2.out).trans X2.out);have n5:=zk (show v5.ownBlock ≠ some gv from fun e=>(F5.n gv e).elim V2.out fun h=>by have:=blk_lt X2.out;exact absurd h (Nat.not_le.2 this));clear S2 F2 X2 V2 S5 F5;have S2:=n2;have F2:=n3;have X2:=n4;have V2:=n5;clear n2 n3 n4 n5;clear n0 n1 k0 k1_ x0 x1 x2 y0 y1 y2;obtain ⟨n0,n1⟩:=blk1 S2.out.n;obtain ⟨k0,k1_⟩:=blk1 S2.out.k;obtain ⟨x0,x1,x2,y0,y1,y2⟩:=blk3 X2.out))
      all_goals
       go_wp2
       go_roundg k1
       case measure=>omega
       case rel=>exact ⟨o3,wrap64 (j+1),_,by first|rfl|(simp;done)|(simp [i64_w];done),HH,⟨by have:=HK.out;omega⟩,⟨by first|exact S2.out|exact S2.out.drew|exact S2.out.drewN _⟩,⟨by first|exact F2.out|exact F2.out.below (below_drew (Below.refl _ _))|exact F2.out.below (pw_below_drewN (Below.refl _ _) _)⟩,⟨by first|exact X2.out|exact blk_drew X2.out|exact blk_drewN X2.out _⟩,V2⟩
     ·rw [if_neg hij] at h
      cases h
    ·rw [if_neg hj] at h
     obtain rfl:=zi h
     have dj:decide (j < (ws.length:Int))=false:=decide_eq_false hj
     clear h hj
     go_wp2
     go_end0
     exact ⟨za54,v2,S2.out,F2.out⟩
end
-- EXT loop.example/g00582/impl.ModelsUpTo rounds making
def impl_ModelsUpTo.f (k:Nat) (l0_0:List S67) (a1:Int):Option (List S32) :=
 (impl_IsValidProblem.f k l0_0).bind fun t=>if t=true then (if a1 < 0 then some [] else ((impl_VarsOfProblem.f k l0_0).bind fun ns=>if ns.size≤1000 then ((impl_BoundOf.f k l0_0).bind fun b=>(impl_WordsUpTo.f k (min a1 b)).bind fun ws=>mwF k l0_0 ns ws 0 (⟨#[]⟩:ByteArray) (⟨#[]⟩:ByteArray) (⟨#[]⟩:ByteArray) []) else none)) else some []
theorem mw_mono:∀ (k:Nat) (ps:List S67) (ns:ByteArray) (ws:List ByteArray) (i:Int) (x y z:ByteArray),(∀ out,LeO (mwF k ps ns ws i x y z out) (mwF (k+1) ps ns ws i x y z out))∧(∀ out j,LeO (mwL k ps ns ws i x y z out j) (mwL (k+1) ps ns ws i x y z out j))
 | 0,_,_,_,_,_,_,_=>⟨fun _ r h=>by simp [mwF] at h,fun _ _ r h=>by simp [mwL] at h⟩
 | k+1,ps,ns,ws,i,x,y,z=>by
  have ih:=mw_mono k ps ns ws
  refine ⟨fun out=>?_,fun out j=>?_⟩
  ·unfold mwF
   exact LeO.ite (LeO.bind (impl_IsModel.mono _ _ _ _ _) fun _=>LeO.refl _) ((ih i x y z).2 out 0)
  ·unfold mwL
   exact LeO.ite (LeO.ite (LeO.bind (LeO.refl _) fun q=>LeO.bind ((ih _ _ _ _).1 _) fun o=>(ih i x y z).2 o _) (LeO.refl _)) (LeO.refl _)
theorem impl_ModelsUpTo.mono (a0:List S67) (a1:Int) (k:Nat):LeO (impl_ModelsUpTo.f k a0 a1) (impl_ModelsUpTo.f (k+1) a0 a1):=by
 unfold impl_ModelsUpTo.f
 exact LeO.bind (impl_IsValidProblem.mono _ _) fun t=>LeO.ite (LeO.ite (LeO.refl _) (LeO.bind (impl_VarsOfProblem.mono _ _) fun ns=>LeO.ite (LeO.bind (impl_BoundOf.mono _ _) fun b=>LeO.bind (impl_WordsUpTo.mono _ _) fun ws=>(mw_mono k _ _ _ _ _ _ _).1 _) (LeO.refl _))) (LeO.refl _)
theorem impl_ModelsUpTo.calls (k:Nat) (A0_0:Option Addr) (c0_0:Nat) (l0_0:List S67) (a1:Int) (r:List S32) (w:World) (hr0_0:Kd.C k67 w A0_0 l0_0.length l0_0) (hc0_0:l0_0.length≤c0_0) (h:impl_ModelsUpTo.f k l0_0 a1=some r) :
  Calls Tryz.prog 9 #[.agg #[.slice A0_0 l0_0.length c0_0],.int .i64 a1] w fun e w'=>∃ v0_:Value,e = .returned (v0_)∧Kd.R k32 32 w' w.heap.size (fun _=>True) v0_ r∧Below w.heap.size w w':=by
 have HB:=zk (Below.refl w.heap.size w)
 have HR:=zk hr0_0
 have HC:=zk hc0_0
 unfold impl_ModelsUpTo.f at h
 obtain ⟨t,ht,h⟩:=zo h
 have HV:=zk (fun (W:World) (hB:Below w.heap.size w W)=>impl_IsValidProblem.calls k A0_0 c0_0 l0_0 t W (Kd.C_below hr0_0 hB) hc0_0 ht)
 have HH:=zk h
 clear ht hr0_0 hc0_0 h
 go_enter Tryz.func9,Tryz.ntmps9
 go_upto_region 1 with (first
  | ((with_reducible refine gate_dst (N:=2) rfl ?_);refine zE (N:=2) (cs:=#[.slice A0_0 l0_0.length c0_0]) (t:=26) ?_;intro gp hgp w3 hbox hb3;have X3:=zk hbox;have B3:=zk (below_step HB.out hb3);have G3:=zk (show w.heap.size≤gp by omega);clear hb3 hbox hgp))
 obtain ⟨y0,g0⟩:=blk1 X3.out
 have h:=HH.out
 clear HH
 cases t with
 | false =>
  obtain rfl:=zi (show some []=some r from h)
  clear h
  go_wp2_with (go_at_call 30;(with_reducible refine (HV.out _ B3.out).mono ?_);rintro e w5 ⟨rfl,hb5⟩;have B5:=zk (below_step B3.out hb5);clear hb5)
  go_ret
  exact ⟨_,za54,Kd.R_nil _ _ _ _ _,B5.out⟩
 | true =>
  rw [if_pos rfl] at h
  by_cases hn:a1 < 0
  ·rw [if_pos hn] at h
   obtain rfl:=zi h
   have dn:decide (a1 < 0)=true:=decide_eq_true hn
   clear h hn
   go_wp2_with (go_at_call 30;(with_reducible refine (HV.out _ B3.out).mono ?_);rintro e w5 ⟨rfl,hb5⟩;have B5:=zk (below_step B3.out hb5);clear hb5)
   go_ret
   exact ⟨_,za54,Kd.R_nil _ _ _ _ _,B5.out⟩
  ·rw [if_neg hn] at h
   have dn:decide (a1 < 0)=false:=decide_eq_false hn
   obtain ⟨ns,hns,h⟩:=zo h
   by_cases hn1:ns.size≤1000
   ·rw [if_pos hn1] at h
    obtain ⟨b,hb,h⟩:=zo h
    obtain ⟨ws,hws,h⟩:=zo h
    have HP:=zk (fun (W:World) (hB:Below w.heap.size w W)=>impl_VarsOfProblem.calls k A0_0 c0_0 l0_0 ns W (Kd.C_below HR.out hB) HC.out hns)
    have HO:=zk (fun (W:World) (hB:Below w.heap.size w W)=>impl_BoundOf.calls k A0_0 c0_0 l0_0 b W (Kd.C_below HR.out hB) HC.out hb)
    have HW:=zk (fun (W:World)=>impl_WordsUpTo.calls k (min a1 b) ws W hws)
    have HH:=zk h
    clear h hns hb hws hn
    go_upto_region 4 with (first
     | (go_at_call 30;(with_reducible refine (HV.out _ B3.out).mono ?_);rintro e w5 ⟨rfl,hb5⟩;have B5:=zk (below_step B3.out hb5);have X5:=zk (blk_below X3.out hb5);clear hb5 y0 g0;obtain ⟨y0,g0⟩:=blk1 X5.out)
     | (go_at_call 31;(with_reducible refine (HP.out _ B5.out).mono ?_);rintro e w6 ⟨rfl,hb6⟩;have B6:=zk (below_step B5.out hb6);have X6:=zk (blk_below X5.out hb6);clear hb6 y0 g0;obtain ⟨y0,g0⟩:=blk1 X6.out))
    obtain ⟨w7,hw7⟩:∃ w7,w6.alloc (.cells #[.string ns] 9)=w7:=⟨_,rfl⟩
    obtain ⟨gn,hgn⟩:∃ gn,w6.heap.size=gn:=⟨_,rfl⟩
    have N7:Aside0 (w7.heap[gn]? = some (.cells #[.string ns] 9 (0,0))):=⟨by rw [← hw7,← hgn];exact blk_new _ _⟩
    have X7:Aside0 (w7.heap[gp]? = some (.cells #[.slice A0_0 l0_0.length c0_0] 26 (0,0))):=⟨by rw [← hw7];exact blk_alloc X6.out _⟩
    have B7:Aside0 (Below w.heap.size w w7):=⟨by rw [← hw7];exact below_alloc B6.out _⟩
    rw [hw7,hgn]
    clear hw7 hgn y0 g0 X3 X5 X6 B5 B6
    obtain ⟨y0,g0⟩:=blk1 X7.out
    go_upto_region 5 with (first
     | (go_at_call 13;(with_reducible refine (HO.out _ B7.out).mono ?_);rintro e w8 ⟨rfl,hb8⟩;have B8:=zk (below_step B7.out hb8);have X8:=zk (blk_below X7.out hb8);have N8:=zk (blk_below N7.out hb8);clear hb8 y0 g0;obtain ⟨y0,g0⟩:=blk1 X8.out)
     | (go_at_call 32;(with_reducible refine (HW.out _).mono ?_);rintro e w9 ⟨v9,rfl,hr9,hb9⟩;obtain ⟨Aw,cw,ew⟩:=Kd.R_slice hr9;subst ew;have Q9:=zk (Kd.R_lower hr9 B8.out.size);have B9:=zk (below_step B8.out hb9);have X9:=zk (blk_below X8.out hb9);have N9:=zk (blk_below N8.out hb9);clear hb9 hr9 y0 g0;obtain ⟨y0,g0⟩:=blk1 X9.out))
    obtain ⟨w10,hw10⟩:∃ w10,w9.alloc (.cells #[.slice Aw ws.length cw] 53)=w10:=⟨_,rfl⟩
    obtain ⟨gw,hgw⟩:∃ gw,w9.heap.size=gw:=⟨_,rfl⟩
    have M10:Aside0 (w10.heap[gw]? = some (.cells #[.slice Aw ws.length cw] 53 (0,0))):=⟨by rw [← hw10,← hgw];exact blk_new _ _⟩
    have X10:Aside0 (w10.heap[gp]? = some (.cells #[.slice A0_0 l0_0.length c0_0] 26 (0,0))):=⟨by rw [← hw10];exact blk_alloc X9.out _⟩
    have N10:Aside0 (w10.heap[gn]? = some (.cells #[.string ns] 9 (0,0))):=⟨by rw [← hw10];exact blk_alloc N9.out _⟩
    have Q10:Aside0 (Kd.R Kd.string 9 w10 w.heap.size (fun _=>True) (.slice Aw ws.length cw) ws):=⟨by rw [← hw10];exact Kd.R_alloc Q9.out _⟩
    have B10:Aside0 (Below w.heap.size w w10):=⟨by rw [← hw10];exact below_alloc B9.out _⟩
    rw [hw10,hgw]
    clear hw10 hgw y0 g0 X7 X8 X9 N7 N8 N9 B7 B8 B9 Q9
    go_upto_region 6 with (first
     | ((with_reducible refine gate_dst (N:=23) rfl ?_);refine Kd.R_lit k32 _ 32 ?hg (N:=23) ?hd (xs:=([]:List S32)) (inner:=[]) (ok:=fun _=>True) (okp:=fun _=>True) ?hr ?hp (fun _ hk=>hk) trivial (Below.refl _ _) (Nat.le_refl _) (by simp) ?_;(case hd=>rfl);(case hg=>rfl);(case hr=>first|(go_simp;done)|(go_simp;rfl));(case hp=>exact (Reps.none _ _));intro v11 w11 ho hb hg_ hnew_;clear hg_ hnew_;obtain ⟨Ao,co,eo⟩:=Kd.R_slice ho;subst eo;have R11:=zk (Kd.R_lower ho B10.out.size);have M11:=zk (blk_below M10.out hb);have X11:=zk (blk_below X10.out hb);have N11:=zk (blk_below N10.out hb);have Q11:=zk (Kd.R_below Q10.out hb);have B11:=zk (below_step B10.out hb);clear hb ho))
    obtain ⟨w12,hw12⟩:∃ w12,w11.alloc (.cells #[.slice Ao 0 co] 29)=w12:=⟨_,rfl⟩
    obtain ⟨go,hgo⟩:∃ go,w11.heap.size=go:=⟨_,rfl⟩
    have O12:Aside0 (w12.heap[go]? = some (.cells #[.slice Ao 0 co] 29 (0,0))):=⟨by rw [← hw12,← hgo];exact blk_new _ _⟩
    have M12:Aside0 (w12.heap[gw]? = some (.cells #[.slice Aw ws.length cw] 53 (0,0))):=⟨by rw [← hw12];exact blk_alloc M11.out _⟩
    have X12:Aside0 (w12.heap[gp]? = some (.cells #[.slice A0_0 l0_0.length c0_0] 26 (0,0))):=⟨by rw [← hw12];exact blk_alloc X11.out _⟩
    have N12:Aside0 (w12.heap[gn]? = some (.cells #[.string ns] 9 (0,0))):=⟨by rw [← hw12];exact blk_alloc N11.out _⟩
    have Q12:Aside0 (Kd.R Kd.string 9 w12 w.heap.size (fun _=>True) (.slice Aw ws.length cw) ws):=⟨by rw [← hw12];exact Kd.R_alloc Q11.out _⟩
    have R12:Aside0 (Kd.R k32 32 w12 w.heap.size (fun _=>True) (.slice Ao 0 co) []):=⟨by rw [← hw12];exact Kd.R_alloc R11.out _⟩
    have B12:Aside0 (Below w.heap.size w w12):=⟨by rw [← hw12];exact below_alloc B11.out _⟩
    have G12:Aside0 (w.heap.size≤go):=⟨by rw [← hgo];exact B11.out.size⟩
    rw [hw12,hgo]
    clear hw12 hgo X10 X11 N10 N11 B10 B11 Q10 Q11 R11 M10 M11
    go_upto_region 8 with (fail)
    obtain ⟨gf,hgf⟩:∃ gf,w12.heap.size=gf:=⟨_,rfl⟩
    rw [hgf]
    obtain ⟨w13,hw13⟩:∃ w13,w12.alloc (.cells #[.func (.func 33) #[] #[.pointer (some ⟨gn,0,none⟩),.pointer (some ⟨gp,0,none⟩),.pointer (some ⟨go,0,none⟩),.pointer (some ⟨gw,0,none⟩),.pointer (some ⟨gf,0,none⟩)]] 55)=w13:=⟨_,rfl⟩
    have S13:Aside0 (St w gn gp go gw gf A0_0 c0_0 l0_0 ns Aw cw ws w13 (.slice Ao 0 co) []):=⟨by
     rw [← hw13]
     exact ⟨blk_alloc N12.out _,blk_alloc X12.out _,blk_alloc O12.out _,blk_alloc M12.out _,by rw [← hgf];exact blk_new _ _,Kd.R_alloc R12.out _,Kd.R_alloc (Kd.R_tight rfl Q12.out) _,below_alloc B12.out _,G12.out⟩⟩
    rw [hw13]
    clear hw13 hgf N12 X12 O12 M12 Q12 R12 B12 G12
    have CW:=zk (walk_calls (w0:=w) (gn:=gn) (gp:=gp) (go:=go) (gw:=gw) (gf:=gf) (Aw:=Aw) (cw:=cw) HR.out HC.out hn1 k 0 _ _ _ [] r w13 (.slice Ao 0 co) S13.out HH.out)
    obtain ⟨k0,k1⟩:=blk1 S13.out.k
    go_upto_region 9 with (go_at_call 33;(with_reducible refine CW.out.mono ?_);rintro e w14 ⟨rfl,v14,S14,F14⟩;obtain ⟨Ap,cp,ep⟩:=Kd.R_slice S14.r;subst ep;have T14:=zk S14;clear S14 F14)
    obtain ⟨o0,o1⟩:=blk1 T14.out.o
    go_wp2
    go_ret
    exact ⟨_,za54,T14.out.r,T14.out.b⟩
   ·rw [if_neg hn1] at h
    cases h
end Go.Proofs.YtffjfdoghofkdaaGreat.Ext
