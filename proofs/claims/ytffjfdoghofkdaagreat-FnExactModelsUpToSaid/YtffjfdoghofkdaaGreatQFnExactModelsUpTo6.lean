/- FnExactModelsUpTo: what its proof needs, put together by this session's program wip/merge.py out of the texts that wip/xp.py printed and of this session's own. -/
import Derived.Test.YtffjfdoghofkdaaGreatQFnExactModelsUpTo5
set_option linter.unusedVariables false
set_option linter.unusedSimpArgs false
set_option linter.unusedSectionVars false
set_option maxHeartbeats 8000000
set_option maxRecDepth 100000
namespace Go.Proofs.YtffjfdoghofkdaaGreat.A
open Go.RowKit YtffjfdoghofkdaaGreat.Ext YtffjfdoghofkdaaGreatW.PrintWords YtffjfdoghofkdaaGreatW.PrintLast YtffjfdoghofkdaaGreatW.PrintMore
attribute [local go_sem] max2_int min2_int max_two min_two max_three min_three max_four min_four
def spec_l9Holds.f (k:Nat) (a0_0:Int) (a0_1:ByteArray) (a0_2:ByteArray) (a0_3:Int) (a0_4:ByteArray) (l0_5:List (S65)) (l0_6:List Int) (a0_7:Int) (a1_0:ByteArray) (a1_1:ByteArray) (a1_2:ByteArray):Option (Bool):=(spec_ApplyValues.f k a0_1 a1_0 a1_1 a1_2).bind fun t83003=>(if a0_0=1 then ((spec_ApplyValues.f k a0_2 a1_0 a1_1 a1_2).bind fun t83004=>(some (t83003.toList == t83004.toList))) else (if a0_0=2 then ((spec_ApplyValues.f k a0_2 a1_0 a1_1 a1_2).bind fun t83005=>(some (t83003.toList != t83005.toList))) else (if a0_0=3 then ((spec_l4Match.f a0_3 a0_4 l0_5 t83003).bind fun t83006=>(some t83006)) else (if a0_0=4 then ((spec_l4Match.f a0_3 a0_4 l0_5 t83003).bind fun t83007=>(some (!t83007))) else ((spec_l9Sum.f l0_6 a1_0 a1_1 a1_2).bind fun t83008=>(some (decide (t83008≤a0_7))))))))
theorem spec_l9Holds.mono:∀ a0 a1 a2 a3 a4 a5 a6 a7 a8 a9 a10 k,LeO (spec_l9Holds.f k a0 a1 a2 a3 a4 a5 a6 a7 a8 a9 a10) (spec_l9Holds.f (k+1) a0 a1 a2 a3 a4 a5 a6 a7 a8 a9 a10):=by
 intro a0 a1 a2 a3 a4 a5 a6 a7 a8 a9 a10 k
 unfold spec_l9Holds.f
 repeat' first
  | with_reducible first|exact spec_ApplyValues.mono _ _ _ _ _|exact LeO.refl _|exact LeO.none _|refine LeO.ite ?_ ?_|refine LeO.bind ?_ (fun _=>?_)
def spec_l9Holds.T11:Bool × List (List Nat × List Nat):=(true,[([],[]),([0],[0]),([],[]),([1,2],[1,2]),([],[]),([4],[4]),([3,5],[3,5]),([6,3,0,1,2,3,4,5,6],[6])])
def spec_l9Holds.B11:List Nat:=[0,1,0,7,0,16,63,127]
theorem spec_l9Holds.tab11:rtab .any (opsOf Tryz.f83 11)=spec_l9Holds.T11:=by kernel_rfl
theorem spec_l9Holds.bits11:waitsOk spec_l9Holds.T11.2 spec_l9Holds.B11=true:=by kernel_rfl
theorem spec_l9Holds.calls (k:Nat) (a0_0:Int) (a0_1:ByteArray) (a0_2:ByteArray) (a0_3:Int) (a0_4:ByteArray) (A0_5:Option Addr) (c0_5:Nat) (l0_5:List (S65)) (A0_6:Option Addr) (c0_6:Nat) (l0_6:List Int) (a0_7:Int) (a1_0:ByteArray) (a1_1:ByteArray) (a1_2:ByteArray) (r:Bool) (w:World) (hr0_5:Kd.C k65 w A0_5 l0_5.length l0_5) (hc0_5:l0_5.length≤c0_5) (hr0_6:Kd.C (Kd.int .i64) w A0_6 l0_6.length l0_6) (hc0_6:l0_6.length≤c0_6) (h:spec_l9Holds.f k a0_0 a0_1 a0_2 a0_3 a0_4 l0_5 l0_6 a0_7 a1_0 a1_1 a1_2=some r) :
   Calls Tryz.prog 83 #[.agg #[.int .i64 a0_0,.string a0_1,.string a0_2,.int .i64 a0_3,.string a0_4,.slice A0_5 l0_5.length c0_5,.slice A0_6 l0_6.length c0_6,.int .i64 a0_7],.agg #[.string a1_0,.string a1_1,.string a1_2]] w fun e w'=>e = .returned (.bool r)∧Below w.heap.size w w':=by
 have hu67:=Tryz.underlying67
 have hu32:=Tryz.underlying32
 have hu65:=Tryz.underlying65
 have HR0_5:=zk hr0_5
 have HC0_5:=zk hc0_5
 clear hr0_5 hc0_5
 have HR0_6:=zk hr0_6
 have HC0_6:=zk hc0_6
 clear hr0_6 hc0_6
 have HB:=zk (Below.refl w.heap.size w)
 have H:((spec_ApplyValues.f k a0_1 a1_0 a1_1 a1_2).bind fun t83003=>(if a0_0=1 then ((spec_ApplyValues.f k a0_2 a1_0 a1_1 a1_2).bind fun t83004=>(some (t83003.toList == t83004.toList))) else (if a0_0=2 then ((spec_ApplyValues.f k a0_2 a1_0 a1_1 a1_2).bind fun t83005=>(some (t83003.toList != t83005.toList))) else (if a0_0=3 then ((spec_l4Match.f a0_3 a0_4 l0_5 t83003).bind fun t83006=>(some t83006)) else (if a0_0=4 then ((spec_l4Match.f a0_3 a0_4 l0_5 t83003).bind fun t83007=>(some (!t83007))) else ((spec_l9Sum.f l0_6 a1_0 a1_1 a1_2).bind fun t83008=>(some (decide (t83008≤a0_7)))))))))=some r:=h
 clear h
 go_enter Tryz.func83,Tryz.ntmps83
 go_upto_region 1 with (first|((with_reducible refine gate_dst (N:=2) rfl ?_);refine zE (N:=2) (cs:=#[.int .i64 a0_0,.string a0_1,.string a0_2,.int .i64 a0_3,.string a0_4,.slice A0_5 l0_5.length c0_5,.slice A0_6 l0_6.length c0_6,.int .i64 a0_7]) (t:=67) ?_;intro gb83001 hg w47 hbox hb;have n0_:=zk (below_step za3 hb);have n1_:=zk (hbox);have n2_:=zk (zs (w:=w) hg za3);have n3_:=zk (zs (w:=w) hg za3);clear HB;have HB:=n0_;have BK83001:=n1_;have GW83001:=n2_;have GE83001:=n3_;clear n0_ n1_ n2_ n3_;clear hb hbox hg)|((with_reducible refine gate_dst (N:=3) rfl ?_);refine zE (N:=3) (cs:=#[.string a1_0,.string a1_1,.string a1_2]) (t:=32) ?_;intro gb83002 hg w48 hbox hb;have n0_:=zk (zb BK83001.out hb);have n1_:=zk (below_step za3 hb);have n2_:=zk (hbox);have n3_:=zk (zs (w:=w) hg za3);have n4_:=zk (zs (w:=w) hg za3);have n5_:=zk ((by rw [hg];exact Nat.ne_of_lt (zl BK83001.out):gb83001 ≠ gb83002));have n6_:=zk ((by rw [hg];exact Nat.ne_of_gt (zl BK83001.out):gb83002 ≠ gb83001));clear BK83001;clear HB;have BK83001:=n0_;have HB:=n1_;have BK83002:=n2_;have GW83002:=n3_;have GE83002:=n4_;have NB83001_83002:=n5_;have NB83002_83001:=n6_;clear n0_ n1_ n2_ n3_ n4_ n5_ n6_;clear hb hbox hg;have hnb49:=NB83001_83002.out;have hnc49:=NB83002_83001.out;obtain ⟨hcz50_0,hcz50_1,hcz50_2,hcz50_3,hcz50_4,hcz50_5,hcz50_6,hcz50_7,hfz50_0,hfz50_1,hfz50_2,hfz50_3,hfz50_4,hfz50_5,hfz50_6,hfz50_7⟩:=blk8 BK83001.out;obtain ⟨hcz51_0,hcz51_1,hcz51_2,hfz51_0,hfz51_1,hfz51_2⟩:=blk3 BK83002.out))
 replace H:=zo H
 obtain ⟨t83003,A30,H⟩:=H
 replace H:(if a0_0=1 then ((spec_ApplyValues.f k a0_2 a1_0 a1_1 a1_2).bind fun t83004=>(some (t83003.toList == t83004.toList))) else (if a0_0=2 then ((spec_ApplyValues.f k a0_2 a1_0 a1_1 a1_2).bind fun t83005=>(some (t83003.toList != t83005.toList))) else (if a0_0=3 then ((spec_l4Match.f a0_3 a0_4 l0_5 t83003).bind fun t83006=>(some t83006)) else (if a0_0=4 then ((spec_l4Match.f a0_3 a0_4 l0_5 t83003).bind fun t83007=>(some (!t83007))) else ((spec_l9Sum.f l0_6 a1_0 a1_1 a1_2).bind fun t83008=>(some (decide (t83008≤a0_7))))))))=some r:=H
 have A3:=zk A30
 clear A30
 by_cases c4:a0_0=1
 rw [if_pos c4] at H
 have c4b0:(a0_0 == 1)=true:=beq_iff_eq.mpr c4
 have c4b1:(a0_0 != 1)=false:=bne_eq_false_iff_eq.mpr c4
 clear c4
 replace H:=zo H
 obtain ⟨t83004,A50,H⟩:=H
 replace H:(some (t83003.toList == t83004.toList))=some r:=H
 have A5:=zk A50
 clear A50
 have tag1_:=zk trivial
 rotate_left
 rw [if_neg c4] at H
 have c4b0:(a0_0 == 1)=false:=beq_eq_false_iff_ne.mpr c4
 have c4b1:(a0_0 != 1)=true:=bne_iff_ne.mpr c4
 by_cases c15:a0_0=2
 rw [if_pos c15] at H
 have c15b0:(a0_0 == 2)=true:=beq_iff_eq.mpr c15
 have c15b1:(a0_0 != 2)=false:=bne_eq_false_iff_eq.mpr c15
 clear c15
 replace H:=zo H
 obtain ⟨t83005,A160,H⟩:=H
 replace H:(some (t83003.toList != t83005.toList))=some r:=H
 have A16:=zk A160
 clear A160
 have tag0_:=zk trivial
 rotate_left
 rw [if_neg c15] at H
 have c15b0:(a0_0 == 2)=false:=beq_eq_false_iff_ne.mpr c15
 have c15b1:(a0_0 != 2)=true:=bne_iff_ne.mpr c15
 by_cases c26:a0_0=3
 rw [if_pos c26] at H
 have c26b0:(a0_0 == 3)=true:=beq_iff_eq.mpr c26
 have c26b1:(a0_0 != 3)=false:=bne_eq_false_iff_eq.mpr c26
 clear c26
 replace H:=zo H
 obtain ⟨t83006,A270,H⟩:=H
 replace H:(some t83006)=some r:=H
 have A27:=zk A270
 clear A270
 have tag0_:=zk trivial
 rotate_left
 rw [if_neg c26] at H
 have c26b0:(a0_0 == 3)=false:=beq_eq_false_iff_ne.mpr c26
 have c26b1:(a0_0 != 3)=true:=bne_iff_ne.mpr c26
 by_cases c36:a0_0=4
 rw [if_pos c36] at H
 have c36b0:(a0_0 == 4)=true:=beq_iff_eq.mpr c36
 have c36b1:(a0_0 != 4)=false:=bne_eq_false_iff_eq.mpr c36
 clear c36
 replace H:=zo H
 obtain ⟨t83007,A370,H⟩:=H
 replace H:(some (!t83007))=some r:=H
 have A37:=zk A370
 clear A370
 have tag1_:=zk trivial
 rotate_left
 · rw [if_neg c36] at H
   have c36b0:(a0_0 == 4)=false:=beq_eq_false_iff_ne.mpr c36
   have c36b1:(a0_0 != 4)=true:=bne_iff_ne.mpr c36
   replace H:=zo H
   obtain ⟨t83008,A460,H⟩:=H
   replace H:(some (decide (t83008≤a0_7)))=some r:=H
   have A46:=zk A460
   clear A460
   obtain rfl:=zi H
   go_wp2_with (first|((with_reducible refine gate_callee (f:=114) rfl ?_);refine goesL_ (some 9) rfl rfl Tryz.func114 (by kernel_rfl) rfl #[.string a0_1,.agg #[.string a1_0,.string a1_1,.string a1_2]] rfl za4 ?_;(with_reducible refine (spec_ApplyValues.calls k a0_1 a1_0 a1_1 a1_2 t83003 _ A3.out).mono ?_);rintro e w52 ⟨rfl,hb⟩;refine ⟨_,rfl,?_⟩;have n0_:=zk (zb BK83001.out hb);have n1_:=zk (zb BK83002.out hb);have n2_:=zk (below_step za3 hb);clear BK83001;clear BK83002;clear HB;have BK83001:=n0_;have BK83002:=n1_;have HB:=n2_;clear n0_ n1_ n2_;(try clear hb);(try clear hb2);(try clear hk);(try clear hi);obtain ⟨hcz53_0,hcz53_1,hcz53_2,hcz53_3,hcz53_4,hcz53_5,hcz53_6,hcz53_7,hfz53_0,hfz53_1,hfz53_2,hfz53_3,hfz53_4,hfz53_5,hfz53_6,hfz53_7⟩:=blk8 BK83001.out))
   have n0_:=zk (blk_drew BK83001.out)
   have n1_:=zk (blk_drew BK83002.out)
   have n2_:=zk (below_drew1 HB.out)
   clear BK83001
   clear BK83002
   clear HB
   have BK83001:=n0_
   have BK83002:=n1_
   have HB:=n2_
   clear n0_ n1_ n2_
   refine start_ (n:=8) (S:=fun w'=>w'.cell? ⟨gb83001,0,none⟩=some (.int .i64 a0_0)∧w'.cell? ⟨gb83001,1,none⟩=some (.string a0_1)∧w'.cell? ⟨gb83001,2,none⟩=some (.string a0_2)∧w'.cell? ⟨gb83001,3,none⟩=some (.int .i64 a0_3)∧w'.cell? ⟨gb83001,4,none⟩=some (.string a0_4)∧w'.cell? ⟨gb83001,5,none⟩=some (.slice A0_5 l0_5.length c0_5)∧w'.cell? ⟨gb83001,6,none⟩=some (.slice A0_6 l0_6.length c0_6)∧w'.cell? ⟨gb83001,7,none⟩=some (.int .i64 a0_7)∧w'.cell? ⟨gb83002,0,none⟩=some (.string a1_0)∧w'.cell? ⟨gb83002,1,none⟩=some (.string a1_1)∧w'.cell? ⟨gb83002,2,none⟩=some (.string a1_2)) (ds:=[]) #[false,false,false,false,false,false,false,false] (by kernel_rfl) rfl rfl ⟨(blk_cell BK83001.out 0).trans rfl,(blk_cell BK83001.out 1).trans rfl,(blk_cell BK83001.out 2).trans rfl,(blk_cell BK83001.out 3).trans rfl,(blk_cell BK83001.out 4).trans rfl,(blk_cell BK83001.out 5).trans rfl,(blk_cell BK83001.out 6).trans rfl,(blk_cell BK83001.out 7).trans rfl,(blk_cell BK83002.out 0).trans rfl,(blk_cell BK83002.out 1).trans rfl,(blk_cell BK83002.out 2).trans rfl⟩ (fun hHeld=>?_);refine with_tabW spec_l9Holds.tab11 spec_l9Holds.bits11 (fun HT_ HW_=>?_)
   generalize w52.drew=w54 at BK83001 BK83002 HB hHeld ⊢
   refine pure_ (i:=0) (N:=some 41) (v:=?_) (a':=?_) #[true,false,false,false,false,false,false,false] rfl rfl (any_of HT_.out (by kernel_rfl)) (fun _ _ _ h=>h) (Or.inl ⟨by rfl,?_⟩) ?_ ?_
   rotate_left
   ·intro w'
    go_simp
    exact zr1
   rotate_left
   ·simp only [Act.put,zt,zu,zv,i64_w,i32_w]
    rfl
   refine pure_ (i:=4) (N:=some 45) (v:=?_) (a':=?_) #[true,false,false,false,true,false,false,false] rfl rfl (any_of HT_.out (by kernel_rfl)) (fun _ _ _ h=>h) (Or.inl ⟨by rfl,?_⟩) ?_ ?_
   rotate_left
   ·intro w'
    go_simp
    exact zr1
   rotate_left
   ·simp only [Act.put,zt,zu,zv,i64_w,i32_w]
    rfl
   refine take_ (i:=1) (N:=some 42) (v:=?_) (a':=?_) #[true,true,false,false,true,false,false,false] rfl rfl (take_ofW HT_.out HW_.out (by kernel_rfl)) (fun _ _ _ h=>h) (Or.inl ⟨by rfl,?_⟩) hHeld ?_ ?_
   rotate_left
   ·rintro w' ⟨s0,s1,s2,s3,s4,s5,s6,s7,s8,s9,s10⟩
    go_simp
    exact zr1
   rotate_left
   ·simp only [Act.put,zt,zu,zv,i64_w,i32_w]
    rfl
   refine take_ (i:=2) (N:=some 43) (v:=?_) (a':=?_) #[true,true,true,false,true,false,false,false] rfl rfl (take_ofW HT_.out HW_.out (by kernel_rfl)) (fun _ _ _ h=>h) (Or.inl ⟨by rfl,?_⟩) hHeld ?_ ?_
   rotate_left
   ·rintro w' ⟨s0,s1,s2,s3,s4,s5,s6,s7,s8,s9,s10⟩
    go_simp
    exact zr1
   rotate_left
   ·simp only [Act.put,zt,zu,zv,i64_w,i32_w]
    rfl
   refine take_ (i:=5) (N:=some 46) (v:=?_) (a':=?_) #[true,true,true,false,true,true,false,false] rfl rfl (take_ofW HT_.out HW_.out (by kernel_rfl)) (fun _ _ _ h=>h) (Or.inl ⟨by rfl,?_⟩) hHeld ?_ ?_
   rotate_left
   ·rintro w' ⟨s0,s1,s2,s3,s4,s5,s6,s7,s8,s9,s10⟩
    go_simp
    exact zr1
   rotate_left
   ·simp only [Act.put,zt,zu,zv,i64_w,i32_w]
    rfl
   refine one_ (i:=3) (N:=some 44) #[true,true,true,true,true,true,false,false] rfl rfl (one_of HT_.out (by kernel_rfl)) (by decide) (fun K hK=>?_)
   refine goes_ Tryz.func116 (by kernel_rfl) rfl #[.slice A0_6 l0_6.length c0_6,.agg #[.string a1_0,.string a1_1,.string a1_2]] (by rfl) rfl rfl za4 ?_
   with_reducible refine (spec_l9Sum.calls _ _ l0_6 a1_0 a1_1 a1_2 t83008 _ ?side1 ?side2 A46.out).mono ?_
   (case side1=>repeat (first|exact (Kd.C_below HR0_6.out HB.out)|(with_reducible refine Kd.C_alloc ?_ _)|(with_reducible refine Kd.C_drewN ?_ _)|(with_reducible refine Kd.C_drew ?_)))
   (case side2=>exact HC0_6.out)
   rintro e w55 ⟨rfl,hb⟩
   refine ⟨_,rfl,?_⟩
   have n0_:=zk (zb BK83001.out hb)
   have n1_:=zk (zb BK83002.out hb)
   have n2_:=zk (below_step za3 hb)
   clear BK83001
   clear BK83002
   clear HB
   have BK83001:=n0_
   have BK83002:=n1_
   have HB:=n2_
   clear n0_ n1_ n2_
   (try clear hb)
   (try clear hb2)
   (try clear hk)
   (try clear hi)
   refine hK.out _ _ ⟨(blk_cell BK83001.out 0).trans rfl,(blk_cell BK83001.out 1).trans rfl,(blk_cell BK83001.out 2).trans rfl,(blk_cell BK83001.out 3).trans rfl,(blk_cell BK83001.out 4).trans rfl,(blk_cell BK83001.out 5).trans rfl,(blk_cell BK83001.out 6).trans rfl,(blk_cell BK83001.out 7).trans rfl,(blk_cell BK83002.out 0).trans rfl,(blk_cell BK83002.out 1).trans rfl,(blk_cell BK83002.out 2).trans rfl⟩ (fun hHeld=>?_)
   clear hK K
   refine norm_ (a':=?_) ?_ ?_
   rotate_left
   ·show Act.put _ (some 44) _=_
    simp only [Act.put,zt,zu,zv,i64_w,i32_w]
    rfl
   refine pure_ (i:=6) (N:=some 47) (v:=?_) (a':=?_) #[true,true,true,true,true,true,true,false] rfl rfl (any_of HT_.out (by kernel_rfl)) (fun _ _ _ h=>h) (Or.inl ⟨by rfl,?_⟩) ?_ ?_
   rotate_left
   ·intro w'
    go_simp
    exact zr1
   rotate_left
   ·simp only [Act.put,zt,zu,zv,i64_w,i32_w]
    rfl
   refine pure_ (i:=7) (N:=some 4) (v:=?_) (a':=?_) #[true,true,true,true,true,true,true,true] rfl rfl (any_of HT_.out (by kernel_rfl)) (fun _ _ _ h=>h) (Or.inl ⟨by rfl,?_⟩) ?_ ?_
   rotate_left
   ·intro w'
    go_simp
    exact zr1
   rotate_left
   ·simp only [Act.put,zt,zu,zv,i64_w,i32_w]
    rfl
   refine done_ (done_of HT_.out (by kernel_rfl)) ?_
   try go_wp2
   go_ret
   exact ⟨za6,za3⟩
 all_goals first
  | (
    clear tag0_
    obtain rfl:=zi H
    go_wp2_with (first|((with_reducible refine gate_callee (f:=114) rfl ?_);refine goesL_ (some 9) rfl rfl Tryz.func114 (by kernel_rfl) rfl #[.string a0_1,.agg #[.string a1_0,.string a1_1,.string a1_2]] rfl za4 ?_;(with_reducible refine (spec_ApplyValues.calls k a0_1 a1_0 a1_1 a1_2 t83003 _ A3.out).mono ?_);rintro e w22 ⟨rfl,hb⟩;refine ⟨_,rfl,?_⟩;have n0_:=zk (zb BK83001.out hb);have n1_:=zk (zb BK83002.out hb);have n2_:=zk (below_step za3 hb);clear BK83001;clear BK83002;clear HB;have BK83001:=n0_;have BK83002:=n1_;have HB:=n2_;clear n0_ n1_ n2_;(try clear hb);(try clear hb2);(try clear hk);(try clear hi);obtain ⟨hcz23_0,hcz23_1,hcz23_2,hcz23_3,hcz23_4,hcz23_5,hcz23_6,hcz23_7,hfz23_0,hfz23_1,hfz23_2,hfz23_3,hfz23_4,hfz23_5,hfz23_6,hfz23_7⟩:=blk8 BK83001.out;obtain ⟨hcz24_0,hcz24_1,hcz24_2,hfz24_0,hfz24_1,hfz24_2⟩:=blk3 BK83002.out)|((with_reducible refine gate_callee (f:=115) rfl ?_);refine goesL_ (some 33) rfl rfl Tryz.func115 (by kernel_rfl) rfl #[.agg #[.int .i64 a0_3,.string a0_4,.slice A0_5 l0_5.length c0_5],.string t83003] rfl za4 ?_;(with_reducible refine (spec_l4Match.calls a0_3 a0_4 _ _ l0_5 t83003 t83006 _ ?side1 ?side2 A27.out).mono ?_);(case side1=>repeat (first|exact (Kd.C_below HR0_5.out HB.out)|(with_reducible refine Kd.C_alloc ?_ _)|(with_reducible refine Kd.C_drewN ?_ _)|(with_reducible refine Kd.C_drew ?_)));(case side2=>exact HC0_5.out);rintro e w35 ⟨rfl,hb⟩;refine ⟨_,rfl,?_⟩;have n0_:=zk (zb BK83001.out hb);have n1_:=zk (zb BK83002.out hb);have n2_:=zk (below_step za3 hb);clear BK83001;clear BK83002;clear HB;have BK83001:=n0_;have BK83002:=n1_;have HB:=n2_;clear n0_ n1_ n2_;(try clear hb);(try clear hb2);(try clear hk);(try clear hi))|((with_reducible refine gate_callee (f:=114) rfl ?_);refine goesL_ (some 26) rfl rfl Tryz.func114 (by kernel_rfl) rfl #[.string a0_2,.agg #[.string a1_0,.string a1_1,.string a1_2]] rfl za4 ?_;(with_reducible refine (spec_ApplyValues.calls k a0_2 a1_0 a1_1 a1_2 t83005 _ A16.out).mono ?_);rintro e w25 ⟨rfl,hb⟩;refine ⟨_,rfl,?_⟩;have n0_:=zk (zb BK83001.out hb);have n1_:=zk (zb BK83002.out hb);have n2_:=zk (below_step za3 hb);clear BK83001;clear BK83002;clear HB;have BK83001:=n0_;have BK83002:=n1_;have HB:=n2_;clear n0_ n1_ n2_;(try clear hb);(try clear hb2);(try clear hk);(try clear hi)))
    go_ret
    exact ⟨za6,za3⟩)
  | (
    clear tag1_
    obtain rfl:=zi H
    go_wp2_with (first|((with_reducible refine gate_callee (f:=114) rfl ?_);refine goesL_ (some 9) rfl rfl Tryz.func114 (by kernel_rfl) rfl #[.string a0_1,.agg #[.string a1_0,.string a1_1,.string a1_2]] rfl za4 ?_;(with_reducible refine (spec_ApplyValues.calls k a0_1 a1_0 a1_1 a1_2 t83003 _ A3.out).mono ?_);rintro e w11 ⟨rfl,hb⟩;refine ⟨_,rfl,?_⟩;have n0_:=zk (zb BK83001.out hb);have n1_:=zk (zb BK83002.out hb);have n2_:=zk (below_step za3 hb);clear BK83001;clear BK83002;clear HB;have BK83001:=n0_;have BK83002:=n1_;have HB:=n2_;clear n0_ n1_ n2_;(try clear hb);(try clear hb2);(try clear hk);(try clear hi);obtain ⟨hcz12_0,hcz12_1,hcz12_2,hcz12_3,hcz12_4,hcz12_5,hcz12_6,hcz12_7,hfz12_0,hfz12_1,hfz12_2,hfz12_3,hfz12_4,hfz12_5,hfz12_6,hfz12_7⟩:=blk8 BK83001.out;obtain ⟨hcz13_0,hcz13_1,hcz13_2,hfz13_0,hfz13_1,hfz13_2⟩:=blk3 BK83002.out)|((with_reducible refine gate_callee (f:=115) rfl ?_);refine goesL_ (some 39) rfl rfl Tryz.func115 (by kernel_rfl) rfl #[.agg #[.int .i64 a0_3,.string a0_4,.slice A0_5 l0_5.length c0_5],.string t83003] rfl za4 ?_;(with_reducible refine (spec_l4Match.calls a0_3 a0_4 _ _ l0_5 t83003 t83007 _ ?side1 ?side2 A37.out).mono ?_);(case side1=>repeat (first|exact (Kd.C_below HR0_5.out HB.out)|(with_reducible refine Kd.C_alloc ?_ _)|(with_reducible refine Kd.C_drewN ?_ _)|(with_reducible refine Kd.C_drew ?_)));(case side2=>exact HC0_5.out);rintro e w45 ⟨rfl,hb⟩;refine ⟨_,rfl,?_⟩;have n0_:=zk (zb BK83001.out hb);have n1_:=zk (zb BK83002.out hb);have n2_:=zk (below_step za3 hb);clear BK83001;clear BK83002;clear HB;have BK83001:=n0_;have BK83002:=n1_;have HB:=n2_;clear n0_ n1_ n2_;(try clear hb);(try clear hb2);(try clear hk);(try clear hi))|((with_reducible refine gate_callee (f:=114) rfl ?_);refine goesL_ (some 18) rfl rfl Tryz.func114 (by kernel_rfl) rfl #[.string a0_2,.agg #[.string a1_0,.string a1_1,.string a1_2]] rfl za4 ?_;(with_reducible refine (spec_ApplyValues.calls k a0_2 a1_0 a1_1 a1_2 t83004 _ A5.out).mono ?_);rintro e w14 ⟨rfl,hb⟩;refine ⟨_,rfl,?_⟩;have n0_:=zk (zb BK83001.out hb);have n1_:=zk (zb BK83002.out hb);have n2_:=zk (below_step za3 hb);clear BK83001;clear BK83002;clear HB;have BK83001:=n0_;have BK83002:=n1_;have HB:=n2_;clear n0_ n1_ n2_;(try clear hb);(try clear hb2);(try clear hk);(try clear hi)))
    go_ret
    exact ⟨za6,za3⟩)
def spec_IsValidProblem.l0:Nat→Int→List (S67)→Option (Bool)
 | 0,_,_=>none
 | k+1,x3,x35002000=>if x3 < (x35002000.length:Int) then (if 0≤x3 then ((spec_IsValidConstraint.f k ((rd_T67 x35002000 x3).f0) ((rd_T67 x35002000 x3).f1) ((rd_T67 x35002000 x3).f2) ((rd_T67 x35002000 x3).f3.f0) ((rd_T67 x35002000 x3).f3.f1) ((rd_T67 x35002000 x3).f3.f2) ((rd_T67 x35002000 x3).f4) ((rd_T67 x35002000 x3).f5)).bind fun t35003=>(if t35003=true then (spec_IsValidProblem.l0 k (wrap64 (x3+1)) x35002000) else (some false))) else (none)) else (some (decide ((x35002000.length:Int)≤6)))
def spec_IsValidProblem.f (k:Nat) (l0_0:List (S67)):Option (Bool):=spec_IsValidProblem.l0 k 0 l0_0
theorem spec_IsValidProblem.mono_l:∀ k,(∀ y0 y1,LeO (spec_IsValidProblem.l0 k y0 y1) (spec_IsValidProblem.l0 (k+1) y0 y1))
 | 0=>fun _ _ r h=>by simp [spec_IsValidProblem.l0] at h
 | k+1=>by
  have ih0:=spec_IsValidProblem.mono_l k
  ·intro y0 y1
   unfold spec_IsValidProblem.l0
   repeat' first
   | with_reducible first|exact ih0 _ _|exact spec_IsValidConstraint.mono _ _ _ _ _ _ _ _ _|exact LeO.refl _|exact LeO.none _|refine LeO.ite ?_ ?_|refine LeO.bind ?_ (fun _=>?_)
theorem spec_IsValidProblem.mono:∀ a0 k,LeO (spec_IsValidProblem.f k a0) (spec_IsValidProblem.f (k+1) a0):=by
 intro a0 k
 have ih0:=spec_IsValidProblem.mono_l k
 unfold spec_IsValidProblem.f
 repeat' first
  | with_reducible first|exact ih0 _ _|exact spec_IsValidConstraint.mono _ _ _ _ _ _ _ _ _|exact LeO.refl _|exact LeO.none _|refine LeO.ite ?_ ?_|refine LeO.bind ?_ (fun _=>?_)
theorem spec_IsValidProblem.calls (k:Nat) (A0_0:Option Addr) (c0_0:Nat) (l0_0:List (S67)) (r:Bool) (w:World) (hr0_0:Kd.C k67 w A0_0 l0_0.length l0_0) (hc0_0:l0_0.length≤c0_0) (h:spec_IsValidProblem.f k l0_0=some r) :
   Calls Tryz.prog 35 #[.agg #[.slice A0_0 l0_0.length c0_0]] w fun e w'=>e = .returned (.bool r)∧Below w.heap.size w w':=by
 have hu26:=Tryz.underlying26
 have hu67:=Tryz.underlying67
 have HR0_0:=zk hr0_0
 have HC0_0:=zk hc0_0
 clear hr0_0 hc0_0
 have HB:=zk (Below.refl w.heap.size w)
 have H:(spec_IsValidProblem.l0 k 0 l0_0)=some r:=h
 clear h
 have H':=zk H
 clear H
 go_enter Tryz.func35,Tryz.ntmps35
 go_wp2_with (first|((with_reducible refine gate_dst (N:=1) rfl ?_);refine zE (N:=1) (cs:=#[.slice A0_0 l0_0.length c0_0]) (t:=26) ?_;intro gb35001 hg w2 hbox hb;have n0_:=zk (below_step za3 hb);have n1_:=zk (hbox);have n2_:=zk (zs (w:=w) hg za3);have n3_:=zk (zs (w:=w) hg za3);clear HB;have HB:=n0_;have BK35001:=n1_;have GW35001:=n2_;have GE35001:=n3_;clear n0_ n1_ n2_ n3_;clear hb hbox hg))
 first|go_loopg [3] k (fun kq v3 w'=>∃ (x3_1:Int),v3 = .int .i64 x3_1∧Aside0 (spec_IsValidProblem.l0 kq x3_1 l0_0=some r)∧Aside0 (kq≤k)∧Aside0 (w'.heap[gb35001]? = some (.cells #[(.slice A0_0 l0_0.length c0_0)] 26 (0,0)))∧Aside0 (Below w.heap.size w w'))|(simp only [Act.put,zt,zv,zu];go_loopg [3] k (fun kq v3 w'=>∃ (x3_1:Int),v3 = .int .i64 x3_1∧Aside0 (spec_IsValidProblem.l0 kq x3_1 l0_0=some r)∧Aside0 (kq≤k)∧Aside0 (w'.heap[gb35001]? = some (.cells #[(.slice A0_0 l0_0.length c0_0)] 26 (0,0)))∧Aside0 (Below w.heap.size w w')))
 case atStart=>exact ⟨(0),za7,H',⟨Nat.le_refl _⟩,⟨za1 BK35001.out⟩,⟨za3⟩⟩
 case round =>
  clear H'
  obtain ⟨x3_1,rfl,HA,HK1,BK35001,HB⟩:=hrel
  cases gk with
  | zero=>exact absurd HA.out (by simp [spec_IsValidProblem.l0])
  | succ k1 =>
   have H:=HA.out
   clear HA
   simp only [spec_IsValidProblem.l0] at H
   by_cases c3:x3_1 < (l0_0.length:Int)
   rw [if_pos c3] at H
   have c3b0:decide (x3_1 < (l0_0.length:Int))=true:=decide_eq_true c3
   clear c3
   by_cases c4:0≤x3_1
   rw [if_pos c4] at H
   have c4b0:decide (0≤x3_1)=true:=decide_eq_true c4
   clear c4
   replace H:=zo H
   obtain ⟨t35003,A50,H⟩:=H
   replace H:(if t35003=true then (spec_IsValidProblem.l0 k1 (wrap64 (x3_1+1)) l0_0) else (some false))=some r:=H
   have A5:=zk A50
   clear A50
   by_cases c6:t35003=true
   subst c6
   have H1:(spec_IsValidProblem.l0 k1 (wrap64 (x3_1+1)) l0_0)=some r:=by rw [if_pos rfl] at H;exact H
   clear H
   have H:=H1
   clear H1
   have H':=zk H
   clear H
   have fin1_:=zk trivial
   rotate_left
   replace c6:=Bool.eq_false_iff.mpr c6
   subst c6
   have H1:(some false)=some r:=by rw [if_neg (show ¬ (false=true) by decide)] at H;exact H
   clear H
   have H:=H1
   clear H1
   obtain rfl:=zi H
   have fin0_:=zk trivial
   rotate_left
   · rw [if_neg c4] at H
     exact absurd H (by simp)
   · rw [if_neg c3] at H
     have c3b0:decide (x3_1 < (l0_0.length:Int))=false:=decide_eq_false c3
     clear c3
     obtain rfl:=zi H
     obtain ⟨hcz11_0,hfz11_0⟩:=blk1 BK35001.out
     go_wp2
     go_ret
     exact ⟨za6,za3⟩
   all_goals
    obtain ⟨hcz9_0,hfz9_0⟩:=blk1 BK35001.out
    have p35002:0≤(x3_1:Int):=of_decide_eq_true za8
    have q35002:x3_1 < (l0_0.length:Int):=of_decide_eq_true za8
    obtain ⟨ad35002,A35002_5,c35002_5,A35002_6,c35002_6,e35002,hx35002_0,hx35002_1,hx35002_2,hx35002_3,hx35002_4,hx35002_5,hx35002_6,hx35002_7,hl35002_5,hi35002_5,hl35002_6,hi35002_6⟩:=at_T67 HR0_0.out x3_1 p35002 q35002
    cases e35002
    replace hx35002_0:=zx HB.out hx35002_0
    replace hx35002_1:=zx HB.out hx35002_1
    replace hx35002_2:=zx HB.out hx35002_2
    replace hx35002_3:=zx HB.out hx35002_3
    replace hx35002_4:=zx HB.out hx35002_4
    replace hx35002_5:=zx HB.out hx35002_5
    replace hx35002_6:=zx HB.out hx35002_6
    replace hx35002_7:=zx HB.out hx35002_7
    have HR35002_5:=zk hi35002_5
    have HC35002_5:=zk hl35002_5
    clear hi35002_5 hl35002_5
    have HR35002_6:=zk hi35002_6
    have HC35002_6:=zk hl35002_6
    clear hi35002_6 hl35002_6
    replace p35002:=eq_true p35002
    replace q35002:=eq_true q35002
    go_wp2_with (((with_reducible refine gate_callee (f:=69) rfl ?_);refine goesL_ (some 16) rfl rfl Tryz.func69 (by kernel_rfl) rfl #[.agg #[.int .i64 ((rd_T67 l0_0 x3_1).f0),.string ((rd_T67 l0_0 x3_1).f1),.string ((rd_T67 l0_0 x3_1).f2),.int .i64 ((rd_T67 l0_0 x3_1).f3.f0),.string ((rd_T67 l0_0 x3_1).f3.f1),.slice A35002_5 ((rd_T67 l0_0 x3_1).f3.f2).length c35002_5,.slice A35002_6 ((rd_T67 l0_0 x3_1).f4).length c35002_6,.int .i64 ((rd_T67 l0_0 x3_1).f5)]] rfl za4 ?_;(with_reducible refine (spec_IsValidConstraint.calls k1 ((rd_T67 l0_0 x3_1).f0) ((rd_T67 l0_0 x3_1).f1) ((rd_T67 l0_0 x3_1).f2) ((rd_T67 l0_0 x3_1).f3.f0) ((rd_T67 l0_0 x3_1).f3.f1) _ _ ((rd_T67 l0_0 x3_1).f3.f2) _ _ ((rd_T67 l0_0 x3_1).f4) ((rd_T67 l0_0 x3_1).f5) _ _ ?side1 ?side2 ?side3 ?side4 A5.out).mono ?_);(case side1=>repeat (first|exact (Kd.C_below HR35002_5.out HB.out)|(with_reducible refine Kd.C_alloc ?_ _)|(with_reducible refine Kd.C_drewN ?_ _)|(with_reducible refine Kd.C_drew ?_)));(case side2=>exact HC35002_5.out);(case side3=>repeat (first|exact (Kd.C_below HR35002_6.out HB.out)|(with_reducible refine Kd.C_alloc ?_ _)|(with_reducible refine Kd.C_drewN ?_ _)|(with_reducible refine Kd.C_drew ?_)));(case side4=>exact HC35002_6.out);rintro e w10 ⟨rfl,hb⟩;refine ⟨_,rfl,?_⟩;have n0_:=zk (zb BK35001.out hb);have n1_:=zk (below_step za3 hb);clear BK35001;clear HB;have BK35001:=n0_;have HB:=n1_;clear n0_ n1_;(try clear hb);(try clear hb2);(try clear hk);(try clear hi)))
    first
    | (
      clear fin0_
      go_ret
      exact ⟨za6,za3⟩)
    | (
      clear fin1_
      go_roundg k1
      case measure=>have:=HK1.out;omega
      case rel=>exact ⟨(wrap64 (x3_1+1)),za7,H',⟨za15⟩,⟨za1 BK35001.out⟩,⟨za3⟩⟩)
def spec_VarsOfProblem.l0:Nat→ByteArray→Int→List (S67)→Option (ByteArray)
 | 0,_,_,_=>none
 | k+1,x3,x4,x39002000=>if x4 < (x39002000.length:Int) then ((spec_IsValidProblem.f k x39002000).bind fun t39002=>(if t39002=true then (if 0≤x4 then ((spec_VarsOfConstraint.f k ((rd_T67 x39002000 x4).f0) ((rd_T67 x39002000 x4).f1) ((rd_T67 x39002000 x4).f2) ((rd_T67 x39002000 x4).f3.f0) ((rd_T67 x39002000 x4).f3.f1) ((rd_T67 x39002000 x4).f3.f2) ((rd_T67 x39002000 x4).f4) ((rd_T67 x39002000 x4).f5)).bind fun t39004=>(if x3.size+t39004.size≤9223372036854775807 then (spec_VarsOfProblem.l0 k (x3 ++ t39004) (wrap64 (x4+1)) x39002000) else (none))) else (none)) else ((spec_VarsOf.f k x3).bind fun t39005=>(some t39005)))) else ((spec_VarsOf.f k x3).bind fun t39006=>(some t39006))
def spec_VarsOfProblem.f (k:Nat) (l0_0:List (S67)):Option (ByteArray):=spec_VarsOfProblem.l0 k (⟨#[]⟩:ByteArray) 0 l0_0
theorem spec_VarsOfProblem.mono_l:∀ k,(∀ y0 y1 y2,LeO (spec_VarsOfProblem.l0 k y0 y1 y2) (spec_VarsOfProblem.l0 (k+1) y0 y1 y2))
 | 0=>fun _ _ _ r h=>by simp [spec_VarsOfProblem.l0] at h
 | k+1=>by
  have ih0:=spec_VarsOfProblem.mono_l k
  ·intro y0 y1 y2
   unfold spec_VarsOfProblem.l0
   repeat' first
   | with_reducible first|exact ih0 _ _ _|exact spec_IsValidProblem.mono _ _|exact spec_VarsOf.mono _ _|exact spec_VarsOfConstraint.mono _ _ _ _ _ _ _ _ _|exact LeO.refl _|exact LeO.none _|refine LeO.ite ?_ ?_|refine LeO.bind ?_ (fun _=>?_)
theorem spec_VarsOfProblem.mono:∀ a0 k,LeO (spec_VarsOfProblem.f k a0) (spec_VarsOfProblem.f (k+1) a0):=by
 intro a0 k
 have ih0:=spec_VarsOfProblem.mono_l k
 unfold spec_VarsOfProblem.f
 repeat' first
  | with_reducible first|exact ih0 _ _ _|exact spec_IsValidProblem.mono _ _|exact spec_VarsOf.mono _ _|exact spec_VarsOfConstraint.mono _ _ _ _ _ _ _ _ _|exact LeO.refl _|exact LeO.none _|refine LeO.ite ?_ ?_|refine LeO.bind ?_ (fun _=>?_)
theorem spec_VarsOfProblem.calls (k:Nat) (A0_0:Option Addr) (c0_0:Nat) (l0_0:List (S67)) (r:ByteArray) (w:World) (hr0_0:Kd.C k67 w A0_0 l0_0.length l0_0) (hc0_0:l0_0.length≤c0_0) (h:spec_VarsOfProblem.f k l0_0=some r) :
   Calls Tryz.prog 39 #[.agg #[.slice A0_0 l0_0.length c0_0]] w fun e w'=>e = .returned (.string r)∧Below w.heap.size w w':=by
 have hu26:=Tryz.underlying26
 have hu67:=Tryz.underlying67
 have HR0_0:=zk hr0_0
 have HC0_0:=zk hc0_0
 clear hr0_0 hc0_0
 have HB:=zk (Below.refl w.heap.size w)
 have H:(spec_VarsOfProblem.l0 k (⟨#[]⟩:ByteArray) 0 l0_0)=some r:=h
 clear h
 have H':=zk H
 clear H
 go_enter Tryz.func39,Tryz.ntmps39
 go_wp2_with (first|((with_reducible refine gate_dst (N:=1) rfl ?_);refine zE (N:=1) (cs:=#[.slice A0_0 l0_0.length c0_0]) (t:=26) ?_;intro gb39001 hg w2 hbox hb;have n0_:=zk (below_step za3 hb);have n1_:=zk (hbox);have n2_:=zk (zs (w:=w) hg za3);have n3_:=zk (zs (w:=w) hg za3);clear HB;have HB:=n0_;have BK39001:=n1_;have GW39001:=n2_;have GE39001:=n3_;clear n0_ n1_ n2_ n3_;clear hb hbox hg))
 first|go_loopg [3,4] k (fun kq v3 v4 w'=>∃ (x3_1:ByteArray) (x4_1:Int),v3 = .string x3_1∧v4 = .int .i64 x4_1∧Aside0 (spec_VarsOfProblem.l0 kq x3_1 x4_1 l0_0=some r)∧Aside0 (kq≤k)∧Aside0 (w'.heap[gb39001]? = some (.cells #[(.slice A0_0 l0_0.length c0_0)] 26 (0,0)))∧Aside0 (Below w.heap.size w w'))|(simp only [Act.put,zt,zv,zu];go_loopg [3,4] k (fun kq v3 v4 w'=>∃ (x3_1:ByteArray) (x4_1:Int),v3 = .string x3_1∧v4 = .int .i64 x4_1∧Aside0 (spec_VarsOfProblem.l0 kq x3_1 x4_1 l0_0=some r)∧Aside0 (kq≤k)∧Aside0 (w'.heap[gb39001]? = some (.cells #[(.slice A0_0 l0_0.length c0_0)] 26 (0,0)))∧Aside0 (Below w.heap.size w w')))
 case atStart=>exact ⟨((⟨#[]⟩:ByteArray)),(0),za7,za7,H',⟨Nat.le_refl _⟩,⟨za1 BK39001.out⟩,⟨za3⟩⟩
 case round =>
  clear H'
  obtain ⟨x3_1,x4_1,rfl,rfl,HA,HK1,BK39001,HB⟩:=hrel
  cases gk with
  | zero=>exact absurd HA.out (by simp [spec_VarsOfProblem.l0])
  | succ k1 =>
   have H:=HA.out
   clear HA
   simp only [spec_VarsOfProblem.l0] at H
   by_cases c3:x4_1 < (l0_0.length:Int)
   rw [if_pos c3] at H
   have c3b0:decide (x4_1 < (l0_0.length:Int))=true:=decide_eq_true c3
   clear c3
   replace H:=zo H
   obtain ⟨t39002,A40,H⟩:=H
   replace H:(if t39002=true then (if 0≤x4_1 then ((spec_VarsOfConstraint.f k1 ((rd_T67 l0_0 x4_1).f0) ((rd_T67 l0_0 x4_1).f1) ((rd_T67 l0_0 x4_1).f2) ((rd_T67 l0_0 x4_1).f3.f0) ((rd_T67 l0_0 x4_1).f3.f1) ((rd_T67 l0_0 x4_1).f3.f2) ((rd_T67 l0_0 x4_1).f4) ((rd_T67 l0_0 x4_1).f5)).bind fun t39004=>(if x3_1.size+t39004.size≤9223372036854775807 then (spec_VarsOfProblem.l0 k1 (x3_1 ++ t39004) (wrap64 (x4_1+1)) l0_0) else (none))) else (none)) else ((spec_VarsOf.f k1 x3_1).bind fun t39005=>(some t39005)))=some r:=H
   have A4:=zk A40
   clear A40
   by_cases c5:t39002=true
   subst c5
   have H1:(if 0≤x4_1 then ((spec_VarsOfConstraint.f k1 ((rd_T67 l0_0 x4_1).f0) ((rd_T67 l0_0 x4_1).f1) ((rd_T67 l0_0 x4_1).f2) ((rd_T67 l0_0 x4_1).f3.f0) ((rd_T67 l0_0 x4_1).f3.f1) ((rd_T67 l0_0 x4_1).f3.f2) ((rd_T67 l0_0 x4_1).f4) ((rd_T67 l0_0 x4_1).f5)).bind fun t39004=>(if x3_1.size+t39004.size≤9223372036854775807 then (spec_VarsOfProblem.l0 k1 (x3_1 ++ t39004) (wrap64 (x4_1+1)) l0_0) else (none))) else (none))=some r:=by rw [if_pos rfl] at H;exact H
   clear H
   have H:=H1
   clear H1
   by_cases c6:0≤x4_1
   rw [if_pos c6] at H
   have c6b0:decide (0≤x4_1)=true:=decide_eq_true c6
   clear c6
   replace H:=zo H
   obtain ⟨t39004,A70,H⟩:=H
   replace H:(if x3_1.size+t39004.size≤9223372036854775807 then (spec_VarsOfProblem.l0 k1 (x3_1 ++ t39004) (wrap64 (x4_1+1)) l0_0) else (none))=some r:=H
   have A7:=zk A70
   clear A70
   by_cases c8:x3_1.size+t39004.size≤9223372036854775807
   rw [if_pos c8] at H
   have c8z:=c8
   try simp at c8z
   try replace c8z:=eq_false (Nat.not_lt.2 c8z)
   have c8b0:=eq_true c8
   have c8b1:decide (x3_1.size+t39004.size≤9223372036854775807)=true:=decide_eq_true c8
   try have c8b2:(9223372036854775807 < x3_1.size+t39004.size)=False:=eq_false (Nat.not_lt.2 c8)
   have H':=zk H
   clear H
   have fin0_:=zk trivial
   rotate_left
   · rw [if_neg c8] at H
     exact absurd H (by simp)
   · rw [if_neg c6] at H
     exact absurd H (by simp)
   · replace c5:=Bool.eq_false_iff.mpr c5
     subst c5
     have H1:((spec_VarsOf.f k1 x3_1).bind fun t39005=>(some t39005))=some r:=by rw [if_neg (show ¬ (false=true) by decide)] at H;exact H
     clear H
     have H:=H1
     clear H1
     replace H:=zo H
     obtain ⟨t39005,A130,H⟩:=H
     replace H:(some t39005)=some r:=H
     have A13:=zk A130
     clear A130
     obtain rfl:=zi H
     obtain ⟨hcz14_0,hfz14_0⟩:=blk1 BK39001.out
     go_wp2_with (first|(go_at_call 35;(with_reducible refine (spec_IsValidProblem.calls k1 _ _ l0_0 _ _ ?side1 ?side2 A4.out).mono ?_);(case side1=>repeat (first|exact (Kd.C_below HR0_0.out HB.out)|(with_reducible refine Kd.C_alloc ?_ _)|(with_reducible refine Kd.C_drewN ?_ _)|(with_reducible refine Kd.C_drew ?_)));(case side2=>exact HC0_0.out);rintro e w15 ⟨rfl,hb⟩;have n0_:=zk (zb BK39001.out hb);have n1_:=zk (below_step za3 hb);clear BK39001;clear HB;have BK39001:=n0_;have HB:=n1_;clear n0_ n1_;(try clear hb);(try clear hb2);(try clear hk);(try clear hi))|((with_reducible refine gate_callee (f:=73) rfl ?_);refine goesL_ (some 25) rfl rfl Tryz.func73 (by kernel_rfl) rfl #[.string x3_1] rfl za4 ?_;(with_reducible refine (spec_VarsOf.calls k1 x3_1 t39005 _ A13.out).mono ?_);rintro e w' ⟨rfl,⟨nd,rfl⟩⟩;refine ⟨_,rfl,?_⟩))
     go_ret
     exact ⟨za6,za3⟩
   rw [if_neg c3] at H
   have c3b0:decide (x4_1 < (l0_0.length:Int))=false:=decide_eq_false c3
   clear c3
   replace H:=zo H
   obtain ⟨t39006,A160,H⟩:=H
   replace H:(some t39006)=some r:=H
   have A16:=zk A160
   clear A160
   obtain rfl:=zi H
   have fin1_:=zk trivial
   rotate_left
   all_goals
    obtain ⟨hcz9_0,hfz9_0⟩:=blk1 BK39001.out
    go_wp2_with (first|(go_at_call 35;(with_reducible refine (spec_IsValidProblem.calls k1 _ _ l0_0 _ _ ?side1 ?side2 A4.out).mono ?_);(case side1=>repeat (first|exact (Kd.C_below HR0_0.out HB.out)|(with_reducible refine Kd.C_alloc ?_ _)|(with_reducible refine Kd.C_drewN ?_ _)|(with_reducible refine Kd.C_drew ?_)));(case side2=>exact HC0_0.out);rintro e w10 ⟨rfl,hb⟩;have n0_:=zk (zb BK39001.out hb);have n1_:=zk (below_step za3 hb);clear BK39001;clear HB;have BK39001:=n0_;have HB:=n1_;clear n0_ n1_;(try clear hb);(try clear hb2);(try clear hk);(try clear hi);obtain ⟨hcz11_0,hfz11_0⟩:=blk1 BK39001.out;have p39003:0≤(x4_1:Int):=of_decide_eq_true za8;have q39003:x4_1 < (l0_0.length:Int):=of_decide_eq_true za8;obtain ⟨ad39003,A39003_5,c39003_5,A39003_6,c39003_6,e39003,hx39003_0,hx39003_1,hx39003_2,hx39003_3,hx39003_4,hx39003_5,hx39003_6,hx39003_7,hl39003_5,hi39003_5,hl39003_6,hi39003_6⟩:=at_T67 HR0_0.out x4_1 p39003 q39003;cases e39003;replace hx39003_0:=zx HB.out hx39003_0;replace hx39003_1:=zx HB.out hx39003_1;replace hx39003_2:=zx HB.out hx39003_2;replace hx39003_3:=zx HB.out hx39003_3;replace hx39003_4:=zx HB.out hx39003_4;replace hx39003_5:=zx HB.out hx39003_5;replace hx39003_6:=zx HB.out hx39003_6;replace hx39003_7:=zx HB.out hx39003_7;have HR39003_5:=zk hi39003_5;have HC39003_5:=zk hl39003_5;clear hi39003_5 hl39003_5;have HR39003_6:=zk hi39003_6;have HC39003_6:=zk hl39003_6;clear hi39003_6 hl39003_6;replace p39003:=eq_true p39003;replace q39003:=eq_true q39003)|((with_reducible refine gate_callee (f:=72) rfl ?_);refine goesL_ (some 22) rfl rfl Tryz.func72 (by kernel_rfl) rfl #[.agg #[.int .i64 ((rd_T67 l0_0 x4_1).f0),.string ((rd_T67 l0_0 x4_1).f1),.string ((rd_T67 l0_0 x4_1).f2),.int .i64 ((rd_T67 l0_0 x4_1).f3.f0),.string ((rd_T67 l0_0 x4_1).f3.f1),.slice A39003_5 ((rd_T67 l0_0 x4_1).f3.f2).length c39003_5,.slice A39003_6 ((rd_T67 l0_0 x4_1).f4).length c39003_6,.int .i64 ((rd_T67 l0_0 x4_1).f5)]] rfl za4 ?_;(with_reducible refine (spec_VarsOfConstraint.calls k1 ((rd_T67 l0_0 x4_1).f0) ((rd_T67 l0_0 x4_1).f1) ((rd_T67 l0_0 x4_1).f2) ((rd_T67 l0_0 x4_1).f3.f0) ((rd_T67 l0_0 x4_1).f3.f1) _ _ ((rd_T67 l0_0 x4_1).f3.f2) _ _ ((rd_T67 l0_0 x4_1).f4) ((rd_T67 l0_0 x4_1).f5) t39004 _ ?side1 ?side2 ?side3 ?side4 A7.out).mono ?_);(case side1=>repeat (first|exact (Kd.C_below HR39003_5.out HB.out)|(with_reducible refine Kd.C_alloc ?_ _)|(with_reducible refine Kd.C_drewN ?_ _)|(with_reducible refine Kd.C_drew ?_)));(case side2=>exact HC39003_5.out);(case side3=>repeat (first|exact (Kd.C_below HR39003_6.out HB.out)|(with_reducible refine Kd.C_alloc ?_ _)|(with_reducible refine Kd.C_drewN ?_ _)|(with_reducible refine Kd.C_drew ?_)));(case side4=>exact HC39003_6.out);rintro e w12 ⟨rfl,hb⟩;refine ⟨_,rfl,?_⟩;have n0_:=zk (zb BK39001.out hb);have n1_:=zk (below_step za3 hb);clear BK39001;clear HB;have BK39001:=n0_;have HB:=n1_;clear n0_ n1_;(try clear hb);(try clear hb2);(try clear hk);(try clear hi))|((with_reducible refine gate_callee (f:=73) rfl ?_);refine goesL_ (some 25) rfl rfl Tryz.func73 (by kernel_rfl) rfl #[.string x3_1] rfl za4 ?_;(with_reducible refine (spec_VarsOf.calls k1 x3_1 t39006 _ A16.out).mono ?_);rintro e w' ⟨rfl,⟨nd,rfl⟩⟩;refine ⟨_,rfl,?_⟩))
    first
    | (
      clear fin0_
      go_roundg k1
      case measure=>have:=HK1.out;omega
      case rel=>exact ⟨(x3_1 ++ t39004),(wrap64 (x4_1+1)),za7,za7,H',⟨za15⟩,⟨za1 BK39001.out⟩,⟨za3⟩⟩)
    | (
      clear fin1_
      go_ret
      exact ⟨za6,za3⟩)
def spec_BoundOf.j0:Nat→Int→Bool→Option (Int)
 | 0,_,_=>none
 | k+1,x8,x9=>if x9=true then (some 5) else (if x8=2 then (some 3) else (some 2))
def spec_BoundOf.f (k:Nat) (l0_0:List (S67)):Option (Int):=(spec_IsValidProblem.f k l0_0).bind fun t14002=>(if t14002=true then ((spec_VarsOfProblem.f k l0_0).bind fun t14003=>(if (t14003.size:Int)=0 then (spec_BoundOf.j0 k (t14003.size:Int) ((t14003.size:Int) == 0)) else (spec_BoundOf.j0 k (t14003.size:Int) ((t14003.size:Int) == 1)))) else (some (-1)))
theorem spec_BoundOf.mono_l:∀ k,(∀ y0 y1,LeO (spec_BoundOf.j0 k y0 y1) (spec_BoundOf.j0 (k+1) y0 y1))
 | 0=>fun _ _ r h=>by simp [spec_BoundOf.j0] at h
 | k+1=>by
  have ih0:=spec_BoundOf.mono_l k
  ·intro y0 y1
   unfold spec_BoundOf.j0
   repeat' first
   | with_reducible first|exact ih0 _ _|exact spec_IsValidProblem.mono _ _|exact spec_VarsOfProblem.mono _ _|exact LeO.refl _|exact LeO.none _|refine LeO.ite ?_ ?_|refine LeO.bind ?_ (fun _=>?_)
theorem spec_BoundOf.mono:∀ a0 k,LeO (spec_BoundOf.f k a0) (spec_BoundOf.f (k+1) a0):=by
 intro a0 k
 have ih0:=spec_BoundOf.mono_l k
 unfold spec_BoundOf.f
 repeat' first
  | with_reducible first|exact ih0 _ _|exact spec_IsValidProblem.mono _ _|exact spec_VarsOfProblem.mono _ _|exact LeO.refl _|exact LeO.none _|refine LeO.ite ?_ ?_|refine LeO.bind ?_ (fun _=>?_)
theorem spec_BoundOf.calls (k:Nat) (A0_0:Option Addr) (c0_0:Nat) (l0_0:List (S67)) (r:Int) (w:World) (hr0_0:Kd.C k67 w A0_0 l0_0.length l0_0) (hc0_0:l0_0.length≤c0_0) (h:spec_BoundOf.f k l0_0=some r) :
  Calls Tryz.prog 14 #[.agg #[.slice A0_0 l0_0.length c0_0]] w fun e w'=>e = .returned (.int .i64 r)∧Below w.heap.size w w':=by
 have hu26:=Tryz.underlying26
 have HR0_0:=zk hr0_0
 have HC0_0:=zk hc0_0
 clear hr0_0 hc0_0
 have HB:=zk (Below.refl w.heap.size w)
 have H:((spec_IsValidProblem.f k l0_0).bind fun t14002=>(if t14002=true then ((spec_VarsOfProblem.f k l0_0).bind fun t14003=>(if (t14003.size:Int)=0 then (spec_BoundOf.j0 k (t14003.size:Int) ((t14003.size:Int) == 0)) else (spec_BoundOf.j0 k (t14003.size:Int) ((t14003.size:Int) == 1)))) else (some (-1))))=some r:=h
 clear h
 replace H:=zo H
 obtain ⟨t14002,A20,H⟩:=H
 replace H:(if t14002=true then ((spec_VarsOfProblem.f k l0_0).bind fun t14003=>(if (t14003.size:Int)=0 then (spec_BoundOf.j0 k (t14003.size:Int) ((t14003.size:Int) == 0)) else (spec_BoundOf.j0 k (t14003.size:Int) ((t14003.size:Int) == 1)))) else (some (-1)))=some r:=H
 have A2:=zk A20
 clear A20
 by_cases c3:t14002=true
 ·subst c3
  have H1:((spec_VarsOfProblem.f k l0_0).bind fun t14003=>(if (t14003.size:Int)=0 then (spec_BoundOf.j0 k (t14003.size:Int) ((t14003.size:Int) == 0)) else (spec_BoundOf.j0 k (t14003.size:Int) ((t14003.size:Int) == 1))))=some r:=by rw [if_pos rfl] at H;exact H
  clear H
  have H:=H1
  clear H1
  replace H:=zo H
  obtain ⟨t14003,A40,H⟩:=H
  replace H:(if (t14003.size:Int)=0 then (spec_BoundOf.j0 k (t14003.size:Int) ((t14003.size:Int) == 0)) else (spec_BoundOf.j0 k (t14003.size:Int) ((t14003.size:Int) == 1)))=some r:=H
  have A4:=zk A40
  clear A40
  have HC5:=zk H
  clear H
  go_enter Tryz.func14,Tryz.ntmps14
  go_upto_if 9 with (first|((with_reducible refine gate_dst (N:=1) rfl ?_);refine zE (N:=1) (cs:=#[.slice A0_0 l0_0.length c0_0]) (t:=26) ?_;intro gb14001 hg w6 hbox hb;have n0_:=zk (below_step za3 hb);have n1_:=zk (hbox);have n2_:=zk (zs (w:=w) hg za3);have n3_:=zk (zs (w:=w) hg za3);clear HB;have HB:=n0_;have BK14001:=n1_;have GW14001:=n2_;have GE14001:=n3_;clear n0_ n1_ n2_ n3_;clear hb hbox hg;obtain ⟨hcz7_0,hfz7_0⟩:=blk1 BK14001.out)|((with_reducible refine gate_callee (f:=35) rfl ?_);refine goesL_ (some 4) rfl rfl Tryz.func35 (by kernel_rfl) rfl #[.agg #[.slice A0_0 l0_0.length c0_0]] rfl za4 ?_;(with_reducible refine (spec_IsValidProblem.calls k _ _ l0_0 _ _ ?side1 ?side2 A2.out).mono ?_);(case side1=>repeat (first|exact (Kd.C_below HR0_0.out HB.out)|(with_reducible refine Kd.C_alloc ?_ _)|(with_reducible refine Kd.C_drewN ?_ _)|(with_reducible refine Kd.C_drew ?_)));(case side2=>exact HC0_0.out);rintro e w8 ⟨rfl,hb⟩;refine ⟨_,rfl,?_⟩;have n0_:=zk (zb BK14001.out hb);have n1_:=zk (below_step za3 hb);clear BK14001;clear HB;have BK14001:=n0_;have HB:=n1_;clear n0_ n1_;(try clear hb);(try clear hb2);(try clear hk);(try clear hi);obtain ⟨hcz9_0,hfz9_0⟩:=blk1 BK14001.out)|((with_reducible refine gate_callee (f:=39) rfl ?_);refine goesL_ (some 7) rfl rfl Tryz.func39 (by kernel_rfl) rfl #[.agg #[.slice A0_0 l0_0.length c0_0]] rfl za4 ?_;(with_reducible refine (spec_VarsOfProblem.calls k _ _ l0_0 t14003 _ ?side1 ?side2 A4.out).mono ?_);(case side1=>repeat (first|exact (Kd.C_below HR0_0.out HB.out)|(with_reducible refine Kd.C_alloc ?_ _)|(with_reducible refine Kd.C_drewN ?_ _)|(with_reducible refine Kd.C_drew ?_)));(case side2=>exact HC0_0.out);rintro e w10 ⟨rfl,hb⟩;refine ⟨_,rfl,?_⟩;have n0_:=zk (zb BK14001.out hb);have n1_:=zk (below_step za3 hb);clear BK14001;clear HB;have BK14001:=n0_;have HB:=n1_;clear n0_ n1_;(try clear hb);(try clear hb2);(try clear hk);(try clear hi)))
  (try simp only [Act.put,zt,zu,zv])
  go_cut [9] (fun v9 wc=>∃ (kq:Nat) (x9_4:Bool),v9 = .bool x9_4∧Aside0 (spec_BoundOf.j0 kq (t14003.size:Int) x9_4=some r)∧Aside0 (kq≤k)∧Aside0 (wc.heap[gb14001]? = some (.cells #[(.slice A0_0 l0_0.length c0_0)] 26 (0,0)))∧Aside0 (Below w.heap.size w wc))
  case first =>
   have H:=HC5.out
   clear HC5
   by_cases c11:(t14003.size:Int)=0
   · rw [if_pos c11] at H
     have c11b0:((t14003.size:Int) == 0)=true:=beq_iff_eq.mpr c11
     have c11b1:((t14003.size:Int) != 0)=false:=bne_eq_false_iff_eq.mpr c11
     clear c11
     (first|rw [c11b0]|(simp only [i64_w,i32_w];rw [c11b0])|skip)
     have H':=zk H
     clear H
     go_wp2
     go_meet
     case rel=>exact ⟨_,(((t14003.size:Int) == 0)),za7,H',⟨za23⟩,⟨za1 BK14001.out⟩,⟨za3⟩⟩
   · rw [if_neg c11] at H
     have c11b0:((t14003.size:Int) == 0)=false:=beq_eq_false_iff_ne.mpr c11
     have c11b1:((t14003.size:Int) != 0)=true:=bne_iff_ne.mpr c11
     (first|rw [c11b0]|(simp only [i64_w,i32_w];rw [c11b0])|skip)
     have H':=zk H
     clear H
     go_wp2
     go_meet
     case rel=>exact ⟨_,(((t14003.size:Int) == 1)),za7,H',⟨za23⟩,⟨za1 BK14001.out⟩,⟨za3⟩⟩
  case rest =>
   clear HC5
   try clear c3
   try clear hcz7_0
   try clear hcz9_0
   try clear hfz7_0
   try clear hfz9_0
   obtain ⟨kq,x9_4,rfl,HA,HJ4,BK14001,HB⟩:=hcut
   cases kq with
   | zero=>exact absurd HA.out (by simp [spec_BoundOf.j0])
   | succ kj4 =>
    have H:=HA.out
    clear HA
    simp only [spec_BoundOf.j0] at H
    by_cases c12:x9_4=true
    subst c12
    have H1:(some 5)=some r:=by rw [if_pos rfl] at H;exact H
    clear H
    have H:=H1
    clear H1
    rotate_left
    replace c12:=Bool.eq_false_iff.mpr c12
    subst c12
    have H1:(if (t14003.size:Int)=2 then (some 3) else (some 2))=some r:=by rw [if_neg (show ¬ (false=true) by decide)] at H;exact H
    clear H
    have H:=H1
    clear H1
    by_cases c13:(t14003.size:Int)=2
    rw [if_pos c13] at H
    have c13b0:((t14003.size:Int) == 2)=true:=beq_iff_eq.mpr c13
    have c13b1:((t14003.size:Int) != 2)=false:=bne_eq_false_iff_eq.mpr c13
    clear c13
    rotate_left
    rw [if_neg c13] at H
    have c13b0:((t14003.size:Int) == 2)=false:=beq_eq_false_iff_ne.mpr c13
    have c13b1:((t14003.size:Int) != 2)=true:=bne_iff_ne.mpr c13
    rotate_left
    all_goals
     obtain rfl:=zi H
     go_wp2
     go_ret
     exact ⟨za6,za3⟩
 ·replace c3:=Bool.eq_false_iff.mpr c3
  subst c3
  have H1:(some (-1))=some r:=by rw [if_neg (show ¬ (false=true) by decide)] at H;exact H
  clear H
  have H:=H1
  clear H1
  obtain rfl:=zi H
  go_enter Tryz.func14,Tryz.ntmps14
  go_wp2_with (first|((with_reducible refine gate_dst (N:=1) rfl ?_);refine zE (N:=1) (cs:=#[.slice A0_0 l0_0.length c0_0]) (t:=26) ?_;intro gb14001 hg w14 hbox hb;have n0_:=zk (below_step za3 hb);have n1_:=zk (hbox);have n2_:=zk (zs (w:=w) hg za3);have n3_:=zk (zs (w:=w) hg za3);clear HB;have HB:=n0_;have BK14001:=n1_;have GW14001:=n2_;have GE14001:=n3_;clear n0_ n1_ n2_ n3_;clear hb hbox hg;obtain ⟨hcz15_0,hfz15_0⟩:=blk1 BK14001.out)|((with_reducible refine gate_callee (f:=35) rfl ?_);refine goesL_ (some 4) rfl rfl Tryz.func35 (by kernel_rfl) rfl #[.agg #[.slice A0_0 l0_0.length c0_0]] rfl za4 ?_;(with_reducible refine (spec_IsValidProblem.calls k _ _ l0_0 _ _ ?side1 ?side2 A2.out).mono ?_);(case side1=>repeat (first|exact (Kd.C_below HR0_0.out HB.out)|(with_reducible refine Kd.C_alloc ?_ _)|(with_reducible refine Kd.C_drewN ?_ _)|(with_reducible refine Kd.C_drew ?_)));(case side2=>exact HC0_0.out);rintro e w16 ⟨rfl,hb⟩;refine ⟨_,rfl,?_⟩;have n0_:=zk (zb BK14001.out hb);have n1_:=zk (below_step za3 hb);clear BK14001;clear HB;have BK14001:=n0_;have HB:=n1_;clear n0_ n1_;(try clear hb);(try clear hb2);(try clear hk);(try clear hi)))
  go_ret
  exact ⟨za6,za3⟩
def spec_l11Keeps.l0:Nat→Int→List (S67)→ByteArray→ByteArray→ByteArray→Option (Bool)
 | 0,_,_,_,_,_=>none
 | k+1,x5,x71002000,x71003000,x71003001,x71003002=>if x5 < (x71002000.length:Int) then (if 0≤x5 then ((spec_l9Holds.f k ((rd_T67 x71002000 x5).f0) ((rd_T67 x71002000 x5).f1) ((rd_T67 x71002000 x5).f2) ((rd_T67 x71002000 x5).f3.f0) ((rd_T67 x71002000 x5).f3.f1) ((rd_T67 x71002000 x5).f3.f2) ((rd_T67 x71002000 x5).f4) ((rd_T67 x71002000 x5).f5) x71003000 x71003001 x71003002).bind fun t71004=>(if t71004=true then (spec_l11Keeps.l0 k (wrap64 (x5+1)) x71002000 x71003000 x71003001 x71003002) else (some false))) else (none)) else (some true)
def spec_l11Keeps.f (k:Nat) (l0_0:List (S67)) (a1_0:ByteArray) (a1_1:ByteArray) (a1_2:ByteArray):Option (Bool):=spec_l11Keeps.l0 k 0 l0_0 a1_0 a1_1 a1_2
theorem spec_l11Keeps.mono_l:∀ k,(∀ y0 y1 y2 y3 y4,LeO (spec_l11Keeps.l0 k y0 y1 y2 y3 y4) (spec_l11Keeps.l0 (k+1) y0 y1 y2 y3 y4))
 | 0=>fun _ _ _ _ _ r h=>by simp [spec_l11Keeps.l0] at h
 | k+1=>by
  have ih0:=spec_l11Keeps.mono_l k
  ·intro y0 y1 y2 y3 y4
   unfold spec_l11Keeps.l0
   repeat' first
   | with_reducible first|exact ih0 _ _ _ _ _|exact spec_l9Holds.mono _ _ _ _ _ _ _ _ _ _ _ _|exact LeO.refl _|exact LeO.none _|refine LeO.ite ?_ ?_|refine LeO.bind ?_ (fun _=>?_)
theorem spec_l11Keeps.mono:∀ a0 a1 a2 a3 k,LeO (spec_l11Keeps.f k a0 a1 a2 a3) (spec_l11Keeps.f (k+1) a0 a1 a2 a3):=by
 intro a0 a1 a2 a3 k
 have ih0:=spec_l11Keeps.mono_l k
 unfold spec_l11Keeps.f
 repeat' first
  | with_reducible first|exact ih0 _ _ _ _ _|exact spec_l9Holds.mono _ _ _ _ _ _ _ _ _ _ _ _|exact LeO.refl _|exact LeO.none _|refine LeO.ite ?_ ?_|refine LeO.bind ?_ (fun _=>?_)
def spec_l11Keeps.T4:Bool × List (List Nat × List Nat):=(true,[([],[]),([0],[0]),([],[]),([1,2],[1,2]),([3],[3]),([],[]),([4,5],[4,5]),([6],[6])])
def spec_l11Keeps.B4:List Nat:=[0,1,0,7,15,0,63,127]
theorem spec_l11Keeps.tab4:rtab .any (opsOf Tryz.f71 4)=spec_l11Keeps.T4:=by kernel_rfl
theorem spec_l11Keeps.bits4:waitsOk spec_l11Keeps.T4.2 spec_l11Keeps.B4=true:=by kernel_rfl
theorem spec_l11Keeps.calls (k:Nat) (A0_0:Option Addr) (c0_0:Nat) (l0_0:List (S67)) (a1_0:ByteArray) (a1_1:ByteArray) (a1_2:ByteArray) (r:Bool) (w:World) (hr0_0:Kd.C k67 w A0_0 l0_0.length l0_0) (hc0_0:l0_0.length≤c0_0) (h:spec_l11Keeps.f k l0_0 a1_0 a1_1 a1_2=some r) :
   Calls Tryz.prog 71 #[.agg #[.slice A0_0 l0_0.length c0_0],.agg #[.string a1_0,.string a1_1,.string a1_2]] w fun e w'=>e = .returned (.bool r)∧Below w.heap.size w w':=by
 have hu26:=Tryz.underlying26
 have hu32:=Tryz.underlying32
 have hu67:=Tryz.underlying67
 have HR0_0:=zk hr0_0
 have HC0_0:=zk hc0_0
 clear hr0_0 hc0_0
 have HB:=zk (Below.refl w.heap.size w)
 have H:(spec_l11Keeps.l0 k 0 l0_0 a1_0 a1_1 a1_2)=some r:=h
 clear h
 have H':=zk H
 clear H
 go_enter Tryz.func71,Tryz.ntmps71
 go_wp2_with (first|((with_reducible refine gate_dst (N:=2) rfl ?_);refine zE (N:=2) (cs:=#[.slice A0_0 l0_0.length c0_0]) (t:=26) ?_;intro gb71001 hg w3 hbox hb;have n0_:=zk (below_step za3 hb);have n1_:=zk (hbox);have n2_:=zk (zs (w:=w) hg za3);have n3_:=zk (zs (w:=w) hg za3);clear HB;have HB:=n0_;have BK71001:=n1_;have GW71001:=n2_;have GE71001:=n3_;clear n0_ n1_ n2_ n3_;clear hb hbox hg)|((with_reducible refine gate_dst (N:=3) rfl ?_);refine zE (N:=3) (cs:=#[.string a1_0,.string a1_1,.string a1_2]) (t:=32) ?_;intro gb71002 hg w4 hbox hb;have n0_:=zk (zb BK71001.out hb);have n1_:=zk (below_step za3 hb);have n2_:=zk (hbox);have n3_:=zk (zs (w:=w) hg za3);have n4_:=zk (zs (w:=w) hg za3);have n5_:=zk ((by rw [hg];exact Nat.ne_of_lt (zl BK71001.out):gb71001 ≠ gb71002));have n6_:=zk ((by rw [hg];exact Nat.ne_of_gt (zl BK71001.out):gb71002 ≠ gb71001));clear BK71001;clear HB;have BK71001:=n0_;have HB:=n1_;have BK71002:=n2_;have GW71002:=n3_;have GE71002:=n4_;have NB71001_71002:=n5_;have NB71002_71001:=n6_;clear n0_ n1_ n2_ n3_ n4_ n5_ n6_;clear hb hbox hg))
 first|go_loopg [5] k (fun kq v5 w'=>∃ (x5_1:Int),v5 = .int .i64 x5_1∧Aside0 (spec_l11Keeps.l0 kq x5_1 l0_0 a1_0 a1_1 a1_2=some r)∧Aside0 (kq≤k)∧Aside0 (w'.heap[gb71001]? = some (.cells #[(.slice A0_0 l0_0.length c0_0)] 26 (0,0)))∧Aside0 (w'.heap[gb71002]? = some (.cells #[.string a1_0,.string a1_1,.string a1_2] 32 (0,0)))∧Aside0 (Below w.heap.size w w'))|(simp only [Act.put,zt,zv,zu];go_loopg [5] k (fun kq v5 w'=>∃ (x5_1:Int),v5 = .int .i64 x5_1∧Aside0 (spec_l11Keeps.l0 kq x5_1 l0_0 a1_0 a1_1 a1_2=some r)∧Aside0 (kq≤k)∧Aside0 (w'.heap[gb71001]? = some (.cells #[(.slice A0_0 l0_0.length c0_0)] 26 (0,0)))∧Aside0 (w'.heap[gb71002]? = some (.cells #[.string a1_0,.string a1_1,.string a1_2] 32 (0,0)))∧Aside0 (Below w.heap.size w w')))
 case atStart=>exact ⟨(0),za7,H',⟨Nat.le_refl _⟩,⟨za1 BK71001.out⟩,⟨za1 BK71002.out⟩,⟨za3⟩⟩
 case round =>
  clear H'
  obtain ⟨x5_1,rfl,HA,HK1,BK71001,BK71002,HB⟩:=hrel
  cases gk with
  | zero=>exact absurd HA.out (by simp [spec_l11Keeps.l0])
  | succ k1 =>
   have H:=HA.out
   clear HA
   simp only [spec_l11Keeps.l0] at H
   by_cases c5:x5_1 < (l0_0.length:Int)
   rw [if_pos c5] at H
   have c5b0:decide (x5_1 < (l0_0.length:Int))=true:=decide_eq_true c5
   clear c5
   by_cases c6:0≤x5_1
   rw [if_pos c6] at H
   have c6b0:decide (0≤x5_1)=true:=decide_eq_true c6
   clear c6
   replace H:=zo H
   obtain ⟨t71004,A70,H⟩:=H
   replace H:(if t71004=true then (spec_l11Keeps.l0 k1 (wrap64 (x5_1+1)) l0_0 a1_0 a1_1 a1_2) else (some false))=some r:=H
   have A7:=zk A70
   clear A70
   by_cases c8:t71004=true
   subst c8
   have H1:(spec_l11Keeps.l0 k1 (wrap64 (x5_1+1)) l0_0 a1_0 a1_1 a1_2)=some r:=by rw [if_pos rfl] at H;exact H
   clear H
   have H:=H1
   clear H1
   have H':=zk H
   clear H
   have fin1_:=zk trivial
   rotate_left
   replace c8:=Bool.eq_false_iff.mpr c8
   subst c8
   have H1:(some false)=some r:=by rw [if_neg (show ¬ (false=true) by decide)] at H;exact H
   clear H
   have H:=H1
   clear H1
   obtain rfl:=zi H
   have fin0_:=zk trivial
   rotate_left
   · rw [if_neg c6] at H
     exact absurd H (by simp)
   · rw [if_neg c5] at H
     have c5b0:decide (x5_1 < (l0_0.length:Int))=false:=decide_eq_false c5
     clear c5
     obtain rfl:=zi H
     have hnb17:=NB71001_71002.out
     have hnc17:=NB71002_71001.out
     obtain ⟨hcz18_0,hfz18_0⟩:=blk1 BK71001.out
     go_wp2
     go_ret
     exact ⟨za6,za3⟩
   all_goals
    have hnb13:=NB71001_71002.out
    have hnc13:=NB71002_71001.out
    obtain ⟨hcz14_0,hfz14_0⟩:=blk1 BK71001.out
    try go_wp2
    have n0_:=zk (blk_drew BK71001.out)
    have n1_:=zk (blk_drew BK71002.out)
    have n2_:=zk (below_drew1 HB.out)
    clear BK71001
    clear BK71002
    clear HB
    have BK71001:=n0_
    have BK71002:=n1_
    have HB:=n2_
    clear n0_ n1_ n2_
    have p71003:0≤(x5_1:Int):=of_decide_eq_true za8
    have q71003:x5_1 < (l0_0.length:Int):=of_decide_eq_true za8
    obtain ⟨ad71003,A71003_5,c71003_5,A71003_6,c71003_6,e71003,hx71003_0,hx71003_1,hx71003_2,hx71003_3,hx71003_4,hx71003_5,hx71003_6,hx71003_7,hl71003_5,hi71003_5,hl71003_6,hi71003_6⟩:=at_T67 HR0_0.out x5_1 p71003 q71003
    have hw71003_7:=hx71003_7
    have hw71003_6:=hx71003_6
    have hw71003_5:=hx71003_5
    have hw71003_4:=hx71003_4
    have hw71003_3:=hx71003_3
    have hw71003_2:=hx71003_2
    have hw71003_1:=hx71003_1
    have hw71003_0:=hx71003_0
    cases e71003
    replace hx71003_0:=zx HB.out hx71003_0
    replace hx71003_1:=zx HB.out hx71003_1
    replace hx71003_2:=zx HB.out hx71003_2
    replace hx71003_3:=zx HB.out hx71003_3
    replace hx71003_4:=zx HB.out hx71003_4
    replace hx71003_5:=zx HB.out hx71003_5
    replace hx71003_6:=zx HB.out hx71003_6
    replace hx71003_7:=zx HB.out hx71003_7
    have HR71003_5:=zk hi71003_5
    have HC71003_5:=zk hl71003_5
    clear hi71003_5 hl71003_5
    have HR71003_6:=zk hi71003_6
    have HC71003_6:=zk hl71003_6
    clear hi71003_6 hl71003_6
    replace p71003:=eq_true p71003
    replace q71003:=eq_true q71003
    refine start_ (n:=8) (S:=fun w'=>w'.cell? ⟨gb71001,0,none⟩=some (.slice (some ad71003) l0_0.length c0_0)∧w'.cell? ⟨gb71002,0,none⟩=some (.string a1_0)∧w'.cell? ⟨gb71002,1,none⟩=some (.string a1_1)∧w'.cell? ⟨gb71002,2,none⟩=some (.string a1_2)∧w'.cell? (ad71003.add ((x5_1).toNat * 8))=some (.int .i64 ((rd_T67 l0_0 x5_1).f0))∧w'.cell? ⟨(ad71003.add ((x5_1).toNat * 8)).block,(ad71003.add ((x5_1).toNat * 8)).off+1,none⟩=some (.string ((rd_T67 l0_0 x5_1).f1))∧w'.cell? ⟨(ad71003.add ((x5_1).toNat * 8)).block,(ad71003.add ((x5_1).toNat * 8)).off+2,none⟩=some (.string ((rd_T67 l0_0 x5_1).f2))∧w'.cell? ⟨(ad71003.add ((x5_1).toNat * 8)).block,(ad71003.add ((x5_1).toNat * 8)).off+3,none⟩=some (.int .i64 ((rd_T67 l0_0 x5_1).f3.f0))∧w'.cell? ⟨(ad71003.add ((x5_1).toNat * 8)).block,(ad71003.add ((x5_1).toNat * 8)).off+4,none⟩=some (.string ((rd_T67 l0_0 x5_1).f3.f1))∧w'.cell? ⟨(ad71003.add ((x5_1).toNat * 8)).block,(ad71003.add ((x5_1).toNat * 8)).off+5,none⟩=some (.slice A71003_5 ((rd_T67 l0_0 x5_1).f3.f2).length c71003_5)∧w'.cell? ⟨(ad71003.add ((x5_1).toNat * 8)).block,(ad71003.add ((x5_1).toNat * 8)).off+6,none⟩=some (.slice A71003_6 ((rd_T67 l0_0 x5_1).f4).length c71003_6)∧w'.cell? ⟨(ad71003.add ((x5_1).toNat * 8)).block,(ad71003.add ((x5_1).toNat * 8)).off+7,none⟩=some (.int .i64 ((rd_T67 l0_0 x5_1).f5))) (ds:=[]) #[false,false,false,false,false,false,false,false] (by kernel_rfl) rfl rfl ⟨(blk_cell BK71001.out 0).trans rfl,(blk_cell BK71002.out 0).trans rfl,(blk_cell BK71002.out 1).trans rfl,(blk_cell BK71002.out 2).trans rfl,((HB.out.cell (World.block_lt_of_cell? w _ hw71003_0)).trans hw71003_0),((HB.out.cell (World.block_lt_of_cell? w _ hw71003_1)).trans hw71003_1),((HB.out.cell (World.block_lt_of_cell? w _ hw71003_2)).trans hw71003_2),((HB.out.cell (World.block_lt_of_cell? w _ hw71003_3)).trans hw71003_3),((HB.out.cell (World.block_lt_of_cell? w _ hw71003_4)).trans hw71003_4),((HB.out.cell (World.block_lt_of_cell? w _ hw71003_5)).trans hw71003_5),((HB.out.cell (World.block_lt_of_cell? w _ hw71003_6)).trans hw71003_6),((HB.out.cell (World.block_lt_of_cell? w _ hw71003_7)).trans hw71003_7)⟩ (fun hHeld=>?_);refine with_tabW spec_l11Keeps.tab4 spec_l11Keeps.bits4 (fun HT_ HW_=>?_)
    generalize wr.drew=w15 at BK71001 BK71002 HB HR71003_5 HR71003_6 hx71003_0 hx71003_1 hx71003_2 hx71003_3 hx71003_4 hx71003_5 hx71003_6 hx71003_7 hHeld ⊢
    refine pure_ (i:=0) (N:=some 13) (v:=?_) (a':=?_) #[true,false,false,false,false,false,false,false] rfl rfl (any_of HT_.out (by kernel_rfl)) (fun _ _ _ h=>h) (Or.inl ⟨by rfl,?_⟩) ?_ ?_
    rotate_left
    · intro w'
      go_simp
      exact zr1
    rotate_left
    · simp only [Act.put,zt,zu,zv,i64_w,i32_w]
      rfl
    refine pure_ (i:=2) (N:=some 15) (v:=?_) (a':=?_) #[true,false,true,false,false,false,false,false] rfl rfl (any_of HT_.out (by kernel_rfl)) (fun _ _ _ h=>h) (Or.inl ⟨by rfl,?_⟩) ?_ ?_
    rotate_left
    · intro w'
      go_simp
      exact zr1
    rotate_left
    · simp only [Act.put,zt,zu,zv,i64_w,i32_w]
      rfl
    refine take_ (i:=1) (N:=some 14) (v:=?_) (a':=?_) #[true,true,true,false,false,false,false,false] rfl rfl (take_ofW HT_.out HW_.out (by kernel_rfl)) (fun _ _ _ h=>h) (Or.inl ⟨by rfl,?_⟩) hHeld ?_ ?_
    rotate_left
    · rintro w' ⟨s0,s1,s2,s3,s4,s5,s6,s7,s8,s9,s10,s11⟩
      go_simp
      exact zr1
    rotate_left
    · simp only [Act.put,zt,zu,zv,i64_w,i32_w]
      rfl
    refine pure_ (i:=3) (N:=some 16) (v:=?_) (a':=?_) #[true,true,true,true,false,false,false,false] rfl rfl (any_of HT_.out (by kernel_rfl)) (fun _ _ _ h=>h) (Or.inl ⟨by rfl,?_⟩) ?_ ?_
    rotate_left
    · intro w'
      go_simp
      exact zr1
    rotate_left
    · simp only [Act.put,zt,zu,zv,i64_w,i32_w]
      rfl
    refine take_ (i:=4) (N:=some 17) (v:=?_) (a':=?_) #[true,true,true,true,true,false,false,false] rfl rfl (take_ofW HT_.out HW_.out (by kernel_rfl)) (fun _ _ _ h=>h) (Or.inl ⟨by rfl,?_⟩) hHeld ?_ ?_
    rotate_left
    · rintro w' ⟨s0,s1,s2,s3,s4,s5,s6,s7,s8,s9,s10,s11⟩
      go_simp
      exact zr1
    rotate_left
    · simp only [Act.put,zt,zu,zv,i64_w,i32_w]
      rfl
    refine take_ (i:=5) (N:=some 18) (v:=?_) (a':=?_) #[true,true,true,true,true,true,false,false] rfl rfl (take_ofW HT_.out HW_.out (by kernel_rfl)) (fun _ _ _ h=>h) (Or.inl ⟨by rfl,?_⟩) hHeld ?_ ?_
    rotate_left
    · rintro w' ⟨s0,s1,s2,s3,s4,s5,s6,s7,s8,s9,s10,s11⟩
      go_simp
      exact zr1
    rotate_left
    · simp only [Act.put,zt,zu,zv,i64_w,i32_w]
      rfl
    refine one_ (i:=6) (N:=some 19) #[true,true,true,true,true,true,true,false] rfl rfl (one_of HT_.out (by kernel_rfl)) (by decide) (fun K hK=>?_)
    refine goes_ Tryz.func83 (by kernel_rfl) rfl #[.agg #[.int .i64 ((rd_T67 l0_0 x5_1).f0),.string ((rd_T67 l0_0 x5_1).f1),.string ((rd_T67 l0_0 x5_1).f2),.int .i64 ((rd_T67 l0_0 x5_1).f3.f0),.string ((rd_T67 l0_0 x5_1).f3.f1),.slice A71003_5 ((rd_T67 l0_0 x5_1).f3.f2).length c71003_5,.slice A71003_6 ((rd_T67 l0_0 x5_1).f4).length c71003_6,.int .i64 ((rd_T67 l0_0 x5_1).f5)],.agg #[.string a1_0,.string a1_1,.string a1_2]] (by rfl) rfl rfl za4 ?_
    with_reducible refine (spec_l9Holds.calls k1 ((rd_T67 l0_0 x5_1).f0) ((rd_T67 l0_0 x5_1).f1) ((rd_T67 l0_0 x5_1).f2) ((rd_T67 l0_0 x5_1).f3.f0) ((rd_T67 l0_0 x5_1).f3.f1) _ _ ((rd_T67 l0_0 x5_1).f3.f2) _ _ ((rd_T67 l0_0 x5_1).f4) ((rd_T67 l0_0 x5_1).f5) a1_0 a1_1 a1_2 _ _ ?side1 ?side2 ?side3 ?side4 A7.out).mono ?_
    (case side1=>repeat (first|exact (Kd.C_below HR71003_5.out HB.out)|(with_reducible refine Kd.C_alloc ?_ _)|(with_reducible refine Kd.C_drewN ?_ _)|(with_reducible refine Kd.C_drew ?_)))
    (case side2=>exact HC71003_5.out)
    (case side3=>repeat (first|exact (Kd.C_below HR71003_6.out HB.out)|(with_reducible refine Kd.C_alloc ?_ _)|(with_reducible refine Kd.C_drewN ?_ _)|(with_reducible refine Kd.C_drew ?_)))
    (case side4=>exact HC71003_6.out)
    rintro e w16 ⟨rfl,hb⟩
    refine ⟨_,rfl,?_⟩
    have n0_:=zk (zb BK71001.out hb)
    have n1_:=zk (zb BK71002.out hb)
    have n2_:=zk (below_step za3 hb)
    clear BK71001
    clear BK71002
    clear HB
    have BK71001:=n0_
    have BK71002:=n1_
    have HB:=n2_
    clear n0_ n1_ n2_
    (try clear hb)
    (try clear hb2)
    (try clear hk)
    (try clear hi)
    refine hK.out _ _ ⟨(blk_cell BK71001.out 0).trans rfl,(blk_cell BK71002.out 0).trans rfl,(blk_cell BK71002.out 1).trans rfl,(blk_cell BK71002.out 2).trans rfl,((HB.out.cell (World.block_lt_of_cell? w _ hw71003_0)).trans hw71003_0),((HB.out.cell (World.block_lt_of_cell? w _ hw71003_1)).trans hw71003_1),((HB.out.cell (World.block_lt_of_cell? w _ hw71003_2)).trans hw71003_2),((HB.out.cell (World.block_lt_of_cell? w _ hw71003_3)).trans hw71003_3),((HB.out.cell (World.block_lt_of_cell? w _ hw71003_4)).trans hw71003_4),((HB.out.cell (World.block_lt_of_cell? w _ hw71003_5)).trans hw71003_5),((HB.out.cell (World.block_lt_of_cell? w _ hw71003_6)).trans hw71003_6),((HB.out.cell (World.block_lt_of_cell? w _ hw71003_7)).trans hw71003_7)⟩ (fun hHeld=>?_)
    clear hK K
    refine norm_ (a':=?_) ?_ ?_
    rotate_left
    · show Act.put _ (some 19) _=_
      simp only [Act.put,zt,zu,zv,i64_w,i32_w]
      rfl
    refine pure_ (i:=7) (N:=some 20) (v:=?_) (a':=?_) #[true,true,true,true,true,true,true,true] rfl rfl (any_of HT_.out (by kernel_rfl)) (fun _ _ _ h=>h) (Or.inl ⟨by rfl,?_⟩) ?_ ?_
    rotate_left
    · intro w'
      go_simp
      exact zr1
    rotate_left
    · simp only [Act.put,zt,zu,zv,i64_w,i32_w]
      rfl
    refine done_ (done_of HT_.out (by kernel_rfl)) ?_
    try go_wp2
    first
    | (
       clear fin0_
       go_ret
       exact ⟨za6,za3⟩)
    | (
       clear fin1_
       go_roundg k1
       case measure=>have:=HK1.out;omega
       case rel=>exact ⟨(wrap64 (x5_1+1)),za7,H',⟨za15⟩,⟨za1 BK71001.out⟩,⟨za1 BK71002.out⟩,⟨za3⟩⟩)
mutual
def spec_l11All.l0:Nat→ByteArray→List ByteArray→List (S32)→Int→List (S67)→ByteArray→ByteArray→ByteArray→Option ((List (S32)))
 | 0,_,_,_,_,_,_,_,_=>none
 | k+1,x1,x2,x4,x11,x38002000,x38003000,x38003001,x38003002=>if x11 < (x2.length:Int) then (if 1≤(x1.size:Int) then (if 0 < (x1.size:Int) then (if 0≤x11 then ((spec_WithValue.f x38003000 x38003001 x38003002 (bt x1 0) (rdOf ByteArray.empty x2 x11)).bind fun bt38008=>((spec_l11All.f k x38002000 (x1.extract 1 x1.size) x2 bt38008.1 bt38008.2.1 bt38008.2.2 x4).bind fun t38011=>(spec_l11All.l0 k x1 x2 t38011 (wrap64 (x11+1)) x38002000 x38003000 x38003001 x38003002))) else (none)) else (none)) else (none)) else (some x4)
def spec_l11All.f:Nat→List (S67)→ByteArray→List ByteArray→ByteArray→ByteArray→ByteArray→List (S32)→Option ((List (S32)))
 | 0,_,_,_,_,_,_,_=>none
 | k+1,l0_0,a1,l2,a3_0,a3_1,a3_2,l4=>if a1.toList=([]:List UInt8) then ((spec_l11Keeps.f k l0_0 a3_0 a3_1 a3_2).bind fun t38003=>(if t38003=true then (if l4.length < 2932031007402 then (some (l4 ++ [(⟨a3_0,a3_1,a3_2⟩:S32)])) else (none)) else (some l4))) else (spec_l11All.l0 k a1 l2 l4 0 l0_0 a3_0 a3_1 a3_2)
end
theorem spec_l11All.mono_l:∀ k,(∀ y0 y1 y2 y3 y4 y5 y6,LeO (spec_l11All.f k y0 y1 y2 y3 y4 y5 y6) (spec_l11All.f (k+1) y0 y1 y2 y3 y4 y5 y6))∧(∀ y0 y1 y2 y3 y4 y5 y6 y7,LeO (spec_l11All.l0 k y0 y1 y2 y3 y4 y5 y6 y7) (spec_l11All.l0 (k+1) y0 y1 y2 y3 y4 y5 y6 y7))
 | 0=>⟨fun _ _ _ _ _ _ _ r h=>by simp [spec_l11All.f] at h,fun _ _ _ _ _ _ _ _ r h=>by simp [spec_l11All.l0] at h⟩
 | k+1=>by
  obtain ⟨ih0,ih1⟩:=spec_l11All.mono_l k
  refine ⟨?_,?_⟩
  ·intro y0 y1 y2 y3 y4 y5 y6
   unfold spec_l11All.f
   repeat' first
   | with_reducible first|exact ih0 _ _ _ _ _ _ _|exact ih1 _ _ _ _ _ _ _ _|exact spec_l11Keeps.mono _ _ _ _ _|exact LeO.refl _|exact LeO.none _|refine LeO.ite ?_ ?_|refine LeO.bind ?_ (fun _=>?_)
  ·intro y0 y1 y2 y3 y4 y5 y6 y7
   unfold spec_l11All.l0
   repeat' first
   | with_reducible first|exact ih0 _ _ _ _ _ _ _|exact ih1 _ _ _ _ _ _ _ _|exact spec_l11Keeps.mono _ _ _ _ _|exact LeO.refl _|exact LeO.none _|refine LeO.ite ?_ ?_|refine LeO.bind ?_ (fun _=>?_)
theorem spec_l11All.mono:∀ a0 a1 a2 a3 a4 a5 a6 k,LeO (spec_l11All.f k a0 a1 a2 a3 a4 a5 a6) (spec_l11All.f (k+1) a0 a1 a2 a3 a4 a5 a6):=by
 intro a0 a1 a2 a3 a4 a5 a6 k
 obtain ⟨ih0,ih1⟩:=spec_l11All.mono_l k
 exact ih0 a0 a1 a2 a3 a4 a5 a6
def spec_l11All.T8:Bool × List (List Nat × List Nat):=(true,[([],[]),([],[]),([1],[1]),([],[]),([],[]),([],[]),([5],[5]),([],[]),([],[]),([7,8],[7,8]),([9],[9]),([4,6,10],[4,6,10]),([],[]),([0,2,3,11,12,11],[0,2,3,11,12]),([13,13,0,1,2,3,4,5,6,7,8,9,10,11,12,13],[12,13])])
def spec_l11All.B8:List Nat:=[0,0,2,0,0,0,32,0,0,384,896,2032,0,8191,16383]
theorem spec_l11All.tab8:rtab .any (opsOf Tryz.f38 8)=spec_l11All.T8:=by kernel_rfl
theorem spec_l11All.bits8:waitsOk spec_l11All.T8.2 spec_l11All.B8=true:=by kernel_rfl
theorem spec_l11All.calls (k:Nat):∀ (A0_0:Option Addr) (c0_0:Nat) (l0_0:List (S67)) (a1:ByteArray) (A2:Option Addr) (c2:Nat) (l2:List ByteArray) (a3_0:ByteArray) (a3_1:ByteArray) (a3_2:ByteArray) (P4_:Nat→Prop) (u9000_:Value) (l4:List (S32)) (r:List (S32)) (w0 w:World) (hB:Below w0.heap.size w0 w) (hr0_0:∀ W_,Kept w W_ (fun k_=>P4_ k_)→Kd.C k67 W_ A0_0 l0_0.length l0_0) (hc0_0:l0_0.length≤c0_0) (hr2:∀ W_,Kept w W_ (fun k_=>P4_ k_)→Kd.C Kd.string W_ A2 l2.length l2) (hc2:l2.length≤c2) (ho4:Kd.R k32 32 w w0.heap.size P4_ u9000_ l4) (h:spec_l11All.f k l0_0 a1 l2 a3_0 a3_1 a3_2 l4=some r),
   Calls Tryz.prog 38 #[.agg #[.slice A0_0 l0_0.length c0_0],.string a1,.slice A2 l2.length c2,.agg #[.string a3_0,.string a3_1,.string a3_2],u9000_] w fun e w'=>∃ v0_:Value,e = .returned (v0_)∧Kd.R k32 32 w' w0.heap.size (fun k_=>(P4_ k_∨w.heap.size≤k_)) v0_ r∧Below w0.heap.size w0 w'∧Kept w w' (fun k_=>P4_ k_):=by
 induction k using Nat.strongRecOn with
 | _ k ih =>
 intro A0_0 c0_0 l0_0 a1 A2 c2 l2 a3_0 a3_1 a3_2 P4_ u9000_ l4 r w0 w hB hr0_0 hc0_0 hr2 hc2 ho4 h
 cases k with
 | zero=>exact absurd h (by simp [spec_l11All.f])
 | succ k =>
 simp only [spec_l11All.f] at h
 have hu26:=Tryz.underlying26
 have hu32:=Tryz.underlying32
 have HR0_0:=zk hr0_0
 have HC0_0:=zk hc0_0
 clear hr0_0 hc0_0
 have HR2:=zk hr2
 have HC2:=zk hc2
 clear hr2 hc2
 have HO4:=zk (show Kd.R k32 32 w w0.heap.size (fun k_=>(P4_ k_∨w.heap.size≤k_)) u9000_ l4 from Kd.R_mono ho4 (fun k_ hk=>(.inl hk)))
 have HK:=zk (Kept.refl w (fun k_=>P4_ k_))
 have HW0:=zk hB.size
 have HB:=zk hB
 clear hB
 have H:(if a1.toList=([]:List UInt8) then ((spec_l11Keeps.f k l0_0 a3_0 a3_1 a3_2).bind fun t38003=>(if t38003=true then (if l4.length < 2932031007402 then (some (l4 ++ [(⟨a3_0,a3_1,a3_2⟩:S32)])) else (none)) else (some l4))) else (spec_l11All.l0 k a1 l2 l4 0 l0_0 a3_0 a3_1 a3_2))=some r:=h
 clear h
 by_cases c6:a1.toList=([]:List UInt8)
 rw [if_pos c6] at H
 have c6b0:(a1.toList == ([]:List UInt8))=true:=beq_iff_eq.mpr c6
 have c6b1:(a1.toList != ([]:List UInt8))=false:=bne_eq_false_iff_eq.mpr c6
 clear c6
 replace H:=zo H
 obtain ⟨t38003,A70,H⟩:=H
 replace H:(if t38003=true then (if l4.length < 2932031007402 then (some (l4 ++ [(⟨a3_0,a3_1,a3_2⟩:S32)])) else (none)) else (some l4))=some r:=H
 have A7:=zk A70
 clear A70
 by_cases c8:t38003=true
 subst c8
 have H1:(if l4.length < 2932031007402 then (some (l4 ++ [(⟨a3_0,a3_1,a3_2⟩:S32)])) else (none))=some r:=by rw [if_pos rfl] at H;exact H
 clear H
 have H:=H1
 clear H1
 by_cases c9:l4.length < 2932031007402
 rw [if_pos c9] at H
 have LMc9:=zk c9
 clear c9
 obtain ⟨y38004,hy38004⟩:∃ y_:List (S32),y_=(l4 ++ [(⟨a3_0,a3_1,a3_2⟩:S32)]):=⟨_,rfl⟩
 replace H:(some y38004)=some r:=by first|(rw [hy38004];with_reducible exact H)|(have H2_:=(Option.bind_some _ _).symm.trans H;rw [hy38004];with_reducible exact H2_)|(have H2_:=(Option.bind_some _ _).symm.trans H;with_reducible exact H2_)|with_reducible exact H|(rw [hy38004];exact H)|exact H
 have Ny38004:=zk hy38004
 clear hy38004
 have fin0_:=zk trivial
 rotate_left
 · rw [if_neg c9] at H
   exact absurd H (by simp)
 replace c8:=Bool.eq_false_iff.mpr c8
 subst c8
 have H1:(some l4)=some r:=by rw [if_neg (show ¬ (false=true) by decide)] at H;exact H
 clear H
 have H:=H1
 clear H1
 have fin1_:=zk trivial
 rotate_left
 · rw [if_neg c6] at H
   have c6b0:(a1.toList == ([]:List UInt8))=false:=beq_eq_false_iff_ne.mpr c6
   have c6b1:(a1.toList != ([]:List UInt8))=true:=bne_iff_ne.mpr c6
   have H':=zk H
   clear H
   go_enter Tryz.func38,Tryz.ntmps38
   go_wp2_with (first|((with_reducible refine gate_dst (N:=5) rfl ?_);refine zE (N:=5) (cs:=#[.slice A0_0 l0_0.length c0_0]) (t:=26) ?_;intro gb38001 hg w24 hbox hb;have n0_:=zk (Kd.R_below (za0 HO4.out) hb);have n1_:=zk (Kept.below (S:=(fun k_=>P4_ k_)) za14 hb);have n2_:=zk (below_step za3 hb);have n3_:=zk (hbox);have n4_:=zk ((by rw [hg];exact (by first|exact HK.out.1|exact (show Kept w _ (fun k_=>P4_ k_) from za14).1):w.heap.size≤gb38001));have n5_:=zk (zs (w:=w0) hg za3);clear HO4;clear HK;clear HB;have HO4:=n0_;have HK:=n1_;have HB:=n2_;have BK38001:=n3_;have GW38001:=n4_;have GE38001:=n5_;clear n0_ n1_ n2_ n3_ n4_ n5_;clear hb hbox hg)|((with_reducible refine gate_dst (N:=8) rfl ?_);refine zE (N:=8) (cs:=#[.string a3_0,.string a3_1,.string a3_2]) (t:=32) ?_;intro gb38002 hg w25 hbox hb;have n0_:=zk (Kd.R_below (Kd.R_elderB (za0 HO4.out) gb38002 (Nat.le_of_eq hg.symm)) hb);have n1_:=zk (zb BK38001.out hb);have n2_:=zk (Kept.below (S:=(fun k_=>P4_ k_)) za22 hb);have n3_:=zk (below_step za3 hb);have n4_:=zk (hbox);have n5_:=zk ((by rw [hg];exact (by first|exact HK.out.1|exact (show Kept w _ (fun k_=>P4_ k_) from za22).1):w.heap.size≤gb38002));have n6_:=zk (zs (w:=w0) hg za3);have n7_:=zk ((by rw [hg];exact Nat.ne_of_lt (zl BK38001.out):gb38001 ≠ gb38002));have n8_:=zk ((by rw [hg];exact Nat.ne_of_gt (zl BK38001.out):gb38002 ≠ gb38001));clear HO4;clear BK38001;clear HK;clear HB;have HO4:=n0_;have BK38001:=n1_;have HK:=n2_;have HB:=n3_;have BK38002:=n4_;have GW38002:=n5_;have GE38002:=n6_;have NB38001_38002:=n7_;have NB38002_38001:=n8_;clear n0_ n1_ n2_ n3_ n4_ n5_ n6_ n7_ n8_;clear hb hbox hg))
   first|go_loopg [4,11] k (fun kq v4 v11 w'=>∃ (x4_1:List (S32)) (x11_1:Int),v11 = .int .i64 x11_1∧Aside0 (spec_l11All.l0 kq a1 l2 x4_1 x11_1 l0_0 a3_0 a3_1 a3_2=some r)∧Aside0 (kq≤k)∧Aside0 (Kd.R k32 32 w' w0.heap.size (fun k_=>(P4_ k_∨w.heap.size≤k_)∧k_ ≠ gb38002) v4 x4_1)∧Aside0 (w'.heap[gb38001]? = some (.cells #[(.slice A0_0 l0_0.length c0_0)] 26 (0,0)))∧Aside0 (w'.heap[gb38002]? = some (.cells #[.string a3_0,.string a3_1,.string a3_2] 32 (0,0)))∧Aside0 (Kept w w' (fun k_=>P4_ k_))∧Aside0 (Below w0.heap.size w0 w'))|(simp only [Act.put,zt,zv,zu];go_loopg [4,11] k (fun kq v4 v11 w'=>∃ (x4_1:List (S32)) (x11_1:Int),v11 = .int .i64 x11_1∧Aside0 (spec_l11All.l0 kq a1 l2 x4_1 x11_1 l0_0 a3_0 a3_1 a3_2=some r)∧Aside0 (kq≤k)∧Aside0 (Kd.R k32 32 w' w0.heap.size (fun k_=>(P4_ k_∨w.heap.size≤k_)∧k_ ≠ gb38002) v4 x4_1)∧Aside0 (w'.heap[gb38001]? = some (.cells #[(.slice A0_0 l0_0.length c0_0)] 26 (0,0)))∧Aside0 (w'.heap[gb38002]? = some (.cells #[.string a3_0,.string a3_1,.string a3_2] 32 (0,0)))∧Aside0 (Kept w w' (fun k_=>P4_ k_))∧Aside0 (Below w0.heap.size w0 w')))
   case atStart=>exact ⟨(l4),(0),za7,H',⟨Nat.le_refl _⟩,⟨za0 HO4.out⟩,⟨za1 BK38001.out⟩,⟨za1 BK38002.out⟩,⟨za11⟩,⟨za3⟩⟩
   case round =>
    clear H'
    try clear c6
    try clear c6b0
    try clear c6b1
    obtain ⟨x4_1,x11_1,rfl,HA,HK1,HO_4,BK38001,BK38002,HK,HB⟩:=hrel
    cases gk with
    | zero=>exact absurd HA.out (by simp [spec_l11All.l0])
    | succ k1 =>
     have H:=HA.out
     clear HA
     simp only [spec_l11All.l0] at H
     by_cases c26:x11_1 < (l2.length:Int)
     rw [if_pos c26] at H
     have c26b0:decide (x11_1 < (l2.length:Int))=true:=decide_eq_true c26
     clear c26
     by_cases c27:1≤(a1.size:Int)
     rw [if_pos c27] at H
     have c27b0:=eq_true c27
     have c27b1:decide (1≤(a1.size:Int))=true:=decide_eq_true c27
     clear c27
     by_cases c28:0 < (a1.size:Int)
     rw [if_pos c28] at H
     have c28b0:decide (0 < (a1.size:Int))=true:=decide_eq_true c28
     have c28b1:decide (0 < a1.size)=true:=decide_eq_true (by omega)
     clear c28
     by_cases c30:0≤x11_1
     ·rw [if_pos c30] at H
      have c30b0:decide (0≤x11_1)=true:=decide_eq_true c30
      clear c30
      replace H:=zo H
      obtain ⟨⟨t38008,t38009,t38010⟩,A310,H⟩:=H
      replace H:((spec_l11All.f k1 l0_0 (a1.extract 1 a1.size) l2 t38008 t38009 t38010 x4_1).bind fun t38011=>(spec_l11All.l0 k1 a1 l2 t38011 (wrap64 (x11_1+1)) l0_0 a3_0 a3_1 a3_2))=some r:=H
      have A31:=zk A310
      clear A310
      replace H:=zo H
      obtain ⟨t38011,A320,H⟩:=H
      replace H:(spec_l11All.l0 k1 a1 l2 t38011 (wrap64 (x11_1+1)) l0_0 a3_0 a3_1 a3_2)=some r:=H
      have A32:=zk A320
      clear A320
      have H':=zk H
      clear H
      try go_wp2
      have n0_:=zk (Kd.R_drew HO_4.out)
      have n1_:=zk (blk_drew BK38001.out)
      have n2_:=zk (blk_drew BK38002.out)
      have n3_:=zk (Kept.drew HK.out)
      have n4_:=zk (below_drew1 HB.out)
      clear HO_4
      clear BK38001
      clear BK38002
      clear HK
      clear HB
      have HO_4:=n0_
      have BK38001:=n1_
      have BK38002:=n2_
      have HK:=n3_
      have HB:=n4_
      clear n0_ n1_ n2_ n3_ n4_
      have p29:0≤(0:Int):=(by omega)
      have q29:0 < a1.size:=(by have:(0:Int) < (a1.size:Int):=of_decide_eq_true za8;omega)
      have hx29:∀ h:0 < a1.size,((a1[0]'h).toNat:Int)=bt a1 0:=bt_at a1 0
      clear p29
      have qi29:(0 < (a1.size:Int))=True:=eq_true (of_decide_eq_true za8)
      replace q29:=eq_true q29
      have p38007:0≤(x11_1:Int):=of_decide_eq_true za8
      have q38007:x11_1 < (l2.length:Int):=of_decide_eq_true za8
      obtain ⟨ad38007,e38007,hx38007_0⟩:=Kd.at_string (Kd.C_kept_now HR2.out HK.out) x11_1 p38007 q38007
      have hw38007_0:=hx38007_0
      cases e38007
      replace p38007:=eq_true p38007
      replace q38007:=eq_true q38007
      refine start_ (n:=15) (S:=fun w'=>w'.cell? ⟨gb38001,0,none⟩=some (.slice A0_0 l0_0.length c0_0)∧w'.cell? ⟨gb38002,0,none⟩=some (.string a3_0)∧w'.cell? ⟨gb38002,1,none⟩=some (.string a3_1)∧w'.cell? ⟨gb38002,2,none⟩=some (.string a3_2)∧w'.cell? (ad38007.add (x11_1).toNat)=some (.string (rdOf ByteArray.empty l2 x11_1))) (ds:=[]) #[false,false,false,false,false,false,false,false,false,false,false,false,false,false,false] (by kernel_rfl) rfl rfl ⟨(blk_cell BK38001.out 0).trans rfl,(blk_cell BK38002.out 0).trans rfl,(blk_cell BK38002.out 1).trans rfl,(blk_cell BK38002.out 2).trans rfl,(Kd.foot_string (HR2.out _ za33) x11_1 (of_eq_true p38007) (of_eq_true q38007))⟩ (fun hHeld=>?_);refine with_tabW spec_l11All.tab8 spec_l11All.bits8 (fun HT_ HW_=>?_)
      generalize wr.drew=w33 at HO_4 BK38001 BK38002 HK HB hx38007_0 hHeld ⊢
      refine pure_ (i:=1) (N:=some 29) (v:=?_) (a':=?_) #[false,true,false,false,false,false,false,false,false,false,false,false,false,false,false] rfl rfl (any_of HT_.out (by kernel_rfl)) (fun _ _ _ h=>h) (Or.inl ⟨by rfl,?_⟩) ?_ ?_
      rotate_left
      ·intro w'
       go_simp
       exact zr0
      rotate_left
      ·simp only [Act.put,zt,zu,zv,i64_w,i32_w]
       rfl
      refine pure_ (i:=2) (N:=some 30) (v:=?_) (a':=?_) #[false,true,true,false,false,false,false,false,false,false,false,false,false,false,false] rfl rfl (any_of HT_.out (by kernel_rfl)) (fun _ _ _ h=>h) (Or.inl ⟨by rfl,?_⟩) ?_ ?_
      rotate_left
      ·intro w'
       go_simp
       exact zr0
      rotate_left
      ·simp only [Act.put,zt,zu,zv,i64_w,i32_w]
       rfl
      refine pure_ (i:=3) (N:=some 31) (v:=?_) (a':=?_) #[false,true,true,true,false,false,false,false,false,false,false,false,false,false,false] rfl rfl (any_of HT_.out (by kernel_rfl)) (fun _ _ _ h=>h) (Or.inl ⟨by rfl,?_⟩) ?_ ?_
      rotate_left
      ·intro w'
       go_simp
       exact zr0
      rotate_left
      ·simp only [Act.put,zt,zu,zv,i64_w,i32_w]
       rfl
      refine pure_ (i:=5) (N:=some 33) (v:=?_) (a':=?_) #[false,true,true,true,false,true,false,false,false,false,false,false,false,false,false] rfl rfl (any_of HT_.out (by kernel_rfl)) (fun _ _ _ h=>h) (Or.inl ⟨by rfl,?_⟩) ?_ ?_
      rotate_left
      ·intro w'
       go_simp
       exact zr0
      rotate_left
      ·simp only [Act.put,zt,zu,zv,i64_w,i32_w]
       rfl
      refine pure_ (i:=7) (N:=some 35) (v:=?_) (a':=?_) #[false,true,true,true,false,true,false,true,false,false,false,false,false,false,false] rfl rfl (any_of HT_.out (by kernel_rfl)) (fun _ _ _ h=>h) (Or.inl ⟨by rfl,?_⟩) ?_ ?_
      rotate_left
      ·intro w'
       go_simp
       exact zr0
      rotate_left
      ·simp only [Act.put,zt,zu,zv,i64_w,i32_w]
       rfl
      refine pure_ (i:=8) (N:=some 36) (v:=?_) (a':=?_) #[false,true,true,true,false,true,false,true,true,false,false,false,false,false,false] rfl rfl (any_of HT_.out (by kernel_rfl)) (fun _ _ _ h=>h) (Or.inl ⟨by rfl,?_⟩) ?_ ?_
      rotate_left
      ·intro w'
       go_simp
       exact zr0
      rotate_left
      ·simp only [Act.put,zt,zu,zv,i64_w,i32_w]
       rfl
      refine pure_ (i:=9) (N:=some 37) (v:=?_) (a':=?_) #[false,true,true,true,false,true,false,true,true,true,false,false,false,false,false] rfl rfl (any_of HT_.out (by kernel_rfl)) (fun _ _ _ h=>h) (Or.inl ⟨by rfl,?_⟩) ?_ ?_
      rotate_left
      ·intro w'
       go_simp
       exact zr0
      rotate_left
      ·simp only [Act.put,zt,zu,zv,i64_w,i32_w]
       rfl
      refine pure_ (i:=12) (N:=some 40) (v:=?_) (a':=?_) #[false,true,true,true,false,true,false,true,true,true,false,false,true,false,false] rfl rfl (any_of HT_.out (by kernel_rfl)) (fun _ _ _ h=>h) (Or.inl ⟨by rfl,?_⟩) ?_ ?_
      rotate_left
      ·intro w'
       go_simp
       exact zr0
      rotate_left
      ·simp only [Act.put,zt,zu,zv,i64_w,i32_w]
       rfl
      refine take_ (i:=0) (N:=some 28) (v:=?_) (a':=?_) #[true,true,true,true,false,true,false,true,true,true,false,false,true,false,false] rfl rfl (take_ofW HT_.out HW_.out (by kernel_rfl)) (fun _ _ _ h=>h) (Or.inl ⟨by rfl,?_⟩) hHeld ?_ ?_
      rotate_left
      ·rintro w' ⟨s0,s1,s2,s3,s4⟩
       go_simp
       exact zr0
      rotate_left
      ·simp only [Act.put,zt,zu,zv,i64_w,i32_w]
       rfl
      refine take_ (i:=4) (N:=some 32) (v:=?_) (a':=?_) #[true,true,true,true,true,true,false,true,true,true,false,false,true,false,false] rfl rfl (take_ofW HT_.out HW_.out (by kernel_rfl)) (fun _ _ _ h=>h) (Or.inl ⟨by rfl,?_⟩) hHeld ?_ ?_
      rotate_left
      ·rintro w' ⟨s0,s1,s2,s3,s4⟩
       go_simp
       exact zr0
      rotate_left
      ·simp only [Act.put,zt,zu,zv,i64_w,i32_w]
       rfl
      refine take_ (i:=6) (N:=some 34) (v:=?_) (a':=?_) #[true,true,true,true,true,true,true,true,true,true,false,false,true,false,false] rfl rfl (take_ofW HT_.out HW_.out (by kernel_rfl)) (fun _ _ _ h=>h) (Or.inl ⟨by rfl,?_⟩) hHeld ?_ ?_
      rotate_left
      ·rintro w' ⟨s0,s1,s2,s3,s4⟩
       go_simp
       exact zr0
      rotate_left
      ·simp only [Act.put,zt,zu,zv,i64_w,i32_w]
       rfl
      refine take_ (i:=10) (N:=some 38) (v:=?_) (a':=?_) #[true,true,true,true,true,true,true,true,true,true,true,false,true,false,false] rfl rfl (take_ofW HT_.out HW_.out (by kernel_rfl)) (fun _ _ _ h=>h) (Or.inl ⟨by rfl,?_⟩) hHeld ?_ ?_
      rotate_left
      ·rintro w' ⟨s0,s1,s2,s3,s4⟩
       go_simp
       exact zr0
      rotate_left
      ·simp only [Act.put,zt,zu,zv,i64_w,i32_w]
       rfl
      refine one_ (i:=11) (N:=some 39) #[true,true,true,true,true,true,true,true,true,true,true,true,true,false,false] rfl rfl (one_of HT_.out (by kernel_rfl)) (by decide) (fun K hK=>?_)
      refine goes_ Tryz.func49 (by kernel_rfl) rfl #[.agg #[.string a3_0,.string a3_1,.string a3_2],.int .u8 (bt a1 0),.string (rdOf ByteArray.empty l2 x11_1)] (by rfl) rfl rfl za4 ?_
      with_reducible refine (spec_WithValue.calls a3_0 a3_1 a3_2 (bt a1 0) (rdOf ByteArray.empty l2 x11_1) t38008 t38009 t38010 _ A31.out).mono ?_
      rintro e w34 ⟨rfl,hb⟩
      refine ⟨_,rfl,?_⟩
      have n0_:=zk (Kd.R_below (za0 HO_4.out) hb)
      have n1_:=zk (zb BK38001.out hb)
      have n2_:=zk (zb BK38002.out hb)
      have n3_:=zk (Kept.below (S:=(fun k_=>P4_ k_)) za11 hb)
      have n4_:=zk (below_step za3 hb)
      clear HO_4
      clear BK38001
      clear BK38002
      clear HK
      clear HB
      have HO_4:=n0_
      have BK38001:=n1_
      have BK38002:=n2_
      have HK:=n3_
      have HB:=n4_
      clear n0_ n1_ n2_ n3_ n4_
      (try clear hb)
      (try clear hb2)
      (try clear hk)
      (try clear hi)
      obtain ⟨Ao35,co35,eo35⟩:=Kd.R_slice HO_4.out
      (first|subst eo35|(injection eo35 with f1_ f2_ f3_;have f4_:=f1_.symm;have f5_:=f3_.symm;clear f1_ f2_ f3_;subst f4_;subst f5_))
      refine hK.out _ _ ⟨(blk_cell BK38001.out 0).trans rfl,(blk_cell BK38002.out 0).trans rfl,(blk_cell BK38002.out 1).trans rfl,(blk_cell BK38002.out 2).trans rfl,(Kd.foot_string (HR2.out _ za33) x11_1 (of_eq_true p38007) (of_eq_true q38007))⟩ (fun hHeld=>?_)
      clear hK K
      refine norm_ (a':=?_) ?_ ?_
      rotate_left
      ·show Act.put _ (some 39) _=_
       simp only [Act.put,zt,zu,zv,i64_w,i32_w]
       rfl
      refine one_ (i:=13) (N:=some 41) #[true,true,true,true,true,true,true,true,true,true,true,true,true,true,false] rfl rfl (one_of HT_.out (by kernel_rfl)) (by decide) (fun K hK=>?_)
      refine goes_ Tryz.func38 (by kernel_rfl) rfl #[.agg #[.slice A0_0 l0_0.length c0_0],.string (a1.extract 1 a1.size),.slice (some ad38007) l2.length c2,.agg #[.string t38008,.string t38009,.string t38010],.slice Ao35 x4_1.length co35] (by rfl) rfl rfl za4 ?_
      with_reducible refine (ih k1 za15 _ _ l0_0 (a1.extract 1 a1.size) _ _ l2 t38008 t38009 t38010 (fun k_=>some k_=(.slice Ao35 x4_1.length co35:Value).ownBlock) (.slice Ao35 x4_1.length co35) x4_1 t38011 w0 _ ?side1 ?side2 ?side3 ?side4 ?side5 ?side6 A32.out).mono ?_
      (case side1=>repeat (first|(with_reducible first|exact HB.out|apply below_alloc|apply pw_below_drewN|apply below_drew1|refine below_set ?_ GE38001.out|refine below_set ?_ GE38002.out)|exact HB.out))
      (case side2=>exact Kd.C_kept_call HR0_0.out za11 (fun k_ hs_=>(fun e_=>(HO_4.out.1 k_ e_.symm).1) hs_))
      (case side3=>exact HC0_0.out)
      (case side4=>exact Kd.C_kept_call HR2.out za11 (fun k_ hs_=>(fun e_=>(HO_4.out.1 k_ e_.symm).1) hs_))
      (case side5=>exact HC2.out)
      (case side6=>exact Kd.R_tight rfl HO_4.out)
      rintro e w36 ⟨v38012,rfl,ho0,hb,hkp⟩
      refine ⟨_,rfl,?_⟩
      have n0_:=zk (blk_kept (za1 BK38001.out) hkp (fun hs_=>(fun e_=>(Kd.R_ne HO_4.out BK38001.out (by decide)) e_) hs_))
      have n1_:=zk (blk_kept (za1 BK38002.out) hkp (fun hs_=>(fun e_=>(Kd.R_away HO_4.out (fun _ hk=>hk.2)) e_) hs_))
      have n2_:=zk (Kd.R_mono (ok':=fun k_=>(P4_ k_∨w.heap.size≤k_)∧k_ ≠ gb38002) ho0 (fun k_ hk_=>⟨Or.elim hk_ (fun hs_=>(HO_4.out.1 k_ (hs_).symm).1) (fun hn_=>(.inr (Nat.le_trans (by first|exact HK.out.1|exact (show Kept w _ (fun k_=>P4_ k_) from za11).1) hn_))),Or.elim hk_ (fun hs_=>fun e_=>(Kd.R_away HO_4.out (fun _ hk=>hk.2)) (by rw [← e_];exact hs_)) (fun hn_=>(Kd.freshB (g:=gb38002) (o:=.cells #[.string a3_0,.string a3_1,.string a3_2] 32 (0,0)) (za1 BK38002.out) k_ hn_))⟩))
      have n3_:=zk (Kept.then_ (S:=(fun k_=>P4_ k_)) za11 hkp (fun k_ hs_=>(fun e_=>(HO_4.out.1 k_ e_.symm).1) hs_))
      have n4_:=zk (hb)
      clear BK38001
      clear BK38002
      clear HK
      clear HB
      clear HO_4
      have BK38001:=n0_
      have BK38002:=n1_
      have HO38013:=n2_
      have HK:=n3_
      have HB:=n4_
      clear n0_ n1_ n2_ n3_ n4_
      (try clear hb)
      (try clear hkp)
      (try clear ho0)
      refine hK.out _ _ ⟨(blk_cell BK38001.out 0).trans rfl,(blk_cell BK38002.out 0).trans rfl,(blk_cell BK38002.out 1).trans rfl,(blk_cell BK38002.out 2).trans rfl,(Kd.foot_string (HR2.out _ za33) x11_1 (of_eq_true p38007) (of_eq_true q38007))⟩ (fun hHeld=>?_)
      clear hK K
      refine norm_ (a':=?_) ?_ ?_
      rotate_left
      ·show Act.put _ (some 41) _=_
       simp only [Act.put,zt,zu,zv,i64_w,i32_w]
       rfl
      refine pure_ (i:=14) (N:=some 4) (v:=?_) (a':=?_) #[true,true,true,true,true,true,true,true,true,true,true,true,true,true,true] rfl rfl (any_of HT_.out (by kernel_rfl)) (fun _ _ _ h=>h) (Or.inl ⟨by rfl,?_⟩) ?_ ?_
      rotate_left
      ·intro w'
       go_simp
       exact zr0
      rotate_left
      ·simp only [Act.put,zt,zu,zv,i64_w,i32_w]
       rfl
      refine done_ (done_of HT_.out (by kernel_rfl)) ?_
      try go_wp2
      go_roundg k1
      case measure=>have:=HK1.out;omega
      case rel=>exact ⟨(t38011),(wrap64 (x11_1+1)),za7,H',⟨za15⟩,⟨za0 HO38013.out⟩,⟨za1 BK38001.out⟩,⟨za1 BK38002.out⟩,⟨za11⟩,⟨za3⟩⟩
     ·rw [if_neg c30] at H
      exact absurd H (by simp)
     ·rw [if_neg c28] at H
      exact absurd H (by simp)
     ·rw [if_neg c27] at H
      exact absurd H (by simp)
     ·rw [if_neg c26] at H
      have c26b0:decide (x11_1 < (l2.length:Int))=false:=decide_eq_false c26
      clear c26
      obtain rfl:=zi H
      go_wp2
      go_ret
      exact ⟨_,za6,by (with_reducible repeat (first|apply Kd.R_alloc|apply Kd.R_drewN|apply Kd.R_drew));exact Kd.R_mono HO_4.out (fun _ hk=>hk.1),za3,za11⟩
 all_goals
  obtain rfl:=zi H
  go_enter Tryz.func38,Tryz.ntmps38
  go_wp2_with (first|((with_reducible refine gate_dst (N:=5) rfl ?_);refine zE (N:=5) (cs:=#[.slice A0_0 l0_0.length c0_0]) (t:=26) ?_;intro gb38001 hg w10 hbox hb;have n0_:=zk (Kd.R_below (za0 HO4.out) hb);have n1_:=zk (Kept.below (S:=(fun k_=>P4_ k_)) za14 hb);have n2_:=zk (below_step za3 hb);have n3_:=zk (hbox);have n4_:=zk ((by rw [hg];exact (by first|exact HK.out.1|exact (show Kept w _ (fun k_=>P4_ k_) from za14).1):w.heap.size≤gb38001));have n5_:=zk (zs (w:=w0) hg za3);clear HO4;clear HK;clear HB;have HO4:=n0_;have HK:=n1_;have HB:=n2_;have BK38001:=n3_;have GW38001:=n4_;have GE38001:=n5_;clear n0_ n1_ n2_ n3_ n4_ n5_;clear hb hbox hg)|((with_reducible refine gate_dst (N:=8) rfl ?_);refine zE (N:=8) (cs:=#[.string a3_0,.string a3_1,.string a3_2]) (t:=32) ?_;intro gb38002 hg w11 hbox hb;have n0_:=zk (Kd.R_below (Kd.R_elderB (za0 HO4.out) gb38002 (Nat.le_of_eq hg.symm)) hb);have n1_:=zk (zb BK38001.out hb);have n2_:=zk (Kept.below (S:=(fun k_=>P4_ k_)) za22 hb);have n3_:=zk (below_step za3 hb);have n4_:=zk (hbox);have n5_:=zk ((by rw [hg];exact (by first|exact HK.out.1|exact (show Kept w _ (fun k_=>P4_ k_) from za22).1):w.heap.size≤gb38002));have n6_:=zk (zs (w:=w0) hg za3);have n7_:=zk ((by rw [hg];exact Nat.ne_of_lt (zl BK38001.out):gb38001 ≠ gb38002));have n8_:=zk ((by rw [hg];exact Nat.ne_of_gt (zl BK38001.out):gb38002 ≠ gb38001));clear HO4;clear BK38001;clear HK;clear HB;have HO4:=n0_;have BK38001:=n1_;have HK:=n2_;have HB:=n3_;have BK38002:=n4_;have GW38002:=n5_;have GE38002:=n6_;have NB38001_38002:=n7_;have NB38002_38001:=n8_;clear n0_ n1_ n2_ n3_ n4_ n5_ n6_ n7_ n8_;clear hb hbox hg;have hnb12:=NB38001_38002.out;have hnc12:=NB38002_38001.out;obtain ⟨hcz13_0,hfz13_0⟩:=blk1 BK38001.out;obtain ⟨hcz14_0,hcz14_1,hcz14_2,hfz14_0,hfz14_1,hfz14_2⟩:=blk3 BK38002.out)|((with_reducible refine gate_callee (f:=71) rfl ?_);refine goesL_ (some 16) rfl rfl Tryz.func71 (by kernel_rfl) rfl #[.agg #[.slice A0_0 l0_0.length c0_0],.agg #[.string a3_0,.string a3_1,.string a3_2]] rfl za4 ?_;(with_reducible refine (spec_l11Keeps.calls k _ _ l0_0 a3_0 a3_1 a3_2 _ _ ?side1 ?side2 A7.out).mono ?_);(case side1=>exact Kd.C_kept_now HR0_0.out za11);(case side2=>exact HC0_0.out);rintro e w15 ⟨rfl,hb⟩;refine ⟨_,rfl,?_⟩;have n0_:=zk (Kd.R_below (za0 HO4.out) hb);have n1_:=zk (zb BK38001.out hb);have n2_:=zk (zb BK38002.out hb);have n3_:=zk (Kept.below (S:=(fun k_=>P4_ k_)) za11 hb);have n4_:=zk (below_step za3 hb);clear HO4;clear BK38001;clear BK38002;clear HK;clear HB;have HO4:=n0_;have BK38001:=n1_;have BK38002:=n2_;have HK:=n3_;have HB:=n4_;clear n0_ n1_ n2_ n3_ n4_;(try clear hb);(try clear hb2);(try clear hk);(try clear hi);obtain ⟨hcz16_0,hcz16_1,hcz16_2,hfz16_0,hfz16_1,hfz16_2⟩:=blk3 BK38002.out)|((with_reducible refine gate_builtin (b:=.append) (xs:=#[.tmp 17,.tmp 19]) rfl ?_);at_builtin;refine Kd.R_append k32 (w0:=w0) w0.heap.size rfl (.tmp 17) (.tmp 19) 29 32 (.agg #[(.string ⟨#[]⟩),(.string ⟨#[]⟩),(.string ⟨#[]⟩)]) 48 rfl Tryz.underlying29 info32 rfl (by decide) (by omega) u9000_ l4 (⟨a3_0,a3_1,a3_2⟩:S32) [.string a3_0,.string a3_1,.string a3_2] (fun k_=>(P4_ k_∨w.heap.size≤k_)∧k_ ≠ gb38002) (fun _=>False) rfl rfl ?aP (fun _ hk=>hk.elim) ?aF ?aO ?aB ?aS ?aL ?_;(case aP=>exact k32_mkM _ _ _ (⟨a3_0,a3_1,a3_2⟩:S32));(case aB=>exact za3);(case aF=>exact (fun k_ hk=>⟨(.inr (Nat.le_trans (by first|exact HK.out.1|exact (show Kept w _ (fun k_=>P4_ k_) from za11).1) hk)),Kd.freshB (g:=gb38002) (o:=.cells #[.string a3_0,.string a3_1,.string a3_2] 32 (0,0)) (za1 BK38002.out) k_ hk⟩));(case aO=>exact (za0 HO4.out));(case aS=>exact (below_size za3));(case aL=>have:=LMc9.out;omega);intro v38005 w17 ho hb hg hat;rw [← Ny38004.out] at ho;have n0_:=zk (blk_grown (g:=gb38001) (o:=.cells #[.slice A0_0 l0_0.length c0_0] 26 (0,0)) (za1 BK38001.out) hg (Kd.R_ne HO4.out BK38001.out (by decide)));have n1_:=zk (blk_grown (g:=gb38002) (o:=.cells #[.string a3_0,.string a3_1,.string a3_2] 32 (0,0)) (za1 BK38002.out) hg (Kd.R_away HO4.out (fun _ hk=>hk.2)));have n2_:=zk (hb);have n3_:=zk (Kept.of_grown (S:=(fun k_=>P4_ k_)) hg za11 (fun k_ e_=>(HO4.out.1 k_ e_).1));have n4_:=zk (ho);clear BK38001;clear BK38002;clear HB;clear HK;clear HO4;have BK38001:=n0_;have BK38002:=n1_;have HB:=n2_;have HK:=n3_;have HO38006:=n4_;clear n0_ n1_ n2_ n3_ n4_;clear ho hb hg hat))
  first
  | (
     clear fin0_
     go_ret
     exact ⟨_,za6,by (with_reducible repeat (first|apply Kd.R_alloc|apply Kd.R_drewN|apply Kd.R_drew));exact Kd.R_mono HO38006.out (fun _ hk=>hk.1),za3,za11⟩)
  | (
     clear fin1_
     go_ret
     exact ⟨_,za6,by (with_reducible repeat (first|apply Kd.R_alloc|apply Kd.R_drewN|apply Kd.R_drew));exact Kd.R_mono HO4.out (fun _ hk=>hk.1),za3,za11⟩)
def spec_ModelsUpTo.f (k:Nat) (l0_0:List (S67)) (a1:Int):Option ((List (S32))):=(spec_IsValidProblem.f k l0_0).bind fun t10002=>(if t10002=true then ((spec_BoundOf.f k l0_0).bind fun t10006=>((spec_l1Min.f a1 t10006).bind fun t10007=>((spec_WordsUpTo.f k t10007).bind fun t10008=>(if (t10008.length:Int)=0 then (some (([]:List (S32)))) else ((spec_VarsOfProblem.f k l0_0).bind fun t10014=>((spec_l11All.f k l0_0 t10014 t10008 (⟨#[]⟩:ByteArray) (⟨#[]⟩:ByteArray) (⟨#[]⟩:ByteArray) (([]:List (S32)))).bind fun t10018=>(some t10018))))))) else (some (([]:List (S32)))))
theorem spec_ModelsUpTo.mono:∀ a0 a1 k,LeO (spec_ModelsUpTo.f k a0 a1) (spec_ModelsUpTo.f (k+1) a0 a1):=by
 intro a0 a1 k
 unfold spec_ModelsUpTo.f
 repeat' first
  | (with_reducible exact spec_BoundOf.mono _ _)
  | (with_reducible exact spec_IsValidProblem.mono _ _)
  | (with_reducible exact spec_VarsOfProblem.mono _ _)
  | (with_reducible exact spec_WordsUpTo.mono _ _)
  | (with_reducible exact spec_l11All.mono _ _ _ _ _ _ _ _)
  | (with_reducible exact LeO.refl _)
  | (with_reducible exact LeO.none _)
  | (with_reducible refine LeO.ite ?_ ?_)
  | (with_reducible refine LeO.bind ?_ (fun _=>?_))
def spec_ModelsUpTo.T6:Bool × List (List Nat × List Nat):=(true,[([],[]),([],[]),([1],[1]),([],[]),([],[]),([],[]),([0,2,3,4,5,2],[0,2,3,4,5]),([6,6,0,1,2,3,4,5,6],[6])])
def spec_ModelsUpTo.B6:List Nat:=[0,0,2,0,0,0,63,127]
theorem spec_ModelsUpTo.tab6:rtab .any (opsOf Tryz.f10 6)=spec_ModelsUpTo.T6:=by kernel_rfl
theorem spec_ModelsUpTo.bits6:waitsOk spec_ModelsUpTo.T6.2 spec_ModelsUpTo.B6=true:=by kernel_rfl
theorem spec_ModelsUpTo.calls (k:Nat) (A0_0:Option Addr) (c0_0:Nat) (l0_0:List (S67)) (a1:Int) (r:List (S32)) (w:World) (hr0_0:Kd.C k67 w A0_0 l0_0.length l0_0) (hc0_0:l0_0.length≤c0_0) (h:spec_ModelsUpTo.f k l0_0 a1=some r) :
  Calls Tryz.prog 10 #[.agg #[.slice A0_0 l0_0.length c0_0],.int .i64 a1] w fun e w'=>∃ v0_:Value,e = .returned (v0_)∧Kd.R k32 32 w' w.heap.size (fun _=>True) v0_ r∧Below w.heap.size w w':=by
 have hu26:=Tryz.underlying26
 have hu32:=Tryz.underlying32
 have HR0_0:=zk hr0_0
 have HC0_0:=zk hc0_0
 clear hr0_0 hc0_0
 have HB:=zk (Below.refl w.heap.size w)
 have H:((spec_IsValidProblem.f k l0_0).bind fun t10002=>(if t10002=true then ((spec_BoundOf.f k l0_0).bind fun t10006=>((spec_l1Min.f a1 t10006).bind fun t10007=>((spec_WordsUpTo.f k t10007).bind fun t10008=>(if (t10008.length:Int)=0 then (some (([]:List (S32)))) else ((spec_VarsOfProblem.f k l0_0).bind fun t10014=>((spec_l11All.f k l0_0 t10014 t10008 (⟨#[]⟩:ByteArray) (⟨#[]⟩:ByteArray) (⟨#[]⟩:ByteArray) (([]:List (S32)))).bind fun t10018=>(some t10018))))))) else (some (([]:List (S32))))))=some r:=h
 clear h
 go_enter Tryz.func10,Tryz.ntmps10
 go_upto_region 1 with (first|((with_reducible refine gate_dst (N:=2) rfl ?_);refine zE (N:=2) (cs:=#[.slice A0_0 l0_0.length c0_0]) (t:=26) ?_;intro gb10001 hg w9 hbox hb;have n0_:=zk (below_step za26 hb);have n1_:=zk (hbox);have n2_:=zk (zs (w:=w) hg za26);have n3_:=zk (zs (w:=w) hg za26);clear HB;have HB:=n0_;have BK10001:=n1_;have GW10001:=n2_;have GE10001:=n3_;clear n0_ n1_ n2_ n3_;clear hb hbox hg;have hcz10_0:w9.cell? ⟨gb10001,0,none⟩=some (.slice A0_0 l0_0.length c0_0):=(blk_cell BK10001.out 0).trans rfl;have hfz10_0:=blk_frozen BK10001.out 0))
 replace H:=zo H
 obtain ⟨t10002,A30,H⟩:=H
 replace H:(if t10002=true then ((spec_BoundOf.f k l0_0).bind fun t10006=>((spec_l1Min.f a1 t10006).bind fun t10007=>((spec_WordsUpTo.f k t10007).bind fun t10008=>(if (t10008.length:Int)=0 then (some (([]:List (S32)))) else ((spec_VarsOfProblem.f k l0_0).bind fun t10014=>((spec_l11All.f k l0_0 t10014 t10008 (⟨#[]⟩:ByteArray) (⟨#[]⟩:ByteArray) (⟨#[]⟩:ByteArray) (([]:List (S32)))).bind fun t10018=>(some t10018))))))) else (some (([]:List (S32)))))=some r:=H
 have A3:=zk A30
 clear A30
 by_cases c4:t10002=true
 ·subst c4
  have H1:((spec_BoundOf.f k l0_0).bind fun t10006=>((spec_l1Min.f a1 t10006).bind fun t10007=>((spec_WordsUpTo.f k t10007).bind fun t10008=>(if (t10008.length:Int)=0 then (some (([]:List (S32)))) else ((spec_VarsOfProblem.f k l0_0).bind fun t10014=>((spec_l11All.f k l0_0 t10014 t10008 (⟨#[]⟩:ByteArray) (⟨#[]⟩:ByteArray) (⟨#[]⟩:ByteArray) (([]:List (S32)))).bind fun t10018=>(some t10018)))))))=some r:=by rw [if_pos rfl] at H;exact H
  clear H
  have H:=H1
  clear H1
  replace H:=zo H
  obtain ⟨t10006,A50,H⟩:=H
  replace H:((spec_l1Min.f a1 t10006).bind fun t10007=>((spec_WordsUpTo.f k t10007).bind fun t10008=>(if (t10008.length:Int)=0 then (some (([]:List (S32)))) else ((spec_VarsOfProblem.f k l0_0).bind fun t10014=>((spec_l11All.f k l0_0 t10014 t10008 (⟨#[]⟩:ByteArray) (⟨#[]⟩:ByteArray) (⟨#[]⟩:ByteArray) (([]:List (S32)))).bind fun t10018=>(some t10018))))))=some r:=H
  have A5:=zk A50
  clear A50
  replace H:=zo H
  obtain ⟨t10007,A60,H⟩:=H
  replace H:((spec_WordsUpTo.f k t10007).bind fun t10008=>(if (t10008.length:Int)=0 then (some (([]:List (S32)))) else ((spec_VarsOfProblem.f k l0_0).bind fun t10014=>((spec_l11All.f k l0_0 t10014 t10008 (⟨#[]⟩:ByteArray) (⟨#[]⟩:ByteArray) (⟨#[]⟩:ByteArray) (([]:List (S32)))).bind fun t10018=>(some t10018)))))=some r:=H
  have A6:=zk A60
  clear A60
  replace H:=zo H
  obtain ⟨t10008,A70,H⟩:=H
  replace H:(if (t10008.length:Int)=0 then (some (([]:List (S32)))) else ((spec_VarsOfProblem.f k l0_0).bind fun t10014=>((spec_l11All.f k l0_0 t10014 t10008 (⟨#[]⟩:ByteArray) (⟨#[]⟩:ByteArray) (⟨#[]⟩:ByteArray) (([]:List (S32)))).bind fun t10018=>(some t10018))))=some r:=H
  have A7:=zk A70
  clear A70
  by_cases c8:(t10008.length:Int)=0
  ·rw [if_pos c8] at H
   have c8b0:((t10008.length:Int) == 0)=true:=beq_iff_eq.mpr c8
   have c8b1:((t10008.length:Int) != 0)=false:=bne_eq_false_iff_eq.mpr c8
   clear c8
   obtain ⟨y10011,hy10011⟩:∃ y_:List (S32),y_=(([]:List (S32))):=⟨_,rfl⟩
   replace H:(some y10011)=some r:=by first|(rw [hy10011];with_reducible exact H)|(have H2_:=(Option.bind_some _ _).symm.trans H;rw [hy10011];with_reducible exact H2_)|(have H2_:=(Option.bind_some _ _).symm.trans H;with_reducible exact H2_)|with_reducible exact H|(rw [hy10011];exact H)|exact H
   have Ny10011:=zk hy10011
   clear hy10011
   obtain rfl:=zi H
   go_wp2_with (first|((with_reducible refine gate_callee (f:=35) rfl ?_);refine goesL_ (some 7) rfl rfl Tryz.func35 (by kernel_rfl) rfl #[.agg #[.slice A0_0 l0_0.length c0_0]] rfl za4 ?_;(with_reducible refine (spec_IsValidProblem.calls k _ _ l0_0 true _ ?side1 ?side2 A3.out).mono ?_);(case side1=>repeat (first|exact (Kd.C_below HR0_0.out HB.out)|(with_reducible refine Kd.C_alloc ?_ _)|(with_reducible refine Kd.C_drewN ?_ _)|(with_reducible refine Kd.C_drew ?_)));(case side2=>exact HC0_0.out);rintro e w11 ⟨rfl,hb⟩;refine ⟨_,rfl,?_⟩;have n0_:=zk (zb BK10001.out hb);have n1_:=zk (below_step za9 hb);clear BK10001;clear HB;have BK10001:=n0_;have HB:=n1_;clear n0_ n1_;(try clear hb);(try clear hb2);(try clear hk);(try clear hi);have hcz12_0:w11.cell? ⟨gb10001,0,none⟩=some (.slice A0_0 l0_0.length c0_0):=(blk_cell BK10001.out 0).trans rfl;have hfz12_0:=blk_frozen BK10001.out 0)|((with_reducible refine gate_callee (f:=14) rfl ?_);refine goesL_ (some 12) rfl rfl Tryz.func14 (by kernel_rfl) rfl #[.agg #[.slice A0_0 l0_0.length c0_0]] rfl za4 ?_;(with_reducible refine (spec_BoundOf.calls k _ _ l0_0 t10006 _ ?side1 ?side2 A5.out).mono ?_);(case side1=>repeat (first|exact (Kd.C_below HR0_0.out HB.out)|(with_reducible refine Kd.C_alloc ?_ _)|(with_reducible refine Kd.C_drewN ?_ _)|(with_reducible refine Kd.C_drew ?_)));(case side2=>exact HC0_0.out);rintro e w13 ⟨rfl,hb⟩;refine ⟨_,rfl,?_⟩;have n0_:=zk (zb BK10001.out hb);have n1_:=zk (below_step za9 hb);clear BK10001;clear HB;have BK10001:=n0_;have HB:=n1_;clear n0_ n1_;(try clear hb);(try clear hb2);(try clear hk);(try clear hi))|((with_reducible refine gate_callee (f:=37) rfl ?_);refine goesL_ (some 13) rfl rfl Tryz.func37 (by kernel_rfl) rfl #[.int .i64 a1,.int .i64 t10006] rfl za4 ?_;(with_reducible refine (spec_l1Min.calls a1 t10006 t10007 _ A6.out).mono ?_);rintro e w' ⟨rfl,⟨nd,rfl⟩⟩;refine ⟨_,rfl,?_⟩)|((with_reducible refine gate_callee (f:=36) rfl ?_);refine goesL_ (some 14) rfl rfl Tryz.func36 (by kernel_rfl) rfl #[.int .i64 t10007] rfl za4 ?_;(with_reducible refine (spec_WordsUpTo.calls k t10007 t10008 _ A7.out).mono ?_);rintro e w14 ⟨v10009,rfl,ho0,hb⟩;refine ⟨_,rfl,?_⟩;have n0_:=zk (Kd.R_lower ho0 (below_size za9));have n1_:=zk (zb BK10001.out hb);have n2_:=zk (below_step za9 hb);clear BK10001;clear HB;have HO10010:=n0_;have BK10001:=n1_;have HB:=n2_;clear n0_ n1_ n2_;(try clear hb);(try clear hb2);(try clear hk);(try clear hi);(try clear ho0);obtain ⟨Ao15,co15,eo15⟩:=Kd.R_slice HO10010.out;subst eo15)|((with_reducible refine gate_dst (N:=18) rfl ?_);refine Kd.R_lit k32 _ 32 ?hg (N:=18) ?hd (xs:=([]:List (S32))) (inner:=[]) (ok:=fun _=>True) (okp:=fun _=>True) ?hr ?hp (fun _ hk=>hk) trivial (Below.refl _ _) (Nat.le_refl _) (by simp) ?_;(case hd=>rfl);(case hg=>rfl);(case hr=>first|(go_simp;done)|(go_simp;rfl));(case hp=>exact (Reps.none _ _));intro v10012 w16 ho17 hb hg_ hnew_;clear hg_ hnew_;(first|rw [← Ny10011.out] at ho17|(simp only [Int.reduceToNat] at ho17;rw [← Ny10011.out] at ho17));have n0_:=zk (Kd.R_below (za0 HO10010.out) hb);have n1_:=zk (Kd.R_lower ho17 (below_size za9));have n2_:=zk (zb BK10001.out hb);have n3_:=zk (below_step za9 hb);clear HO10010;clear BK10001;clear HB;have HO10010:=n0_;have HO10013:=n1_;have BK10001:=n2_;have HB:=n3_;clear n0_ n1_ n2_ n3_;clear hb ho17))
   go_ret
   exact ⟨_,za6,za0 HO10013.out,za9⟩
  ·rw [if_neg c8] at H
   have c8b0:((t10008.length:Int) == 0)=false:=beq_eq_false_iff_ne.mpr c8
   have c8b1:((t10008.length:Int) != 0)=true:=bne_iff_ne.mpr c8
   have c8b2:¬ (t10008 = []):=fun h_=>c8 (by rw [h_];rfl)
   replace H:=zo H
   obtain ⟨t10014,A180,H⟩:=H
   replace H:((spec_l11All.f k l0_0 t10014 t10008 (⟨#[]⟩:ByteArray) (⟨#[]⟩:ByteArray) (⟨#[]⟩:ByteArray) (([]:List (S32)))).bind fun t10018=>(some t10018))=some r:=H
   have A18:=zk A180
   clear A180
   obtain ⟨y10015,hy10015⟩:∃ y_:List (S32),y_=(([]:List (S32))):=⟨_,rfl⟩
   replace H:((spec_l11All.f k l0_0 t10014 t10008 (⟨#[]⟩:ByteArray) (⟨#[]⟩:ByteArray) (⟨#[]⟩:ByteArray) y10015).bind fun t10018=>(some t10018))=some r:=by first|(rw [hy10015];with_reducible exact H)|(have H2_:=(Option.bind_some _ _).symm.trans H;rw [hy10015];with_reducible exact H2_)|(have H2_:=(Option.bind_some _ _).symm.trans H;with_reducible exact H2_)|with_reducible exact H|(rw [hy10015];exact H)|exact H
   have Ny10015:=zk hy10015
   clear hy10015
   replace H:=zo H
   obtain ⟨t10018,A190,H⟩:=H
   replace H:(some t10018)=some r:=H
   have A19:=zk A190
   clear A190
   obtain rfl:=zi H
   go_wp2_with (first|((with_reducible refine gate_callee (f:=35) rfl ?_);refine goesL_ (some 7) rfl rfl Tryz.func35 (by kernel_rfl) rfl #[.agg #[.slice A0_0 l0_0.length c0_0]] rfl za4 ?_;(with_reducible refine (spec_IsValidProblem.calls k _ _ l0_0 true _ ?side1 ?side2 A3.out).mono ?_);(case side1=>repeat (first|exact (Kd.C_below HR0_0.out HB.out)|(with_reducible refine Kd.C_alloc ?_ _)|(with_reducible refine Kd.C_drewN ?_ _)|(with_reducible refine Kd.C_drew ?_)));(case side2=>exact HC0_0.out);rintro e w22 ⟨rfl,hb⟩;refine ⟨_,rfl,?_⟩;have n0_:=zk (zb BK10001.out hb);have n1_:=zk (below_step za9 hb);clear BK10001;clear HB;have BK10001:=n0_;have HB:=n1_;clear n0_ n1_;(try clear hb);(try clear hb2);(try clear hk);(try clear hi);have hcz23_0:w22.cell? ⟨gb10001,0,none⟩=some (.slice A0_0 l0_0.length c0_0):=(blk_cell BK10001.out 0).trans rfl;have hfz23_0:=blk_frozen BK10001.out 0)|((with_reducible refine gate_callee (f:=14) rfl ?_);refine goesL_ (some 12) rfl rfl Tryz.func14 (by kernel_rfl) rfl #[.agg #[.slice A0_0 l0_0.length c0_0]] rfl za4 ?_;(with_reducible refine (spec_BoundOf.calls k _ _ l0_0 t10006 _ ?side1 ?side2 A5.out).mono ?_);(case side1=>repeat (first|exact (Kd.C_below HR0_0.out HB.out)|(with_reducible refine Kd.C_alloc ?_ _)|(with_reducible refine Kd.C_drewN ?_ _)|(with_reducible refine Kd.C_drew ?_)));(case side2=>exact HC0_0.out);rintro e w24 ⟨rfl,hb⟩;refine ⟨_,rfl,?_⟩;have n0_:=zk (zb BK10001.out hb);have n1_:=zk (below_step za9 hb);clear BK10001;clear HB;have BK10001:=n0_;have HB:=n1_;clear n0_ n1_;(try clear hb);(try clear hb2);(try clear hk);(try clear hi))|((with_reducible refine gate_callee (f:=37) rfl ?_);refine goesL_ (some 13) rfl rfl Tryz.func37 (by kernel_rfl) rfl #[.int .i64 a1,.int .i64 t10006] rfl za4 ?_;(with_reducible refine (spec_l1Min.calls a1 t10006 t10007 _ A6.out).mono ?_);rintro e w' ⟨rfl,⟨nd,rfl⟩⟩;refine ⟨_,rfl,?_⟩)|((with_reducible refine gate_callee (f:=36) rfl ?_);refine goesL_ (some 14) rfl rfl Tryz.func36 (by kernel_rfl) rfl #[.int .i64 t10007] rfl za4 ?_;(with_reducible refine (spec_WordsUpTo.calls k t10007 t10008 _ A7.out).mono ?_);rintro e w25 ⟨v10009,rfl,ho0,hb⟩;refine ⟨_,rfl,?_⟩;have n0_:=zk (Kd.R_lower ho0 (below_size za9));have n1_:=zk (zb BK10001.out hb);have n2_:=zk (below_step za9 hb);clear BK10001;clear HB;have HO10010:=n0_;have BK10001:=n1_;have HB:=n2_;clear n0_ n1_ n2_;(try clear hb);(try clear hb2);(try clear hk);(try clear hi);(try clear ho0);obtain ⟨Ao26,co26,eo26⟩:=Kd.R_slice HO10010.out;subst eo26))
   have n0_:=zk (Kd.R_drew HO10010.out)
   have n1_:=zk (blk_drew BK10001.out)
   have n2_:=zk (below_drew1 HB.out)
   clear HO10010
   clear BK10001
   clear HB
   have HO10010:=n0_
   have BK10001:=n1_
   have HB:=n2_
   clear n0_ n1_ n2_
   refine start_ (n:=8) (S:=fun w'=>w'.cell? ⟨gb10001,0,none⟩=some (.slice A0_0 l0_0.length c0_0)) (ds:=[]) #[false,false,false,false,false,false,false,false] (by kernel_rfl) rfl rfl ((blk_cell BK10001.out 0).trans rfl) (fun hHeld=>?_);refine with_tabW spec_ModelsUpTo.tab6 spec_ModelsUpTo.bits6 (fun HT_ HW_=>?_)
   generalize w25.drew=w27 at HO10010 BK10001 HB hHeld ⊢
   refine pure_ (i:=3) (N:=some 22) (v:=?_) (a':=?_) #[false,false,false,true,false,false,false,false] rfl rfl (any_of HT_.out (by kernel_rfl)) (fun _ _ _ h=>h) (Or.inl ⟨by rfl,?_⟩) ?_ ?_
   rotate_left
   ·intro w'
    go_simp
    exact zr1
   rotate_left
   ·simp only [Act.put,zt,zu,zv,i64_w,i32_w]
    rfl
   refine pure_ (i:=4) (N:=some 23) (v:=?_) (a':=?_) #[false,false,false,true,true,false,false,false] rfl rfl (any_of HT_.out (by kernel_rfl)) (fun _ _ _ h=>h) (Or.inl ⟨by rfl,?_⟩) ?_ ?_
   rotate_left
   ·intro w'
    go_simp
    exact zr1
   rotate_left
   ·simp only [Act.put,zt,zu,zv,i64_w,i32_w]
    rfl
   refine take_ (i:=0) (N:=some 19) (v:=?_) (a':=?_) #[true,false,false,true,true,false,false,false] rfl rfl (take_ofW HT_.out HW_.out (by kernel_rfl)) (fun _ _ _ h=>h) (Or.inl ⟨by rfl,?_⟩) hHeld ?_ ?_
   rotate_left
   ·intro w' s0
    go_simp
    exact zr1
   rotate_left
   ·simp only [Act.put,zt,zu,zv,i64_w,i32_w]
    rfl
   refine take_ (i:=1) (N:=some 20) (v:=?_) (a':=?_) #[true,true,false,true,true,false,false,false] rfl rfl (take_ofW HT_.out HW_.out (by kernel_rfl)) (fun _ _ _ h=>h) (Or.inl ⟨by rfl,?_⟩) hHeld ?_ ?_
   rotate_left
   ·intro w' s0
    go_simp
    exact zr1
   rotate_left
   ·simp only [Act.put,zt,zu,zv,i64_w,i32_w]
    rfl
   refine join_ (σ:=Value) 2 #[true,true,true,true,true,true,false,false] (fun s_ => [(21,.string t10014),(24,s_)]) (fun s_ w'=>(w'.cell? ⟨gb10001,0,none⟩=some (.slice A0_0 l0_0.length c0_0))∧(Kd.R Kd.string 9 w' w.heap.size (fun _=>True) (.slice Ao26 t10008.length co26) t10008)∧(Kd.R k32 32 w' w.heap.size (fun _=>True) s_ y10015)∧(w'.heap[gb10001]? = some (.cells #[.slice A0_0 l0_0.length c0_0] 26 (0,0)))∧(Below w.heap.size w w')) ?_ ?_
   rotate_left
   ·intro hCont
    refine two_ (i:=2) (j:=5) (Ni:=some 21) (Nj:=some 24) #[true,true,true,true,true,false,false,false] #[true,true,false,true,true,true,false,false] rfl rfl rfl rfl (two_of HT_.out (by kernel_rfl)) (by decide) (by decide) (fun K hK=>?_) (fun K hK=>?_)
    ·skip
     refine goes_ Tryz.func39 (by kernel_rfl) rfl #[.agg #[.slice A0_0 l0_0.length c0_0]] (by rfl) rfl rfl za4 ?_
     with_reducible refine (spec_VarsOfProblem.calls k _ _ l0_0 t10014 _ ?side1 ?side2 A18.out).mono ?_
     (case side1=>repeat (first|exact (Kd.C_below HR0_0.out HB.out)|(with_reducible refine Kd.C_alloc ?_ _)|(with_reducible refine Kd.C_drewN ?_ _)|(with_reducible refine Kd.C_drew ?_)))
     (case side2=>exact HC0_0.out)
     rintro e w28 ⟨rfl,hb⟩
     refine ⟨_,rfl,?_⟩
     have n0_:=zk (Kd.R_below (za0 HO10010.out) hb)
     have n1_:=zk (zb BK10001.out hb)
     have n2_:=zk (below_step za9 hb)
     clear HO10010
     clear BK10001
     clear HB
     have HO10010:=n0_
     have BK10001:=n1_
     have HB:=n2_
     clear n0_ n1_ n2_
     (try clear hb)
     (try clear hb2)
     (try clear hk)
     (try clear hi)
     refine hK.out _ _ ((blk_cell BK10001.out 0).trans rfl) (fun hHeld=>?_)
     clear hK K
     refine norm_ (a':=?_) ?_ ?_
     rotate_left
     ·show Act.put _ (some 21) _=_
      simp only [Act.put,zt,zu,zv,i64_w,i32_w]
      rfl
     refine one_ (i:=5) (N:=some 24) #[true,true,true,true,true,true,false,false] rfl rfl (one_of HT_.out (by kernel_rfl)) (by decide) (fun K hK=>?_)
     refine Kd.R_lit_step k32 _ 32 ?hg (N:=24) ?hd (xs:=([]:List (S32))) (inner:=[]) (ok:=fun _=>True) (okp:=fun _=>True) ?hr ?hp (fun _ hk=>hk) trivial (Below.refl _ _) (Nat.le_refl _) (by simp) ?_;(case hd=>rfl);(case hg=>rfl);(case hr=>first|(go_simp;done)|(go_simp;rfl));(case hp=>exact (Reps.none _ _))
     intro v10016 w29 ho30 hb hg_ hnew_
     clear hg_ hnew_
     (first|rw [← Ny10015.out] at ho30|(simp only [Int.reduceToNat] at ho30;rw [← Ny10015.out] at ho30))
     have n0_:=zk (Kd.R_below (za0 HO10010.out) hb)
     have n1_:=zk (Kd.R_lower ho30 (below_size za9))
     have n2_:=zk (zb BK10001.out hb)
     have n3_:=zk (below_step za9 hb)
     clear HO10010
     clear BK10001
     clear HB
     have HO10010:=n0_
     have HO10017:=n1_
     have BK10001:=n2_
     have HB:=n3_
     clear n0_ n1_ n2_ n3_
     clear hb ho30
     refine hK.out _ _ ((blk_cell BK10001.out 0).trans rfl) (fun hHeld=>?_)
     clear hK K
     refine norm_ (a':=?_) ?_ ?_
     rotate_left
     ·show Act.put _ (some 24) _=_
      simp only [Act.put,zt,zu,zv,i64_w,i32_w]
      rfl
     exact norm_ (by simp only [putAll,Act.put,zt,zu,zv]) (hCont (v10016) _ ⟨hHeld,(za0 HO10010.out),(za0 HO10017.out),(za1 BK10001.out),za9⟩)
    ·skip
     refine Kd.R_lit_step k32 _ 32 ?hg (N:=24) ?hd (xs:=([]:List (S32))) (inner:=[]) (ok:=fun _=>True) (okp:=fun _=>True) ?hr ?hp (fun _ hk=>hk) trivial (Below.refl _ _) (Nat.le_refl _) (by simp) ?_;(case hd=>rfl);(case hg=>rfl);(case hr=>first|(go_simp;done)|(go_simp;rfl));(case hp=>exact (Reps.none _ _))
     intro v10016 w28 ho29 hb hg_ hnew_
     clear hg_ hnew_
     (first|rw [← Ny10015.out] at ho29|(simp only [Int.reduceToNat] at ho29;rw [← Ny10015.out] at ho29))
     have n0_:=zk (Kd.R_below (za0 HO10010.out) hb)
     have n1_:=zk (Kd.R_lower ho29 (below_size za9))
     have n2_:=zk (zb BK10001.out hb)
     have n3_:=zk (below_step za9 hb)
     clear HO10010
     clear BK10001
     clear HB
     have HO10010:=n0_
     have HO10017:=n1_
     have BK10001:=n2_
     have HB:=n3_
     clear n0_ n1_ n2_ n3_
     clear hb ho29
     refine hK.out _ _ ((blk_cell BK10001.out 0).trans rfl) (fun hHeld=>?_)
     clear hK K
     refine norm_ (a':=?_) ?_ ?_
     rotate_left
     ·show Act.put _ (some 24) _=_
      simp only [Act.put,zt,zu,zv,i64_w,i32_w]
      rfl
     refine one_ (i:=2) (N:=some 21) #[true,true,true,true,true,true,false,false] rfl rfl (one_of HT_.out (by kernel_rfl)) (by decide) (fun K hK=>?_)
     refine goes_ Tryz.func39 (by kernel_rfl) rfl #[.agg #[.slice A0_0 l0_0.length c0_0]] (by rfl) rfl rfl za4 ?_
     with_reducible refine (spec_VarsOfProblem.calls k _ _ l0_0 t10014 _ ?side1 ?side2 A18.out).mono ?_
     (case side1=>repeat (first|exact (Kd.C_below HR0_0.out HB.out)|(with_reducible refine Kd.C_alloc ?_ _)|(with_reducible refine Kd.C_drewN ?_ _)|(with_reducible refine Kd.C_drew ?_)))
     (case side2=>exact HC0_0.out)
     rintro e w30 ⟨rfl,hb⟩
     refine ⟨_,rfl,?_⟩
     have n0_:=zk (Kd.R_below (za0 HO10010.out) hb)
     have n1_:=zk (Kd.R_below (za0 HO10017.out) hb)
     have n2_:=zk (zb BK10001.out hb)
     have n3_:=zk (below_step za9 hb)
     clear HO10010
     clear HO10017
     clear BK10001
     clear HB
     have HO10010:=n0_
     have HO10017:=n1_
     have BK10001:=n2_
     have HB:=n3_
     clear n0_ n1_ n2_ n3_
     (try clear hb)
     (try clear hb2)
     (try clear hk)
     (try clear hi)
     refine hK.out _ _ ((blk_cell BK10001.out 0).trans rfl) (fun hHeld=>?_)
     clear hK K
     refine norm_ (a':=?_) ?_ ?_
     rotate_left
     ·show Act.put _ (some 21) _=_
      simp only [Act.put,zt,zu,zv,i64_w,i32_w]
      rfl
     exact norm_ (by simp only [putAll,Act.put,zt,zu,zv]) (hCont (v10016) _ ⟨hHeld,(za0 HO10010.out),(za0 HO10017.out),(za1 BK10001.out),za9⟩)
   rintro v10016 w31 ⟨hS_,h0_,h1_,h2_,h3_⟩
   have n0_:Aside0 (Kd.R Kd.string 9 w31 w.heap.size (fun _=>True) (.slice Ao26 t10008.length co26) t10008):=⟨h0_⟩
   have n1_:Aside0 (Kd.R k32 32 w31 w.heap.size (fun _=>True) v10016 y10015):=⟨h1_⟩
   have n2_:Aside0 (w31.heap[gb10001]? = some (.cells #[.slice A0_0 l0_0.length c0_0] 26 (0,0))):=⟨h2_⟩
   have n3_:Aside0 (Below w.heap.size w w31):=⟨h3_⟩
   clear HO10010
   clear BK10001
   clear HB
   clear h0_ h1_ h2_ h3_
   have HO10010:=n0_
   have HO10017:=n1_
   have BK10001:=n2_
   have HB:=n3_
   clear n0_ n1_ n2_ n3_
   have hHeld:w31.cell? ⟨gb10001,0,none⟩=some (.slice A0_0 l0_0.length c0_0):=hS_
   obtain ⟨Ao32,co32,eo32⟩:=Kd.R_slice HO10017.out
   (first|subst eo32|(injection eo32 with f1_ f2_ f3_;have f4_:=f1_.symm;have f5_:=f3_.symm;clear f1_ f2_ f3_;subst f4_;subst f5_))
   refine norm_ (a':=?_) ?_ ?_
   rotate_left
   ·simp only [putAll,Act.put,zt,zu,zv]
    rfl
   refine one_ (i:=6) (N:=some 25) #[true,true,true,true,true,true,true,false] rfl rfl (one_of HT_.out (by kernel_rfl)) (by decide) (fun K hK=>?_)
   refine goes_ Tryz.func38 (by kernel_rfl) rfl #[.agg #[.slice A0_0 l0_0.length c0_0],.string t10014,.slice Ao26 t10008.length co26,.agg #[.string (⟨#[]⟩:ByteArray),.string (⟨#[]⟩:ByteArray),.string (⟨#[]⟩:ByteArray)],.slice Ao32 y10015.length co32] (by rfl) rfl rfl za4 ?_
   with_reducible refine (spec_l11All.calls k _ _ l0_0 t10014 _ _ t10008 (⟨#[]⟩:ByteArray) (⟨#[]⟩:ByteArray) (⟨#[]⟩:ByteArray) (fun k_=>some k_=(.slice Ao32 y10015.length co32:Value).ownBlock) (.slice Ao32 y10015.length co32) y10015 t10018 w _ ?side1 ?side2 ?side3 ?side4 ?side5 ?side6 A19.out).mono ?_
   (case side1=>repeat (first|(with_reducible first|exact HB.out|apply below_alloc|apply pw_below_drewN|apply below_drew1|refine below_set ?_ GE10001.out)|exact HB.out))
   (case side2=>exact Kd.C_kept_came k67_heap HR0_0.out za9 (fun k_ hs_=>(fun e_=>Kd.R_base HO10017.out k_ e_.symm) hs_))
   (case side3=>exact HC0_0.out)
   (case side4=>exact Kd.C_kept_own ((Kd.R_apart' HO10010.out (Kd.R_typed HO10017.out) (by decide))) (fun k_ hk_ hs_=>(hk_.2) hs_))
   (case side5=>exact (Kd.R_reads' HO10010.out).2.1)
   (case side6=>exact Kd.R_tight rfl HO10017.out)
   rintro e w33 ⟨v10019,rfl,ho0,hb,hkp⟩
   refine ⟨_,rfl,?_⟩
   have n0_:=zk (blk_kept (za1 BK10001.out) hkp (fun hs_=>(fun e_=>(Kd.R_ne HO10017.out BK10001.out (by decide)) e_) hs_))
   have n1_:=zk (Kd.R_mono (ok':=fun k_=>True) (Kd.R_keptB ((Kd.R_apart' HO10010.out (Kd.R_typed HO10017.out) (by decide))) hkp (fun k_ hk_ hs_=>(hk_.2) hs_)) (fun k_ hk_=>trivial))
   have n2_:=zk (Kd.R_mono (ok':=fun k_=>True) ho0 (fun k_ hk_=>trivial))
   have n3_:=zk (hb)
   clear BK10001
   clear HO10010
   clear HB
   clear HO10017
   have BK10001:=n0_
   have HO10010:=n1_
   have HO10020:=n2_
   have HB:=n3_
   clear n0_ n1_ n2_ n3_
   (try clear hb)
   (try clear hkp)
   (try clear ho0)
   refine hK.out _ _ ((blk_cell BK10001.out 0).trans rfl) (fun hHeld=>?_)
   clear hK K
   refine norm_ (a':=?_) ?_ ?_
   rotate_left
   ·show Act.put _ (some 25) _=_
    simp only [Act.put,zt,zu,zv,i64_w,i32_w]
    rfl
   refine pure_ (i:=7) (N:=some 4) (v:=?_) (a':=?_) #[true,true,true,true,true,true,true,true] rfl rfl (any_of HT_.out (by kernel_rfl)) (fun _ _ _ h=>h) (Or.inl ⟨by rfl,?_⟩) ?_ ?_
   rotate_left
   ·intro w'
    go_simp
    exact zr1
   rotate_left
   ·simp only [Act.put,zt,zu,zv,i64_w,i32_w]
    rfl
   refine done_ (done_of HT_.out (by kernel_rfl)) ?_
   try go_wp2
   go_ret
   exact ⟨_,za6,za0 HO10020.out,za9⟩
 ·replace c4:=Bool.eq_false_iff.mpr c4
  subst c4
  have H1:(some (([]:List (S32))))=some r:=by rw [if_neg (show ¬ (false=true) by decide)] at H;exact H
  clear H
  have H:=H1
  clear H1
  obtain ⟨y10003,hy10003⟩:∃ y_:List (S32),y_=(([]:List (S32))):=⟨_,rfl⟩
  replace H:(some y10003)=some r:=by first|(rw [hy10003];with_reducible exact H)|(have H2_:=(Option.bind_some _ _).symm.trans H;rw [hy10003];with_reducible exact H2_)|(have H2_:=(Option.bind_some _ _).symm.trans H;with_reducible exact H2_)|with_reducible exact H|(rw [hy10003];exact H)|exact H
  have Ny10003:=zk hy10003
  clear hy10003
  obtain rfl:=zi H
  go_wp2_with (first|((with_reducible refine gate_callee (f:=35) rfl ?_);refine goesL_ (some 7) rfl rfl Tryz.func35 (by kernel_rfl) rfl #[.agg #[.slice A0_0 l0_0.length c0_0]] rfl za4 ?_;(with_reducible refine (spec_IsValidProblem.calls k _ _ l0_0 false _ ?side1 ?side2 A3.out).mono ?_);(case side1=>repeat (first|exact (Kd.C_below HR0_0.out HB.out)|(with_reducible refine Kd.C_alloc ?_ _)|(with_reducible refine Kd.C_drewN ?_ _)|(with_reducible refine Kd.C_drew ?_)));(case side2=>exact HC0_0.out);rintro e w36 ⟨rfl,hb⟩;refine ⟨_,rfl,?_⟩;have n0_:=zk (zb BK10001.out hb);have n1_:=zk (below_step za9 hb);clear BK10001;clear HB;have BK10001:=n0_;have HB:=n1_;clear n0_ n1_;(try clear hb);(try clear hb2);(try clear hk);(try clear hi))|((with_reducible refine gate_dst (N:=9) rfl ?_);refine Kd.R_lit k32 _ 32 ?hg (N:=9) ?hd (xs:=([]:List (S32))) (inner:=[]) (ok:=fun _=>True) (okp:=fun _=>True) ?hr ?hp (fun _ hk=>hk) trivial (Below.refl _ _) (Nat.le_refl _) (by simp) ?_;(case hd=>rfl);(case hg=>rfl);(case hr=>first|(go_simp;done)|(go_simp;rfl));(case hp=>exact (Reps.none _ _));intro v10004 w37 ho38 hb hg_ hnew_;clear hg_ hnew_;(first|rw [← Ny10003.out] at ho38|(simp only [Int.reduceToNat] at ho38;rw [← Ny10003.out] at ho38));have n0_:=zk (Kd.R_lower ho38 (below_size za9));have n1_:=zk (zb BK10001.out hb);have n2_:=zk (below_step za9 hb);clear BK10001;clear HB;have HO10005:=n0_;have BK10001:=n1_;have HB:=n2_;clear n0_ n1_ n2_;clear hb ho38))
  go_ret
  exact ⟨_,za6,za0 HO10005.out,za9⟩
def laws_eqValues.f (a0_0:ByteArray) (a0_1:ByteArray) (a0_2:ByteArray) (a1_0:ByteArray) (a1_1:ByteArray) (a1_2:ByteArray):Option (Bool):=if a0_0.toList=a1_0.toList then (if a0_1.toList=a1_1.toList then (if a0_2.toList=a1_2.toList then (some true) else (some false)) else (some false)) else (some false)
theorem laws_eqValues.calls (a0_0:ByteArray) (a0_1:ByteArray) (a0_2:ByteArray) (a1_0:ByteArray) (a1_1:ByteArray) (a1_2:ByteArray) (r:Bool) (w:World) (h:laws_eqValues.f a0_0 a0_1 a0_2 a1_0 a1_1 a1_2=some r) :
   Calls Tryz.prog 22 #[.agg #[.string a0_0,.string a0_1,.string a0_2],.agg #[.string a1_0,.string a1_1,.string a1_2]] w fun e w'=>e = .returned (.bool r)∧Below w.heap.size w w':=by
 have hu32:=Tryz.underlying32
 have HB:=zk (Below.refl w.heap.size w)
 have H:(if a0_0.toList=a1_0.toList then (if a0_1.toList=a1_1.toList then (if a0_2.toList=a1_2.toList then (some true) else (some false)) else (some false)) else (some false))=some r:=h
 clear h
 by_cases c3:a0_0.toList=a1_0.toList
 rw [if_pos c3] at H
 have c3b0:(a0_0.toList == a1_0.toList)=true:=beq_iff_eq.mpr c3
 have c3b1:(a0_0.toList != a1_0.toList)=false:=bne_eq_false_iff_eq.mpr c3
 clear c3
 by_cases c4:a0_1.toList=a1_1.toList
 rw [if_pos c4] at H
 have c4b0:(a0_1.toList == a1_1.toList)=true:=beq_iff_eq.mpr c4
 have c4b1:(a0_1.toList != a1_1.toList)=false:=bne_eq_false_iff_eq.mpr c4
 clear c4
 by_cases c5:a0_2.toList=a1_2.toList
 rw [if_pos c5] at H
 have c5b0:(a0_2.toList == a1_2.toList)=true:=beq_iff_eq.mpr c5
 have c5b1:(a0_2.toList != a1_2.toList)=false:=bne_eq_false_iff_eq.mpr c5
 clear c5
 rotate_left
 rw [if_neg c5] at H
 have c5b0:(a0_2.toList == a1_2.toList)=false:=beq_eq_false_iff_ne.mpr c5
 have c5b1:(a0_2.toList != a1_2.toList)=true:=bne_iff_ne.mpr c5
 rotate_left
 rw [if_neg c4] at H
 have c4b0:(a0_1.toList == a1_1.toList)=false:=beq_eq_false_iff_ne.mpr c4
 have c4b1:(a0_1.toList != a1_1.toList)=true:=bne_iff_ne.mpr c4
 rotate_left
 rw [if_neg c3] at H
 have c3b0:(a0_0.toList == a1_0.toList)=false:=beq_eq_false_iff_ne.mpr c3
 have c3b1:(a0_0.toList != a1_0.toList)=true:=bne_iff_ne.mpr c3
 rotate_left
 all_goals
  obtain rfl:=zi H
  go_enter Tryz.func22,Tryz.ntmps22
  go_wp2_with (first|((with_reducible refine gate_dst (N:=2) rfl ?_);refine zE (N:=2) (cs:=#[.string a0_0,.string a0_1,.string a0_2]) (t:=32) ?_;intro gb22001 hg w11 hbox hb;have n0_:=zk (below_step za3 hb);have n1_:=zk (hbox);have n2_:=zk (zs (w:=w) hg za3);have n3_:=zk (zs (w:=w) hg za3);clear HB;have HB:=n0_;have BK22001:=n1_;have GW22001:=n2_;have GE22001:=n3_;clear n0_ n1_ n2_ n3_;clear hb hbox hg)|((with_reducible refine gate_dst (N:=3) rfl ?_);refine zE (N:=3) (cs:=#[.string a1_0,.string a1_1,.string a1_2]) (t:=32) ?_;intro gb22002 hg w12 hbox hb;have n0_:=zk (zb BK22001.out hb);have n1_:=zk (below_step za3 hb);have n2_:=zk (hbox);have n3_:=zk (zs (w:=w) hg za3);have n4_:=zk (zs (w:=w) hg za3);have n5_:=zk ((by rw [hg];exact Nat.ne_of_lt (zl BK22001.out):gb22001 ≠ gb22002));have n6_:=zk ((by rw [hg];exact Nat.ne_of_gt (zl BK22001.out):gb22002 ≠ gb22001));clear BK22001;clear HB;have BK22001:=n0_;have HB:=n1_;have BK22002:=n2_;have GW22002:=n3_;have GE22002:=n4_;have NB22001_22002:=n5_;have NB22002_22001:=n6_;clear n0_ n1_ n2_ n3_ n4_ n5_ n6_;clear hb hbox hg;have hnb13:=NB22001_22002.out;have hnc13:=NB22002_22001.out;obtain ⟨hcz14_0,hcz14_1,hcz14_2,hfz14_0,hfz14_1,hfz14_2⟩:=blk3 BK22001.out;obtain ⟨hcz15_0,hcz15_1,hcz15_2,hfz15_0,hfz15_1,hfz15_2⟩:=blk3 BK22002.out))
  go_ret
  exact ⟨za6,za3⟩
def laws_eqValuesS.l0:Nat→List (S32)→List (S32)→Int→Option (Bool)
 | 0,_,_,_=>none
 | k+1,x0,x1,x5=>if x5 < (x0.length:Int) then (if 0≤x5 then (if x5 < (x1.length:Int) then ((laws_eqValues.f ((rd_T32 x0 x5).f0) ((rd_T32 x0 x5).f1) ((rd_T32 x0 x5).f2) ((rd_T32 x1 x5).f0) ((rd_T32 x1 x5).f1) ((rd_T32 x1 x5).f2)).bind fun t25003=>(if t25003=true then (laws_eqValuesS.l0 k x0 x1 (wrap64 (x5+1))) else (some false))) else (none)) else (none)) else (some true)
def laws_eqValuesS.f (k:Nat) (l0:List (S32)) (l1:List (S32)):Option (Bool):=if (l0.length:Int)=(l1.length:Int) then (laws_eqValuesS.l0 k l0 l1 0) else (some false)
theorem laws_eqValuesS.mono_l:∀ k,(∀ y0 y1 y2,LeO (laws_eqValuesS.l0 k y0 y1 y2) (laws_eqValuesS.l0 (k+1) y0 y1 y2))
 | 0=>fun _ _ _ r h=>by simp [laws_eqValuesS.l0] at h
 | k+1=>by
  have ih0:=laws_eqValuesS.mono_l k
  ·intro y0 y1 y2
   unfold laws_eqValuesS.l0
   repeat' first
   | with_reducible first|exact ih0 _ _ _|exact LeO.refl _|exact LeO.none _|refine LeO.ite ?_ ?_|refine LeO.bind ?_ (fun _=>?_)
theorem laws_eqValuesS.mono:∀ a0 a1 k,LeO (laws_eqValuesS.f k a0 a1) (laws_eqValuesS.f (k+1) a0 a1):=by
 intro a0 a1 k
 have ih0:=laws_eqValuesS.mono_l k
 unfold laws_eqValuesS.f
 repeat' first
  | with_reducible first|exact ih0 _ _ _|exact LeO.refl _|exact LeO.none _|refine LeO.ite ?_ ?_|refine LeO.bind ?_ (fun _=>?_)
def laws_eqValuesS.T6:Bool × List (List Nat × List Nat):=(true,[([],[]),([],[]),([0,1],[0,1]),([2],[2]),([],[]),([],[]),([4,5],[4,5]),([6],[6]),([3,7],[3,7]),([8],[8])])
def laws_eqValuesS.B6:List Nat:=[0,0,3,7,0,0,48,112,255,511]
theorem laws_eqValuesS.tab6:rtab .any (opsOf Tryz.f25 6)=laws_eqValuesS.T6:=by kernel_rfl
theorem laws_eqValuesS.bits6:waitsOk laws_eqValuesS.T6.2 laws_eqValuesS.B6=true:=by kernel_rfl
theorem laws_eqValuesS.calls (k:Nat) (A0:Option Addr) (c0:Nat) (l0:List (S32)) (A1:Option Addr) (c1:Nat) (l1:List (S32)) (r:Bool) (w:World) (hr0:Kd.C k32 w A0 l0.length l0) (hc0:l0.length≤c0) (hr1:Kd.C k32 w A1 l1.length l1) (hc1:l1.length≤c1) (h:laws_eqValuesS.f k l0 l1=some r) :
  Calls Tryz.prog 25 #[.slice A0 l0.length c0,.slice A1 l1.length c1] w fun e w'=>e = .returned (.bool r)∧Below w.heap.size w w':=by
 have hu32:=Tryz.underlying32
 have HR0:=zk hr0
 have HC0:=zk hc0
 clear hr0 hc0
 have HR1:=zk hr1
 have HC1:=zk hc1
 clear hr1 hc1
 have HB:=zk (Below.refl w.heap.size w)
 have H:(if (l0.length:Int)=(l1.length:Int) then (laws_eqValuesS.l0 k l0 l1 0) else (some false))=some r:=h
 clear h
 by_cases c3:(l0.length:Int)=(l1.length:Int)
 ·rw [if_pos c3] at H
  have c3b0:((l0.length:Int) == (l1.length:Int))=true:=beq_iff_eq.mpr c3
  have c3b1:((l0.length:Int) != (l1.length:Int))=false:=bne_eq_false_iff_eq.mpr c3
  have c3b2:(l0.length == l1.length)=true:=by first|simpa using c3|(simp at c3 ⊢;omega)
  clear c3
  have H':=zk H
  clear H
  go_enter Tryz.func25,Tryz.ntmps25
  go_wp2
  first|go_loopg [5] k (fun kq v5 w'=>∃ (x5_1:Int),v5 = .int .i64 x5_1∧Aside0 (laws_eqValuesS.l0 kq l0 l1 x5_1=some r)∧Aside0 (kq≤k)∧Aside0 (Below w.heap.size w w'))|(simp only [Act.put,zt,zv,zu];go_loopg [5] k (fun kq v5 w'=>∃ (x5_1:Int),v5 = .int .i64 x5_1∧Aside0 (laws_eqValuesS.l0 kq l0 l1 x5_1=some r)∧Aside0 (kq≤k)∧Aside0 (Below w.heap.size w w')))
  case atStart=>exact ⟨(0),za7,H',⟨Nat.le_refl _⟩,⟨za3⟩⟩
  case round =>
   clear H'
   try clear c3
   try clear c3b0
   try clear c3b1
   try clear c3b2
   obtain ⟨x5_1,rfl,HA,HK1,HB⟩:=hrel
   cases gk with
   | zero=>exact absurd HA.out (by simp [laws_eqValuesS.l0])
   | succ k1 =>
    have H:=HA.out
    clear HA
    simp only [laws_eqValuesS.l0] at H
    by_cases c4:x5_1 < (l0.length:Int)
    rw [if_pos c4] at H
    have c4b0:decide (x5_1 < (l0.length:Int))=true:=decide_eq_true c4
    clear c4
    by_cases c5:0≤x5_1
    rw [if_pos c5] at H
    have c5b0:decide (0≤x5_1)=true:=decide_eq_true c5
    clear c5
    by_cases c6:x5_1 < (l1.length:Int)
    rw [if_pos c6] at H
    have c6b0:decide (x5_1 < (l1.length:Int))=true:=decide_eq_true c6
    clear c6
    replace H:=zo H
    obtain ⟨t25003,A70,H⟩:=H
    replace H:(if t25003=true then (laws_eqValuesS.l0 k1 l0 l1 (wrap64 (x5_1+1))) else (some false))=some r:=H
    have A7:=zk A70
    clear A70
    by_cases c8:t25003=true
    subst c8
    have H1:(laws_eqValuesS.l0 k1 l0 l1 (wrap64 (x5_1+1)))=some r:=by rw [if_pos rfl] at H;exact H
    clear H
    have H:=H1
    clear H1
    have H':=zk H
    clear H
    have fin1_:=zk trivial
    rotate_left
    replace c8:=Bool.eq_false_iff.mpr c8
    subst c8
    have H1:(some false)=some r:=by rw [if_neg (show ¬ (false=true) by decide)] at H;exact H
    clear H
    have H:=H1
    clear H1
    obtain rfl:=zi H
    have fin0_:=zk trivial
    rotate_left
    · rw [if_neg c6] at H
      exact absurd H (by simp)
    · rw [if_neg c5] at H
      exact absurd H (by simp)
    · rw [if_neg c4] at H
      have c4b0:decide (x5_1 < (l0.length:Int))=false:=decide_eq_false c4
      clear c4
      obtain rfl:=zi H
      go_wp2
      go_ret
      exact ⟨za6,za3⟩
    all_goals
     try go_wp2
     have n0_:=zk (below_drew1 HB.out)
     clear HB
     have HB:=n0_
     clear n0_
     have p25001:0≤(x5_1:Int):=of_decide_eq_true za8
     have q25001:x5_1 < (l0.length:Int):=of_decide_eq_true za8
     obtain ⟨ad25001,e25001,hx25001_0,hx25001_1,hx25001_2⟩:=at_T32 HR0.out x5_1 p25001 q25001
     have hw25001_2:=hx25001_2
     have hw25001_1:=hx25001_1
     have hw25001_0:=hx25001_0
     cases e25001
     replace hx25001_0:=zx HB.out hx25001_0
     replace hx25001_1:=zx HB.out hx25001_1
     replace hx25001_2:=zx HB.out hx25001_2
     replace p25001:=eq_true p25001
     replace q25001:=eq_true q25001
     have p25002:0≤(x5_1:Int):=of_decide_eq_true za8
     have q25002:x5_1 < (l1.length:Int):=of_decide_eq_true za8
     obtain ⟨ad25002,e25002,hx25002_0,hx25002_1,hx25002_2⟩:=at_T32 HR1.out x5_1 p25002 q25002
     have hw25002_2:=hx25002_2
     have hw25002_1:=hx25002_1
     have hw25002_0:=hx25002_0
     cases e25002
     replace hx25002_0:=zx HB.out hx25002_0
     replace hx25002_1:=zx HB.out hx25002_1
     replace hx25002_2:=zx HB.out hx25002_2
     replace p25002:=eq_true p25002
     replace q25002:=eq_true q25002
     refine start_ (n:=10) (S:=fun w'=>w'.cell? (ad25001.add ((x5_1).toNat * 3))=some (.string ((rd_T32 l0 x5_1).f0))∧w'.cell? ⟨(ad25001.add ((x5_1).toNat * 3)).block,(ad25001.add ((x5_1).toNat * 3)).off+1,none⟩=some (.string ((rd_T32 l0 x5_1).f1))∧w'.cell? ⟨(ad25001.add ((x5_1).toNat * 3)).block,(ad25001.add ((x5_1).toNat * 3)).off+2,none⟩=some (.string ((rd_T32 l0 x5_1).f2))∧w'.cell? (ad25002.add ((x5_1).toNat * 3))=some (.string ((rd_T32 l1 x5_1).f0))∧w'.cell? ⟨(ad25002.add ((x5_1).toNat * 3)).block,(ad25002.add ((x5_1).toNat * 3)).off+1,none⟩=some (.string ((rd_T32 l1 x5_1).f1))∧w'.cell? ⟨(ad25002.add ((x5_1).toNat * 3)).block,(ad25002.add ((x5_1).toNat * 3)).off+2,none⟩=some (.string ((rd_T32 l1 x5_1).f2))) (ds:=[]) #[false,false,false,false,false,false,false,false,false,false] (by kernel_rfl) rfl rfl ⟨((HB.out.cell (World.block_lt_of_cell? w _ hw25001_0)).trans hw25001_0),((HB.out.cell (World.block_lt_of_cell? w _ hw25001_1)).trans hw25001_1),((HB.out.cell (World.block_lt_of_cell? w _ hw25001_2)).trans hw25001_2),((HB.out.cell (World.block_lt_of_cell? w _ hw25002_0)).trans hw25002_0),((HB.out.cell (World.block_lt_of_cell? w _ hw25002_1)).trans hw25002_1),((HB.out.cell (World.block_lt_of_cell? w _ hw25002_2)).trans hw25002_2)⟩ (fun hHeld=>?_);refine with_tabW laws_eqValuesS.tab6 laws_eqValuesS.bits6 (fun HT_ HW_=>?_)
     generalize wr.drew=w11 at HB hx25001_0 hx25001_1 hx25001_2 hx25002_0 hx25002_1 hx25002_2 hHeld ⊢
     refine pure_ (i:=0) (N:=some 17) (v:=?_) (a':=?_) #[true,false,false,false,false,false,false,false,false,false] rfl rfl (any_of HT_.out (by kernel_rfl)) (fun _ _ _ h=>h) (Or.inl ⟨by rfl,?_⟩) ?_ ?_
     rotate_left
     · intro w'
       go_simp
       exact zr1
     rotate_left
     · simp only [Act.put,zt,zu,zv,i64_w,i32_w]
       rfl
     refine pure_ (i:=1) (N:=some 18) (v:=?_) (a':=?_) #[true,true,false,false,false,false,false,false,false,false] rfl rfl (any_of HT_.out (by kernel_rfl)) (fun _ _ _ h=>h) (Or.inl ⟨by rfl,?_⟩) ?_ ?_
     rotate_left
     · intro w'
       go_simp
       exact zr1
     rotate_left
     · simp only [Act.put,zt,zu,zv,i64_w,i32_w]
       rfl
     refine pure_ (i:=2) (N:=some 19) (v:=?_) (a':=?_) #[true,true,true,false,false,false,false,false,false,false] rfl rfl (any_of HT_.out (by kernel_rfl)) (fun _ _ _ h=>h) (Or.inl ⟨by rfl,?_⟩) ?_ ?_
     rotate_left
     · intro w'
       go_simp
       exact zr1
     rotate_left
     · simp only [Act.put,zt,zu,zv,i64_w,i32_w]
       rfl
     refine pure_ (i:=4) (N:=some 21) (v:=?_) (a':=?_) #[true,true,true,false,true,false,false,false,false,false] rfl rfl (any_of HT_.out (by kernel_rfl)) (fun _ _ _ h=>h) (Or.inl ⟨by rfl,?_⟩) ?_ ?_
     rotate_left
     · intro w'
       go_simp
       exact zr1
     rotate_left
     · simp only [Act.put,zt,zu,zv,i64_w,i32_w]
       rfl
     refine pure_ (i:=5) (N:=some 22) (v:=?_) (a':=?_) #[true,true,true,false,true,true,false,false,false,false] rfl rfl (any_of HT_.out (by kernel_rfl)) (fun _ _ _ h=>h) (Or.inl ⟨by rfl,?_⟩) ?_ ?_
     rotate_left
     · intro w'
       go_simp
       exact zr1
     rotate_left
     · simp only [Act.put,zt,zu,zv,i64_w,i32_w]
       rfl
     refine pure_ (i:=6) (N:=some 23) (v:=?_) (a':=?_) #[true,true,true,false,true,true,true,false,false,false] rfl rfl (any_of HT_.out (by kernel_rfl)) (fun _ _ _ h=>h) (Or.inl ⟨by rfl,?_⟩) ?_ ?_
     rotate_left
     · intro w'
       go_simp
       exact zr1
     rotate_left
     · simp only [Act.put,zt,zu,zv,i64_w,i32_w]
       rfl
     refine take_ (i:=3) (N:=some 20) (v:=?_) (a':=?_) #[true,true,true,true,true,true,true,false,false,false] rfl rfl (take_ofW HT_.out HW_.out (by kernel_rfl)) (fun _ _ _ h=>h) (Or.inl ⟨by rfl,?_⟩) hHeld ?_ ?_
     rotate_left
     · rintro w' ⟨s0,s1,s2,s3,s4,s5⟩
       go_simp
       exact zr1
     rotate_left
     · simp only [Act.put,zt,zu,zv,i64_w,i32_w]
       rfl
     refine take_ (i:=7) (N:=some 24) (v:=?_) (a':=?_) #[true,true,true,true,true,true,true,true,false,false] rfl rfl (take_ofW HT_.out HW_.out (by kernel_rfl)) (fun _ _ _ h=>h) (Or.inl ⟨by rfl,?_⟩) hHeld ?_ ?_
     rotate_left
     · rintro w' ⟨s0,s1,s2,s3,s4,s5⟩
       go_simp
       exact zr1
     rotate_left
     · simp only [Act.put,zt,zu,zv,i64_w,i32_w]
       rfl
     refine one_ (i:=8) (N:=some 25) #[true,true,true,true,true,true,true,true,true,false] rfl rfl (one_of HT_.out (by kernel_rfl)) (by decide) (fun K hK=>?_)
     refine goes_ Tryz.func22 (by kernel_rfl) rfl #[.agg #[.string ((rd_T32 l0 x5_1).f0),.string ((rd_T32 l0 x5_1).f1),.string ((rd_T32 l0 x5_1).f2)],.agg #[.string ((rd_T32 l1 x5_1).f0),.string ((rd_T32 l1 x5_1).f1),.string ((rd_T32 l1 x5_1).f2)]] (by rfl) rfl rfl za4 ?_
     with_reducible refine (laws_eqValues.calls ((rd_T32 l0 x5_1).f0) ((rd_T32 l0 x5_1).f1) ((rd_T32 l0 x5_1).f2) ((rd_T32 l1 x5_1).f0) ((rd_T32 l1 x5_1).f1) ((rd_T32 l1 x5_1).f2) _ _ A7.out).mono ?_
     rintro e w12 ⟨rfl,hb⟩
     refine ⟨_,rfl,?_⟩
     have n0_:=zk (below_step za3 hb)
     clear HB
     have HB:=n0_
     clear n0_
     (try clear hb)
     (try clear hb2)
     (try clear hk)
     (try clear hi)
     refine hK.out _ _ ⟨((HB.out.cell (World.block_lt_of_cell? w _ hw25001_0)).trans hw25001_0),((HB.out.cell (World.block_lt_of_cell? w _ hw25001_1)).trans hw25001_1),((HB.out.cell (World.block_lt_of_cell? w _ hw25001_2)).trans hw25001_2),((HB.out.cell (World.block_lt_of_cell? w _ hw25002_0)).trans hw25002_0),((HB.out.cell (World.block_lt_of_cell? w _ hw25002_1)).trans hw25002_1),((HB.out.cell (World.block_lt_of_cell? w _ hw25002_2)).trans hw25002_2)⟩ (fun hHeld=>?_)
     clear hK K
     refine norm_ (a':=?_) ?_ ?_
     rotate_left
     · show Act.put _ (some 25) _=_
       simp only [Act.put,zt,zu,zv,i64_w,i32_w]
       rfl
     refine pure_ (i:=9) (N:=some 26) (v:=?_) (a':=?_) #[true,true,true,true,true,true,true,true,true,true] rfl rfl (any_of HT_.out (by kernel_rfl)) (fun _ _ _ h=>h) (Or.inl ⟨by rfl,?_⟩) ?_ ?_
     rotate_left
     · intro w'
       go_simp
       exact zr1
     rotate_left
     · simp only [Act.put,zt,zu,zv,i64_w,i32_w]
       rfl
     refine done_ (done_of HT_.out (by kernel_rfl)) ?_
     try go_wp2
     first
     | (
        clear fin0_
        go_ret
        exact ⟨za6,za3⟩)
     | (
        clear fin1_
        go_roundg k1
        case measure=>have:=HK1.out;omega
        case rel=>exact ⟨(wrap64 (x5_1+1)),za7,H',⟨za15⟩,⟨za3⟩⟩)
 ·rw [if_neg c3] at H
  have c3b0:((l0.length:Int) == (l1.length:Int))=false:=beq_eq_false_iff_ne.mpr c3
  have c3b1:((l0.length:Int) != (l1.length:Int))=true:=bne_iff_ne.mpr c3
  have c3b2:(l0.length == l1.length)=false:=by first|simpa using c3|(simp at c3 ⊢;omega)
  obtain rfl:=zi H
  go_enter Tryz.func25,Tryz.ntmps25
  go_wp2
  go_ret
  exact ⟨za6,za3⟩
def laws_markValuesS.l0:Nat→List (S32)→Int→Int→Option (Int × (List (S32)))
 | 0,_,_,_=>none
 | k+1,x0,x1,x5=>if x5 < (x0.length:Int) then ((laws_markText.f k x1).bind fun t27001=>(if 0≤x5 then ((some (x0.set (x5:Int).toNat (⟨t27001,(rd_T32 x0 x5).f1,(rd_T32 x0 x5).f2⟩:S32):List (S32))).bind fun y27002=>((laws_markText.f k (wrap64 (x1+1))).bind fun t27003=>((some (y27002.set (x5:Int).toNat (⟨(rd_T32 y27002 x5).f0,t27003,(rd_T32 y27002 x5).f2⟩:S32):List (S32))).bind fun y27004=>((laws_markText.f k (wrap64 ((wrap64 (x1+1))+1))).bind fun t27005=>(laws_markValuesS.l0 k (y27004.set (x5:Int).toNat (⟨(rd_T32 y27004 x5).f0,(rd_T32 y27004 x5).f1,t27005⟩:S32)) (wrap64 ((wrap64 ((wrap64 (x1+1))+1))+1)) (wrap64 (x5+1))))))) else (none))) else (some (x1,x0))
def laws_markValuesS.f (k:Nat) (l0:List (S32)) (a1:Int):Option (Int × (List (S32))):=laws_markValuesS.l0 k l0 a1 0
theorem laws_markValuesS.mono_l:∀ k,(∀ y0 y1 y2,LeO (laws_markValuesS.l0 k y0 y1 y2) (laws_markValuesS.l0 (k+1) y0 y1 y2))
 | 0=>fun _ _ _ r h=>by simp [laws_markValuesS.l0] at h
 | k+1=>by
  have ih0:=laws_markValuesS.mono_l k
  ·intro y0 y1 y2
   unfold laws_markValuesS.l0
   repeat' first
   | with_reducible first|exact ih0 _ _ _|exact laws_markText.mono _ _|exact LeO.refl _|exact LeO.none _|refine LeO.ite ?_ ?_|refine LeO.bind ?_ (fun _=>?_)
theorem laws_markValuesS.mono:∀ a0 a1 k,LeO (laws_markValuesS.f k a0 a1) (laws_markValuesS.f (k+1) a0 a1):=by
 intro a0 a1 k
 have ih0:=laws_markValuesS.mono_l k
 unfold laws_markValuesS.f
 repeat' first
  | with_reducible first|exact ih0 _ _ _|exact laws_markText.mono _ _|exact LeO.refl _|exact LeO.none _|refine LeO.ite ?_ ?_|refine LeO.bind ?_ (fun _=>?_)
theorem laws_markValuesS.calls (k:Nat) (P0_:Nat→Prop) (u9000_:Value) (l0:List (S32)) (a1:Int) (r1:Int) (r2:List (S32)) (w0 w:World) (hB:Below w0.heap.size w0 w) (ho0:Kd.R k32 32 w w0.heap.size P0_ u9000_ l0) (h:laws_markValuesS.f k l0 a1=some (r1,r2)) :
   Calls Tryz.prog 27 #[u9000_,.int .i64 a1] w fun e w'=>e = .returned (.int .i64 r1)∧Kd.R k32 32 w' w0.heap.size (fun k_=>(P0_ k_∨w.heap.size≤k_)) u9000_ r2∧Below w0.heap.size w0 w'∧Kept w w' (fun k_=>P0_ k_):=by
 have HO0:=zk (show Kd.R k32 32 w w0.heap.size (fun k_=>(P0_ k_∨w.heap.size≤k_)) u9000_ l0 from Kd.R_mono ho0 (fun k_ hk=>(.inl hk)))
 have HK:=zk (Kept.refl w (fun k_=>P0_ k_))
 have HW0:=zk hB.size
 have HB:=zk hB
 clear hB
 have H:(laws_markValuesS.l0 k l0 a1 0)=some (r1,r2):=h
 clear h
 have H':=zk H
 clear H
 go_enter Tryz.func27,Tryz.ntmps27
 go_wp2
 first|go_loopg [1,5] k (fun kq v1 v5 w'=>∃ (x0_1:List (S32)) (x1_1:Int) (x5_1:Int),v1 = .int .i64 x1_1∧v5 = .int .i64 x5_1∧Aside0 (laws_markValuesS.l0 kq x0_1 x1_1 x5_1=some (r1,r2))∧Aside0 (kq≤k)∧Aside0 (Kd.R k32 32 w' w0.heap.size (fun k_=>(P0_ k_∨w.heap.size≤k_)) u9000_ x0_1)∧Aside0 (Kept w w' (fun k_=>P0_ k_))∧Aside0 (Below w0.heap.size w0 w'))|(simp only [Act.put,zt,zv,zu];go_loopg [1,5] k (fun kq v1 v5 w'=>∃ (x0_1:List (S32)) (x1_1:Int) (x5_1:Int),v1 = .int .i64 x1_1∧v5 = .int .i64 x5_1∧Aside0 (laws_markValuesS.l0 kq x0_1 x1_1 x5_1=some (r1,r2))∧Aside0 (kq≤k)∧Aside0 (Kd.R k32 32 w' w0.heap.size (fun k_=>(P0_ k_∨w.heap.size≤k_)) u9000_ x0_1)∧Aside0 (Kept w w' (fun k_=>P0_ k_))∧Aside0 (Below w0.heap.size w0 w')))
 case atStart=>exact ⟨(l0),(a1),(0),za7,za7,H',⟨Nat.le_refl _⟩,⟨za0 HO0.out⟩,⟨za14⟩,⟨za3⟩⟩
 case round =>
  clear H'
  obtain ⟨x0_1,x1_1,x5_1,rfl,rfl,HA,HK1,HO_0,HK,HB⟩:=hrel
  cases gk with
  | zero=>exact absurd HA.out (by simp [laws_markValuesS.l0])
  | succ k1 =>
   have H:=HA.out
   clear HA
   simp only [laws_markValuesS.l0] at H
   by_cases c3:x5_1 < (x0_1.length:Int)
   rw [if_pos c3] at H
   have c3b0:decide (x5_1 < (x0_1.length:Int))=true:=decide_eq_true c3
   clear c3
   replace H:=zo H
   obtain ⟨t27001,A40,H⟩:=H
   replace H:(if 0≤x5_1 then ((some (x0_1.set (x5_1:Int).toNat (⟨t27001,(rd_T32 x0_1 x5_1).f1,(rd_T32 x0_1 x5_1).f2⟩:S32):List (S32))).bind fun y27002=>((laws_markText.f k1 (wrap64 (x1_1+1))).bind fun t27003=>((some (y27002.set (x5_1:Int).toNat (⟨(rd_T32 y27002 x5_1).f0,t27003,(rd_T32 y27002 x5_1).f2⟩:S32):List (S32))).bind fun y27004=>((laws_markText.f k1 (wrap64 ((wrap64 (x1_1+1))+1))).bind fun t27005=>(laws_markValuesS.l0 k1 (y27004.set (x5_1:Int).toNat (⟨(rd_T32 y27004 x5_1).f0,(rd_T32 y27004 x5_1).f1,t27005⟩:S32)) (wrap64 ((wrap64 ((wrap64 (x1_1+1))+1))+1)) (wrap64 (x5_1+1))))))) else (none))=some (r1,r2):=H
   have A4:=zk A40
   clear A40
   by_cases c5:0≤x5_1
   ·rw [if_pos c5] at H
    have c5b0:decide (0≤x5_1)=true:=decide_eq_true c5
    clear c5
    obtain ⟨y27002,hy27002⟩:∃ y_:List (S32),y_=(x0_1.set (x5_1:Int).toNat (⟨t27001,(rd_T32 x0_1 x5_1).f1,(rd_T32 x0_1 x5_1).f2⟩:S32)):=⟨_,rfl⟩
    replace H:((laws_markText.f k1 (wrap64 (x1_1+1))).bind fun t27003=>((some (y27002.set (x5_1:Int).toNat (⟨(rd_T32 y27002 x5_1).f0,t27003,(rd_T32 y27002 x5_1).f2⟩:S32):List (S32))).bind fun y27004=>((laws_markText.f k1 (wrap64 ((wrap64 (x1_1+1))+1))).bind fun t27005=>(laws_markValuesS.l0 k1 (y27004.set (x5_1:Int).toNat (⟨(rd_T32 y27004 x5_1).f0,(rd_T32 y27004 x5_1).f1,t27005⟩:S32)) (wrap64 ((wrap64 ((wrap64 (x1_1+1))+1))+1)) (wrap64 (x5_1+1))))))=some (r1,r2):=by first|(rw [hy27002];with_reducible exact H)|(have H2_:=(Option.bind_some _ _).symm.trans H;rw [hy27002];with_reducible exact H2_)|(have H2_:=(Option.bind_some _ _).symm.trans H;with_reducible exact H2_)|with_reducible exact H|(rw [hy27002];exact H)|exact H
    have Ny27002:=zk hy27002
    clear hy27002
    replace H:=zo H
    obtain ⟨t27003,A70,H⟩:=H
    replace H:((some (y27002.set (x5_1:Int).toNat (⟨(rd_T32 y27002 x5_1).f0,t27003,(rd_T32 y27002 x5_1).f2⟩:S32):List (S32))).bind fun y27004=>((laws_markText.f k1 (wrap64 ((wrap64 (x1_1+1))+1))).bind fun t27005=>(laws_markValuesS.l0 k1 (y27004.set (x5_1:Int).toNat (⟨(rd_T32 y27004 x5_1).f0,(rd_T32 y27004 x5_1).f1,t27005⟩:S32)) (wrap64 ((wrap64 ((wrap64 (x1_1+1))+1))+1)) (wrap64 (x5_1+1)))))=some (r1,r2):=H
    have A7:=zk A70
    clear A70
    obtain ⟨y27004,hy27004⟩:∃ y_:List (S32),y_=(y27002.set (x5_1:Int).toNat (⟨(rd_T32 y27002 x5_1).f0,t27003,(rd_T32 y27002 x5_1).f2⟩:S32)):=⟨_,rfl⟩
    replace H:((laws_markText.f k1 (wrap64 ((wrap64 (x1_1+1))+1))).bind fun t27005=>(laws_markValuesS.l0 k1 (y27004.set (x5_1:Int).toNat (⟨(rd_T32 y27004 x5_1).f0,(rd_T32 y27004 x5_1).f1,t27005⟩:S32)) (wrap64 ((wrap64 ((wrap64 (x1_1+1))+1))+1)) (wrap64 (x5_1+1))))=some (r1,r2):=by first|(rw [hy27004];with_reducible exact H)|(have H2_:=(Option.bind_some _ _).symm.trans H;rw [hy27004];with_reducible exact H2_)|(have H2_:=(Option.bind_some _ _).symm.trans H;with_reducible exact H2_)|with_reducible exact H|(rw [hy27004];exact H)|exact H
    have Ny27004:=zk hy27004
    clear hy27004
    replace H:=zo H
    obtain ⟨t27005,A90,H⟩:=H
    replace H:(laws_markValuesS.l0 k1 (y27004.set (x5_1:Int).toNat (⟨(rd_T32 y27004 x5_1).f0,(rd_T32 y27004 x5_1).f1,t27005⟩:S32)) (wrap64 ((wrap64 ((wrap64 (x1_1+1))+1))+1)) (wrap64 (x5_1+1)))=some (r1,r2):=H
    have A9:=zk A90
    clear A90
    obtain ⟨y27006,hy27006⟩:∃ y_:List (S32),y_=(y27004.set (x5_1:Int).toNat (⟨(rd_T32 y27004 x5_1).f0,(rd_T32 y27004 x5_1).f1,t27005⟩:S32)):=⟨_,rfl⟩
    replace H:(laws_markValuesS.l0 k1 y27006 (wrap64 ((wrap64 ((wrap64 (x1_1+1))+1))+1)) (wrap64 (x5_1+1)))=some (r1,r2):=by first|(rw [hy27006];with_reducible exact H)|(have H2_:=(Option.bind_some _ _).symm.trans H;rw [hy27006];with_reducible exact H2_)|(have H2_:=(Option.bind_some _ _).symm.trans H;with_reducible exact H2_)|with_reducible exact H|(rw [hy27006];exact H)|exact H
    have Ny27006:=zk hy27006
    clear hy27006
    have H':=zk H
    clear H
    obtain ⟨Ao11,co11,eo11⟩:=Kd.R_slice HO_0.out
    subst eo11
    go_wp2_with (first|((with_reducible refine gate_callee (f:=60) rfl ?_);refine goesL_ (some 15) rfl rfl Tryz.func60 (by kernel_rfl) rfl #[.int .i64 x1_1] rfl za4 ?_;(with_reducible refine (laws_markText.calls k1 x1_1 t27001 _ A4.out).mono ?_);rintro e w12 ⟨rfl,hb⟩;refine ⟨_,rfl,?_⟩;have n0_:=zk (Kd.R_below (za0 HO_0.out) hb);have n1_:=zk (Kept.below (S:=(fun k_=>P0_ k_)) za14 hb);have n2_:=zk (below_step za3 hb);clear HO_0;clear HK;clear HB;have HO_0:=n0_;have HK:=n1_;have HB:=n2_;clear n0_ n1_ n2_;(try clear hb);(try clear hb2);(try clear hk);(try clear hi);have p6:0≤(x5_1:Int):=of_decide_eq_true za8;have q6:(x5_1:Int) < ((x0_1.length:Int):Int):=of_decide_eq_true za8;obtain ⟨go6,co6,eo6,gb6,gl6,cl6,HG6⟩:=Kd.R_form HO_0.out (by omega);(first|cases eo6|(injection eo6 with ea_ en_ ec_;(first|subst ea_|(injection ea_ with ea_;subst ea_));subst ec_;clear en_));have GB6:=zk gb6;have GG6:=zk HG6;clear gb6 gl6 HG6;have HMgo6:=zk (show (P0_ go6∨w.heap.size≤go6) from (HO_0.out.1 _ rfl));obtain ⟨ce6,hcl6,hM6,hcc6,hfr6⟩:=Kd.R_elem HO_0.out z32 (x5_1:Int) p6 q6;obtain rfl:=k32_openM hM6;have hx6_0:w12.cell? ⟨go6,(x5_1:Int).toNat * 3,none⟩=some (.string ((rd_T32 x0_1 x5_1).f0)):=hcc6 0 _ rfl;have hx6_1:w12.cell? ⟨go6,(x5_1:Int).toNat * 3+1,none⟩=some (.string ((rd_T32 x0_1 x5_1).f1)):=hcc6 1 _ rfl;have hx6_2:w12.cell? ⟨go6,(x5_1:Int).toNat * 3+2,none⟩=some (.string ((rd_T32 x0_1 x5_1).f2)):=hcc6 2 _ rfl;have hf6_0:w12.frozen? ⟨go6,(x5_1:Int).toNat * 3,none⟩=false:=hfr6 0;have hf6_1:w12.frozen? ⟨go6,(x5_1:Int).toNat * 3+1,none⟩=false:=hfr6 1;have hf6_2:w12.frozen? ⟨go6,(x5_1:Int).toNat * 3+2,none⟩=false:=hfr6 2;clear hcl6 hcc6 hfr6;(try clear hM6);replace p6:=eq_true p6;replace q6:=eq_true q6;have HX13:=zk (show Kd.R k32 32 w12 w0.heap.size (fun k_=>(P0_ k_∨w.heap.size≤k_)) (.slice (some ⟨go6,0,none⟩) x0_1.length co11) x0_1 from (za0 HO_0.out));obtain ⟨ce13,hcl13,hM13,hcc13,hfr13⟩:=Kd.R_elem HX13.out z32 (x5_1:Int) (of_decide_eq_true za8) (by have h_:(x5_1:Int) < ((x0_1.length:Int):Int):=of_decide_eq_true za8;first|exact h_|(have e_:=(Kd.R_reads' HO_0.out).1;omega)|simpa using h_);obtain rfl:=k32_openM hM13;have HP13:=Kd.R_seg HX13.out (x5_1:Int) (of_decide_eq_true za8) (by have h_:(x5_1:Int) < ((x0_1.length:Int):Int):=of_decide_eq_true za8;first|exact h_|(have e_:=(Kd.R_reads' HO_0.out).1;omega)|simpa using h_) (seg:=[.string t27001]) (j:=0) hcl13 hcc13 (show 1≤3 from by decide) (x':=(⟨t27001,(rd_T32 x0_1 x5_1).f1,(rd_T32 x0_1 x5_1).f2⟩:S32)) (k32_mkM _ _ _ (⟨t27001,(rd_T32 x0_1 x5_1).f1,(rd_T32 x0_1 x5_1).f2⟩:S32) ) (fun _ hk=>hk);have hx13_0:=hcc13 0 _ rfl;(try simp only [show (k32).sz=3 from rfl,Nat.mul_one,Nat.add_zero] at hx13_0);have hf13_0:=hfr13 0;(try simp only [show (k32).sz=3 from rfl,Nat.mul_one,Nat.add_zero] at hf13_0);clear hcl13 hcc13 hfr13;(try clear hM13))|((with_reducible refine gate_store (t:=9) (p:=17) rfl ?_);refine store_event (t:=9) (p:=17) (v:=?vo_w14) (w1:=(w12.setCell ⟨go6,(x5_1:Int).toNat * 3,none⟩ (.string t27001))) ?hg ?ho ?hn ?hr ?_;(case ho=>rfl);(case hg=>rfl);(case hn=>rfl);(case hr=>first|(go_simp;done)|(go_simp;rfl));intro w14 hw;have hg:w12.grownBy w14 (some go6):=(by rw [hw];exact HP13.2);have hp_:Kd.R k32 32 w14 w0.heap.size (fun k_=>(P0_ k_∨w.heap.size≤k_)) (.slice (some ⟨go6,0,none⟩) x0_1.length co11) y27002:=(by rw [hw,Ny27002.out];exact HP13.1);clear HP13;have n0_:=zk (hp_);have n1_:=zk ((by rw [hw];exact below_set (HB.out) GB6.out:Below w0.heap.size w0 w14));have n2_:=zk (Kept.of_grown (S:=(fun k_=>P0_ k_)) hg za14 (fun k_ e_=>(HO_0.out.1 k_ e_)));clear HO_0;clear HB;clear HK;have HO_0:=n0_;have HB:=n1_;have HK:=n2_;clear n0_ n1_ n2_;clear hg hw hp_)|((with_reducible refine gate_callee (f:=60) rfl ?_);refine goesL_ (some 23) rfl rfl Tryz.func60 (by kernel_rfl) rfl #[.int .i64 (wrap64 (x1_1+1))] rfl za4 ?_;(with_reducible refine (laws_markText.calls k1 (wrap64 (x1_1+1)) t27003 _ A7.out).mono ?_);rintro e w15 ⟨rfl,hb⟩;refine ⟨_,rfl,?_⟩;have n0_:=zk (Kd.R_below (za0 HO_0.out) hb);have n1_:=zk (Kept.below (S:=(fun k_=>P0_ k_)) za14 hb);have n2_:=zk (below_step za3 hb);clear HO_0;clear HK;clear HB;have HO_0:=n0_;have HK:=n1_;have HB:=n2_;clear n0_ n1_ n2_;(try clear hb);(try clear hb2);(try clear hk);(try clear hi);have p8:0≤(x5_1:Int):=of_decide_eq_true za8;have q8:(x5_1:Int) < ((x0_1.length:Int):Int):=of_decide_eq_true za8;obtain ⟨ce8,hcl8,hM8,hcc8,hfr8⟩:=Kd.R_elem HO_0.out z32 (x5_1:Int) p8 q8;obtain rfl:=k32_openM hM8;have hx8_0:w15.cell? ⟨go6,(x5_1:Int).toNat * 3,none⟩=some (.string ((rd_T32 y27002 x5_1).f0)):=hcc8 0 _ rfl;have hx8_1:w15.cell? ⟨go6,(x5_1:Int).toNat * 3+1,none⟩=some (.string ((rd_T32 y27002 x5_1).f1)):=hcc8 1 _ rfl;have hx8_2:w15.cell? ⟨go6,(x5_1:Int).toNat * 3+2,none⟩=some (.string ((rd_T32 y27002 x5_1).f2)):=hcc8 2 _ rfl;have hf8_0:w15.frozen? ⟨go6,(x5_1:Int).toNat * 3,none⟩=false:=hfr8 0;have hf8_1:w15.frozen? ⟨go6,(x5_1:Int).toNat * 3+1,none⟩=false:=hfr8 1;have hf8_2:w15.frozen? ⟨go6,(x5_1:Int).toNat * 3+2,none⟩=false:=hfr8 2;clear hcl8 hcc8 hfr8;(try clear hM8);replace p8:=eq_true p8;replace q8:=eq_true q8;have HX16:=zk (show Kd.R k32 32 w15 w0.heap.size (fun k_=>(P0_ k_∨w.heap.size≤k_)) (.slice (some ⟨go6,0,none⟩) x0_1.length co11) y27002 from (za0 HO_0.out));obtain ⟨ce16,hcl16,hM16,hcc16,hfr16⟩:=Kd.R_elem HX16.out z32 (x5_1:Int) (of_decide_eq_true za8) (by have h_:(x5_1:Int) < ((x0_1.length:Int):Int):=of_decide_eq_true za8;first|exact h_|(have e_:=(Kd.R_reads' HO_0.out).1;omega)|simpa using h_);obtain rfl:=k32_openM hM16;have HP16:=Kd.R_seg HX16.out (x5_1:Int) (of_decide_eq_true za8) (by have h_:(x5_1:Int) < ((x0_1.length:Int):Int):=of_decide_eq_true za8;first|exact h_|(have e_:=(Kd.R_reads' HO_0.out).1;omega)|simpa using h_) (seg:=[.string t27003]) (j:=1) hcl16 hcc16 (show 2≤3 from by decide) (x':=(⟨(rd_T32 y27002 x5_1).f0,t27003,(rd_T32 y27002 x5_1).f2⟩:S32)) (k32_mkM _ _ _ (⟨(rd_T32 y27002 x5_1).f0,t27003,(rd_T32 y27002 x5_1).f2⟩:S32) ) (fun _ hk=>hk);have hx16_1:=hcc16 1 _ rfl;(try simp only [show (k32).sz=3 from rfl,Nat.mul_one,Nat.add_zero] at hx16_1);have hf16_1:=hfr16 1;(try simp only [show (k32).sz=3 from rfl,Nat.mul_one,Nat.add_zero] at hf16_1);clear hcl16 hcc16 hfr16;(try clear hM16))|((with_reducible refine gate_store (t:=9) (p:=25) rfl ?_);refine store_event (t:=9) (p:=25) (v:=?vo_w17) (w1:=(w15.setCell ⟨go6,(x5_1:Int).toNat * 3+1,none⟩ (.string t27003))) ?hg ?ho ?hn ?hr ?_;(case ho=>rfl);(case hg=>rfl);(case hn=>rfl);(case hr=>first|(go_simp;done)|(go_simp;rfl));intro w17 hw;have hg:w15.grownBy w17 (some go6):=(by rw [hw];exact HP16.2);have hp_:Kd.R k32 32 w17 w0.heap.size (fun k_=>(P0_ k_∨w.heap.size≤k_)) (.slice (some ⟨go6,0,none⟩) x0_1.length co11) y27004:=(by rw [hw,Ny27004.out];exact HP16.1);clear HP16;have n0_:=zk (hp_);have n1_:=zk ((by rw [hw];exact below_set (HB.out) GB6.out:Below w0.heap.size w0 w17));have n2_:=zk (Kept.of_grown (S:=(fun k_=>P0_ k_)) hg za14 (fun k_ e_=>(HO_0.out.1 k_ e_)));clear HO_0;clear HB;clear HK;have HO_0:=n0_;have HB:=n1_;have HK:=n2_;clear n0_ n1_ n2_;clear hg hw hp_)|((with_reducible refine gate_callee (f:=60) rfl ?_);refine goesL_ (some 31) rfl rfl Tryz.func60 (by kernel_rfl) rfl #[.int .i64 (wrap64 ((wrap64 (x1_1+1))+1))] rfl za4 ?_;(with_reducible refine (laws_markText.calls k1 (wrap64 ((wrap64 (x1_1+1))+1)) t27005 _ A9.out).mono ?_);rintro e w18 ⟨rfl,hb⟩;refine ⟨_,rfl,?_⟩;have n0_:=zk (Kd.R_below (za0 HO_0.out) hb);have n1_:=zk (Kept.below (S:=(fun k_=>P0_ k_)) za14 hb);have n2_:=zk (below_step za3 hb);clear HO_0;clear HK;clear HB;have HO_0:=n0_;have HK:=n1_;have HB:=n2_;clear n0_ n1_ n2_;(try clear hb);(try clear hb2);(try clear hk);(try clear hi);have p10:0≤(x5_1:Int):=of_decide_eq_true za8;have q10:(x5_1:Int) < ((x0_1.length:Int):Int):=of_decide_eq_true za8;obtain ⟨ce10,hcl10,hM10,hcc10,hfr10⟩:=Kd.R_elem HO_0.out z32 (x5_1:Int) p10 q10;obtain rfl:=k32_openM hM10;have hx10_0:w18.cell? ⟨go6,(x5_1:Int).toNat * 3,none⟩=some (.string ((rd_T32 y27004 x5_1).f0)):=hcc10 0 _ rfl;have hx10_1:w18.cell? ⟨go6,(x5_1:Int).toNat * 3+1,none⟩=some (.string ((rd_T32 y27004 x5_1).f1)):=hcc10 1 _ rfl;have hx10_2:w18.cell? ⟨go6,(x5_1:Int).toNat * 3+2,none⟩=some (.string ((rd_T32 y27004 x5_1).f2)):=hcc10 2 _ rfl;have hf10_0:w18.frozen? ⟨go6,(x5_1:Int).toNat * 3,none⟩=false:=hfr10 0;have hf10_1:w18.frozen? ⟨go6,(x5_1:Int).toNat * 3+1,none⟩=false:=hfr10 1;have hf10_2:w18.frozen? ⟨go6,(x5_1:Int).toNat * 3+2,none⟩=false:=hfr10 2;clear hcl10 hcc10 hfr10;(try clear hM10);replace p10:=eq_true p10;replace q10:=eq_true q10;have HX19:=zk (show Kd.R k32 32 w18 w0.heap.size (fun k_=>(P0_ k_∨w.heap.size≤k_)) (.slice (some ⟨go6,0,none⟩) x0_1.length co11) y27004 from (za0 HO_0.out));obtain ⟨ce19,hcl19,hM19,hcc19,hfr19⟩:=Kd.R_elem HX19.out z32 (x5_1:Int) (of_decide_eq_true za8) (by have h_:(x5_1:Int) < ((x0_1.length:Int):Int):=of_decide_eq_true za8;first|exact h_|(have e_:=(Kd.R_reads' HO_0.out).1;omega)|simpa using h_);obtain rfl:=k32_openM hM19;have HP19:=Kd.R_seg HX19.out (x5_1:Int) (of_decide_eq_true za8) (by have h_:(x5_1:Int) < ((x0_1.length:Int):Int):=of_decide_eq_true za8;first|exact h_|(have e_:=(Kd.R_reads' HO_0.out).1;omega)|simpa using h_) (seg:=[.string t27005]) (j:=2) hcl19 hcc19 (show 3≤3 from by decide) (x':=(⟨(rd_T32 y27004 x5_1).f0,(rd_T32 y27004 x5_1).f1,t27005⟩:S32)) (k32_mkM _ _ _ (⟨(rd_T32 y27004 x5_1).f0,(rd_T32 y27004 x5_1).f1,t27005⟩:S32) ) (fun _ hk=>hk);have hx19_2:=hcc19 2 _ rfl;(try simp only [show (k32).sz=3 from rfl,Nat.mul_one,Nat.add_zero] at hx19_2);have hf19_2:=hfr19 2;(try simp only [show (k32).sz=3 from rfl,Nat.mul_one,Nat.add_zero] at hf19_2);clear hcl19 hcc19 hfr19;(try clear hM19))|((with_reducible refine gate_store (t:=9) (p:=33) rfl ?_);refine store_event (t:=9) (p:=33) (v:=?vo_w20) (w1:=(w18.setCell ⟨go6,(x5_1:Int).toNat * 3+2,none⟩ (.string t27005))) ?hg ?ho ?hn ?hr ?_;(case ho=>rfl);(case hg=>rfl);(case hn=>rfl);(case hr=>first|(go_simp;done)|(go_simp;rfl));intro w20 hw;have hg:w18.grownBy w20 (some go6):=(by rw [hw];exact HP19.2);have hp_:Kd.R k32 32 w20 w0.heap.size (fun k_=>(P0_ k_∨w.heap.size≤k_)) (.slice (some ⟨go6,0,none⟩) x0_1.length co11) y27006:=(by rw [hw,Ny27006.out];exact HP19.1);clear HP19;have n0_:=zk (hp_);have n1_:=zk ((by rw [hw];exact below_set (HB.out) GB6.out:Below w0.heap.size w0 w20));have n2_:=zk (Kept.of_grown (S:=(fun k_=>P0_ k_)) hg za14 (fun k_ e_=>(HO_0.out.1 k_ e_)));clear HO_0;clear HB;clear HK;have HO_0:=n0_;have HB:=n1_;have HK:=n2_;clear n0_ n1_ n2_;clear hg hw hp_))
    go_roundg k1
    case measure=>have:=HK1.out;omega
    case rel=>exact ⟨(y27006),(wrap64 ((wrap64 ((wrap64 (x1_1+1))+1))+1)),(wrap64 (x5_1+1)),za7,za7,H',⟨za15⟩,⟨za0 HO_0.out⟩,⟨za14⟩,⟨za3⟩⟩
   ·rw [if_neg c5] at H
    exact absurd H (by simp)
   ·rw [if_neg c3] at H
    have c3b0:decide (x5_1 < (x0_1.length:Int))=false:=decide_eq_false c3
    clear c3
    simp only [Option.some.injEq,Prod.mk.injEq] at H
    obtain ⟨rfl,rfl⟩:=H
    obtain ⟨Ao21,co21,eo21⟩:=Kd.R_slice HO_0.out
    subst eo21
    go_wp2
    go_ret
    exact ⟨za6,za0 HO_0.out,za3,za14⟩
end Go.Proofs.YtffjfdoghofkdaaGreat.A
