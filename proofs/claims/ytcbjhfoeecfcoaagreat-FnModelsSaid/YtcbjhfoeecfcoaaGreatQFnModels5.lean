/- FnModels: what its proof needs, put together by this session's program wip/merge.py out of the texts that wip/xp.py printed and of this session's own. -/
import Derived.Test.YtcbjhfoeecfcoaaGreatQFnModels4
import Derived.Test.YtcbjhfoeecfcoaaGreatProg
import Derived.Shelf.Abstract
import Derived.Deep.LoopGhost
set_option linter.unusedVariables false
set_option linter.unusedSimpArgs false
set_option linter.unusedSectionVars false
set_option maxHeartbeats 8000000
set_option maxRecDepth 100000
namespace Go.Proofs.YtcbjhfoeecfcoaaGreat.A
open Go.RowKit YtcbjhfoeecfcoaaGreat.Ext YtcbjhfoeecfcoaaGreatW.PrintWords YtcbjhfoeecfcoaaGreatW.PrintLast YtcbjhfoeecfcoaaGreatW.PrintMore
attribute [local go_sem] max2_int min2_int max_two min_two max_three min_three max_four min_four
theorem N_at_q {α:Type} {d:Kd α} {e base m:Nat} {ok:Nat→Prop} {w w2:World} {v:Value} {xs:List α} (h:Kd.N d e w base ok v xs) (hq:w.drewN m=w2):Kd.N d e w2 base ok v xs:=hq ▸ Kd.N_drewN h m
def spec_DrawIsModel.l0:Nat→ByteArray→Int→List Int→Int→Int→List (S56)→ByteArray→ByteArray→ByteArray→Option ((List (S56)) × ByteArray × ByteArray × ByteArray)
 | 0,_,_,_,_,_,_,_,_,_=>none
 | k+1,x7,x8,x14007000,x14007001,x14007002,x14013000,x14019000,x14019001,x14019002=>if x8 < 3 then (if 0≤x8 then ((spec_CountByte.f k x7 (bt (⟨#[88,89,90]⟩:ByteArray) x8)).bind fun t14020=>(if t14020=0 then ((spec_WithValue.f x14019000 x14019001 x14019002 (bt (⟨#[88,89,90]⟩:ByteArray) x8) (⟨#[]⟩:ByteArray)).bind fun bt14021=>(spec_DrawIsModel.l0 k x7 (wrap64 (x8+1)) x14007000 x14007001 x14007002 x14013000 bt14021.1 bt14021.2.1 bt14021.2.2)) else (spec_DrawIsModel.l0 k x7 (wrap64 (x8+1)) x14007000 x14007001 x14007002 x14013000 x14019000 x14019001 x14019002))) else (none)) else ((spec_l1Once.f x14007000 x14007001 x14007002 2).bind fun bt14024=>(if bt14024.1=true then ((spec_l1Pick.f x14007000 bt14024.2.1 bt14024.2.2 (([⟨#[]⟩,⟨#[97]⟩,⟨#[97,98]⟩]:List ByteArray))).bind fun bt14030=>(some (x14013000,bt14030.1,(⟨#[]⟩:ByteArray),x14019002))) else (some (x14013000,x14019000,x14019001,x14019002))))
def spec_DrawIsModel.f (k:Nat) (l0:List Int):Option ((List (S56)) × ByteArray × ByteArray × ByteArray):=(spec_l1New.f k l0).bind fun bt14003=>((spec_l10Bent.f k bt14003.1 bt14003.2.1 bt14003.2.2).bind fun bt14007=>((spec_l8Values.f k bt14003.1 bt14007.2.1 bt14007.2.2).bind fun bt14013=>((spec_VarsOfProblem.f k bt14007.1).bind fun t14019=>(spec_DrawIsModel.l0 k t14019 0 bt14003.1 bt14013.2.2.2.1 bt14013.2.2.2.2 bt14007.1 bt14013.1 bt14013.2.1 bt14013.2.2.1))))
theorem spec_DrawIsModel.calls (k:Nat) (A0:Option Addr) (c0:Nat) (l0:List Int) (r1:List (S56)) (r2:ByteArray) (r3:ByteArray) (r4:ByteArray) (w:World) (hr0:Kd.C (Kd.int .u8) w A0 l0.length l0) (hc0:l0.length≤c0) (h:spec_DrawIsModel.f k l0=some (r1,r2,r3,r4)) :
   Calls Tryz.prog 14 #[.slice A0 l0.length c0] w fun e w'=>∃ v0_:Value,e = .returned (.tuple #[.agg #[v0_],.agg #[.string r2,.string r3,.string r4]])∧Kd.N k56 56 w' w.heap.size (fun k_=>(w.heap.size≤k_)) v0_ r1∧Below w.heap.size w w':=by
 have hu26:=Tryz.underlying26
 have hu32:=Tryz.underlying32
 have HR0:=zk hr0
 have HC0:=zk hc0
 clear hr0 hc0
 have HB:=zk (Below.refl w.heap.size w)
 have H:=h
 unfold spec_DrawIsModel.f at H
 clear h
 obtain ⟨⟨t3,t4,t5⟩,A2,H⟩:=zO H
 try dsimp only at H
 obtain ⟨⟨t7,t10,t11⟩,A3,H⟩:=zO H
 try dsimp only at H
 obtain ⟨⟨t13,t14,t15,t16,t17⟩,A4,H⟩:=zO H
 try dsimp only at H
 obtain ⟨t19,A5,H⟩:=zO H
 try dsimp only at H
 have H':=zk H
 clear H
 go_enter Tryz.func14,Tryz.ntmps14
 go_wp2_with (first|((with_reducible refine gate_dst (N:=2) rfl ?_);refine zE (cs:=#[.slice none 0 0]) (t:=26) ?_;intro gb1 hg w6 hbox hb;have BK1:=zk hbox;have GW1:=zk (zs (w:=w) hg za22);have GE1:=GW1;replace HB:=yB HB hb;clear hb hbox hg)|((with_reducible refine gate_dst (N:=3) rfl ?_);refine zE (cs:=#[.string ⟨#[]⟩,.string ⟨#[]⟩,.string ⟨#[]⟩]) (t:=32) ?_;intro gb2 hg w7 hbox hb;have BK2:=zk hbox;have GW2:=zk (zs (w:=w) hg za22);have GE2:=GW2;have NB1_2:=yn hg BK1;have NB2_1:=yp hg BK1;replace BK1:=yb BK1 hb;replace HB:=yB HB hb;clear hb hbox hg)|((with_reducible refine gate_callee (f:=32) rfl ?_);refine zg (some 10) Tryz.func32 #[.slice A0 l0.length c0] rfl za11 ?_;(with_reducible refine (spec_l1New.calls k _ _ l0 t3 t4 t5 w _ za22 ?side2 ?side3 A2.out).mono ?_);(case side2=>exact HR0.out);(case side3=>exact HC0.out);rintro e w8 ⟨g6,rfl,hi,hb,hb2⟩;refine ⟨_,rfl,?_⟩;replace HB:=zk hb;have HI6:=zk hi;have NB6_1:=zk (IsS77.ne_blk hi (zb BK1.out hb2) (by decide));have NB1_6:=zk (Ne.symm (IsS77.ne_blk hi (zb BK1.out hb2) (by decide)));have NB6_2:=zk (IsS77.ne_blk hi (zb BK2.out hb2) (by decide));have NB2_6:=zk (Ne.symm (IsS77.ne_blk hi (zb BK2.out hb2) (by decide)));replace BK1:=yb BK1 hb2;replace BK2:=yb BK2 hb2;(try clear hb hb2 hi))|((with_reducible refine gate_callee (f:=33) rfl ?_);refine zg (some 12) Tryz.func33 #[.pointer (some ⟨g6,0,none⟩)] rfl za11 ?_;(with_reducible refine (spec_l10Bent.calls k g6 t3 t4 t5 t7 t10 t11 w _ za83 za22 A3.out).mono ?_);rintro e w9 ⟨v14008,rfl,ho0,hi,hb,hk⟩;refine ⟨_,rfl,?_⟩;have HO9:=zk (Kd.N_lower (Kd.N_mono (ok':=fun k_=>(w.heap.size≤k_)∧k_ ≠ gb1∧k_ ≠ gb2∧k_ ≠ g6) ho0 (fun k_ hk_=>⟨(Nat.le_trans (below_size za22) hk_),(zF BK1.out k_ hk_),(zF BK2.out k_ hk_),(IsS77.fresh za83 k_ hk_)⟩)) (below_size za22));replace BK1:=yq hk BK1 NB1_6;replace BK2:=yq hk BK2 NB2_6;replace HB:=zk hb;replace HI6:=zk hi;(try clear hb hk hi ho0))|((with_reducible refine gate_dst (N:=5) rfl ?_);refine zE (cs:=#[.slice none 0 0]) (t:=26) ?_;intro gb12 hg w10 hbox hb;replace HO9:=zk (Kd.N_below (Kd.N_elderB (za6 HO9.out) gb12 (Nat.le_of_eq hg.symm)) hb);have BK12:=zk hbox;have GW12:=zk (zs (w:=w) hg za22);have GE12:=GW12;have NB1_12:=yn hg BK1;have NB12_1:=yp hg BK1;have NB2_12:=yn hg BK2;have NB12_2:=yp hg BK2;have NB6_12:=zk (zm hg (IsS77.lt (show IsS77 w _ g6 t3 t10 t11 from za83)));have NB12_6:=zk (zM hg (IsS77.lt (show IsS77 w _ g6 t3 t10 t11 from za83)));replace BK1:=yb BK1 hb;replace BK2:=yb BK2 hb;replace HB:=yB HB hb;replace HI6:=zk (IsS77.below za83 hb);clear hb hbox hg;obtain ⟨Ao11,co11,eo11⟩:=Kd.N_slice HO9.out;subst eo11;have hnb12:=NB12_1.out;have hnc12:=NB1_12.out;have hnb13:=NB12_2.out;have hnc13:=NB2_12.out;have hnb14:=NB12_6.out;have hnc14:=NB6_12.out;obtain ⟨hcz15_0,hfz15_0⟩:=blk1 BK12.out)|((with_reducible refine gate_callee (f:=34) rfl ?_);refine zg (some 14) Tryz.func34 #[.pointer (some ⟨g6,0,none⟩)] rfl za11 ?_;(with_reducible refine (spec_l8Values.calls k g6 t3 t10 t11 t13 t14 t15 t16 t17 w _ za73 za75 A4.out).mono ?_);rintro e w16 ⟨rfl,hi,hb,hk⟩;refine ⟨_,rfl,?_⟩;replace BK1:=zk (KeepBut.blk hk (g':=gb1) (o:=.cells #[.slice none 0 0] 26 (0,0)) (zpw BK1.out) NB1_6.out (by simp));replace BK2:=zk (KeepBut.blk hk (g':=gb2) (o:=.cells #[.string ⟨#[]⟩,.string ⟨#[]⟩,.string ⟨#[]⟩] 32 (0,0)) (zpw BK2.out) NB2_6.out (by simp));replace HO9:=zk (Kd.N_mono (Kd.N_keep (Kd.N_mono (ok:=fun k_=>((((w.heap.size≤k_))∧(k_ ≠ gb1∧(k_ ≠ gb2∧k_ ≠ g6)))∧k_ ≠ gb12)) (by (with_reducible repeat ((apply Kd.N_drewN)));exact (Kd.N_mono (zfN (Kd.N_mono HO9.out (fun k_ hk=>(⟨hk,hk.2⟩:_∧k_ ≠ gb12)))) (fun _ h_=>h_.1))) (fun k_ hk_=>(⟨hk_,hk_.1.2.2.2⟩:_∧k_ ≠ g6))) hk (fun _ h=>h.2)) (fun _ h=>h.1));replace BK12:=zk (KeepBut.blk hk (g':=gb12) (o:=.cells #[.slice Ao11 t7.length co11] 26 (0,0)) (zpu BK12.out) NB12_6.out (by simp));replace HB:=zk hb;replace HI6:=zk hi;(try clear hb hk hi))|((with_reducible refine gate_dst (N:=6) rfl ?_);refine zE (cs:=#[.string ⟨#[]⟩,.string ⟨#[]⟩,.string ⟨#[]⟩]) (t:=32) ?_;intro gb18 hg w17 hbox hb;replace HO9:=zk (Kd.N_below (Kd.N_elderB (za6 HO9.out) gb18 (Nat.le_of_eq hg.symm)) hb);have BK18:=zk hbox;have GW18:=zk (zs (w:=w) hg za75);have GE18:=GW18;have NB1_18:=yn hg BK1;have NB18_1:=yp hg BK1;have NB2_18:=yn hg BK2;have NB18_2:=yp hg BK2;have NB12_18:=yn hg BK12;have NB18_12:=yp hg BK12;have NB6_18:=zk (zm hg (IsS77.lt (show IsS77 w _ g6 t3 t16 t17 from za73)));have NB18_6:=zk (zM hg (IsS77.lt (show IsS77 w _ g6 t3 t16 t17 from za73)));replace BK1:=yb BK1 hb;replace BK2:=yb BK2 hb;replace BK12:=yb BK12 hb;replace HB:=zk (below_step za75 hb);replace HI6:=zk (IsS77.below za73 hb);clear hb hbox hg;have hnb18:=NB18_1.out;have hnc18:=NB1_18.out;have hnb19:=NB18_2.out;have hnc19:=NB2_18.out;have hnb20:=NB18_12.out;have hnc20:=NB12_18.out;have hnb21:=NB18_6.out;have hnc21:=NB6_18.out;obtain ⟨hcz22_0,hcz22_1,hcz22_2,hfz22_0,hfz22_1,hfz22_2⟩:=blk3 BK18.out;obtain ⟨hcz23_0,hfz23_0⟩:=blk1 BK12.out)|((with_reducible refine gate_callee (f:=26) rfl ?_);refine zg (some 16) Tryz.func26 #[.agg #[.slice Ao11 t7.length co11]] rfl za11 ?_;(with_reducible refine (spec_VarsOfProblem.calls k _ _ t7 t19 _ ?side1 ?side2 A5.out).mono ?_);(case side1=>refine (Kd.N_reads' (e:=56) (base:=w.heap.size) (ok:=fun k_=>((((w.heap.size≤k_)∧(k_ ≠ gb1∧(k_ ≠ gb2∧k_ ≠ g6)))∧k_ ≠ gb12)∧k_ ≠ gb18)) (n:=t7.length) (c:=co11) ?_).2.2;exact za81);(case side2=>exact (Kd.N_reads' HO9.out).2.1);rintro e w24 ⟨rfl,hb⟩;refine ⟨_,rfl,?_⟩;replace HO9:=zk (Kd.N_below za81 hb);replace BK1:=zk (blk_below (g:=gb1) (o:=.cells #[.slice none 0 0] 26 (0,0)) (zpw BK1.out) hb);replace BK2:=zk (blk_below (g:=gb2) (o:=.cells #[.string ⟨#[]⟩,.string ⟨#[]⟩,.string ⟨#[]⟩] 32 (0,0)) (zpw BK2.out) hb);replace BK12:=zk (blk_below (g:=gb12) (o:=.cells #[.slice Ao11 t7.length co11] 26 (0,0)) (zpw BK12.out) hb);replace BK18:=zk (blk_below (g:=gb18) (o:=.cells #[.string t13,.string t14,.string t15] 32 (0,0)) (zpu BK18.out) hb);replace HB:=zk (below_step za31 hb);replace HI6:=zk (IsS77.below (show IsS77 w (((w17.setCell ⟨gb18,0,none⟩ (.string t13)).setCell ⟨gb18,1,none⟩ (.string t14)).setCell ⟨gb18,2,none⟩ (.string t15)) g6 t3 t16 t17 from za46) hb);(try clear hb)))
 try simp only [Act.put,zt,zv,zu]
 go_loopg [8] k (fun kq v8 w'=>∃ (x8_1:Int) (x14019000_1:ByteArray) (x14019001_1:ByteArray) (x14019002_1:ByteArray),v8 = .int .i64 x8_1∧Aside0 (spec_DrawIsModel.l0 kq t19 x8_1 t3 t16 t17 t7 x14019000_1 x14019001_1 x14019002_1=some (r1,r2,r3,r4))∧Aside0 (kq≤k)∧Aside0 (Kd.N k56 56 w' w.heap.size (fun k_=>(w.heap.size≤k_)∧k_ ≠ gb1∧k_ ≠ gb2∧k_ ≠ gb12∧k_ ≠ gb18∧k_ ≠ g6) (.slice Ao11 t7.length co11) t7)∧Aside0 (w'.heap[gb1]? = some (.cells #[(.slice none 0 0)] 26 (0,0)))∧Aside0 (w'.heap[gb2]? = some (.cells #[.string ⟨#[]⟩,.string ⟨#[]⟩,.string ⟨#[]⟩] 32 (0,0)))∧Aside0 (w'.heap[gb12]? = some (.cells #[(.slice Ao11 t7.length co11)] 26 (0,0)))∧Aside0 (w'.heap[gb18]? = some (.cells #[.string x14019000_1,.string x14019001_1,.string x14019002_1] 32 (0,0)))∧Aside0 (IsS77 w w' g6 t3 t16 t17)∧Aside0 (Below w.heap.size w w'))
 case atStart=>exact ⟨(0),(t13),(t14),(t15),(by (rfl)),H',⟨Nat.le_refl _⟩,⟨by (with_reducible repeat ((apply Kd.N_drewN)));exact Kd.N_mono HO9.out (fun _ hk=>⟨hk.1.1.1,⟨hk.1.1.2.1,⟨hk.1.1.2.2.1,⟨hk.1.2,⟨hk.2,hk.1.1.2.2.2⟩⟩⟩⟩⟩)⟩,⟨za3 BK1.out⟩,⟨za3 BK2.out⟩,⟨za3 BK12.out⟩,⟨za3 BK18.out⟩,⟨za46⟩,⟨za31⟩⟩
 case round =>
  clear H'
  try clear hcz15_0
  try clear hcz22_0
  try clear hcz22_1
  try clear hcz22_2
  try clear hcz23_0
  try clear hfz15_0
  try clear hfz22_0
  try clear hfz22_1
  try clear hfz22_2
  try clear hfz23_0
  obtain ⟨x8_1,x14019000_1,x14019001_1,x14019002_1,rfl,HA,HK1,HO_14013000,BK1,BK2,BK12,BK18,HI6,HB⟩:=hrel
  cases gk with
  | zero=>exact absurd HA.out (by simp [spec_DrawIsModel.l0])
  | succ k1 =>
   have H:=HA.out
   clear HA
   simp only [spec_DrawIsModel.l0] at H
   by_cases c25:x8_1 < 3
   rw [if_pos c25] at H
   have c25b0:=zdl c25
   clear c25
   by_cases c26:0≤x8_1
   rw [if_pos c26] at H
   have c26b0:=zdle c26
   clear c26
   obtain ⟨t20,A28,H⟩:=zO H
   try dsimp only at H
   by_cases c29:t20=0
   ·rw [if_pos c29] at H
    have c29b0:=zbt c29
    have c29b1:=zqn c29
    clear c29
    obtain ⟨⟨t21,t22,t23⟩,A31,H⟩:=zO H
    try dsimp only at H
    have H':=zk H
    clear H
    have p27:0≤(x8_1:Int):=of_decide_eq_true za25
    have q27:x8_1 < (3:Int):=of_decide_eq_true za25
    have hx27:=bt_at (⟨#[88,89,90]⟩:ByteArray) x8_1
    replace p27:=eq_true p27
    replace q27:=eq_true q27
    try go_wp2_with ((((with_reducible refine gate_callee (f:=35) rfl ?_);refine zg (some 24) Tryz.func35 #[.string t19,.int .u8 (bt (⟨#[88,89,90]⟩:ByteArray) x8_1)] rfl za11 ?_;(with_reducible refine (spec_CountByte.calls k1 t19 (bt (⟨#[88,89,90]⟩:ByteArray) x8_1) t20 _ A28.out).mono ?_);rintro e w' ⟨rfl,⟨nd,rfl⟩⟩;refine ⟨_,rfl,?_⟩;(try (rw [drewN_self wr];generalize hq_:World.drewN wr _=wr;have n0_:=zk (N_at_q HO_14013000.out hq_);have n1_:Aside0 (wr.heap[gb1]? = some (.cells #[.slice none 0 0] 26 (0,0))):=⟨by rw [← hq_];exact (za3 BK1.out)⟩;have n2_:Aside0 (wr.heap[gb2]? = some (.cells #[.string ⟨#[]⟩,.string ⟨#[]⟩,.string ⟨#[]⟩] 32 (0,0))):=⟨by rw [← hq_];exact (za3 BK2.out)⟩;have n3_:Aside0 (wr.heap[gb12]? = some (.cells #[.slice Ao11 t7.length co11] 26 (0,0))):=⟨by rw [← hq_];exact (za3 BK12.out)⟩;have n4_:Aside0 (wr.heap[gb18]? = some (.cells #[.string x14019000_1,.string x14019001_1,.string x14019002_1] 32 (0,0))):=⟨by rw [← hq_];exact (za3 BK18.out)⟩;have n5_:Aside0 (IsS77 w wr g6 t3 t16 t17):=⟨by rw [← hq_];exact za46⟩;have n6_:Aside0 (Below w.heap.size w wr):=⟨by rw [← hq_];exact za31⟩;clear HO_14013000 BK1 BK2 BK12 BK18 HI6 HB hq_;have HO_14013000:=n0_;have BK1:=n1_;have BK2:=n2_;have BK12:=n3_;have BK18:=n4_;have HI6:=n5_;have HB:=n6_;clear n0_ n1_ n2_ n3_ n4_ n5_ n6_)))))
    replace HO_14013000:=zk (Kd.N_drew HO_14013000.out)
    replace BK1:=zk (blk_drew BK1.out)
    replace BK2:=zk (blk_drew BK2.out)
    replace BK12:=zk (blk_drew BK12.out)
    replace BK18:=zk (blk_drew BK18.out)
    replace HI6:=zk (IsS77.drew HI6.out)
    replace HB:=zk (below_drew1 HB.out)
    have p30:0≤(x8_1:Int):=of_decide_eq_true za25
    have q30:x8_1 < (3:Int):=of_decide_eq_true za25
    have hx30:=bt_at (⟨#[88,89,90]⟩:ByteArray) x8_1
    replace p30:=eq_true p30
    replace q30:=eq_true q30
    refine start_ (n:=5) (S:=fun w'=>w'.cell? ⟨gb18,0,none⟩=some (.string x14019000_1)∧w'.cell? ⟨gb18,1,none⟩=some (.string x14019001_1)∧w'.cell? ⟨gb18,2,none⟩=some (.string x14019002_1)) (ds:=[4]) #[false,false,false,false,false] (by kernel_rfl) rfl rfl ⟨(blk_cell BK18.out 0).trans rfl,(blk_cell BK18.out 1).trans rfl,(blk_cell BK18.out 2).trans rfl⟩ (fun hHeld=>?_)
    generalize wr.drew=w32 at HO_14013000 BK1 BK2 BK12 BK18 HI6 HB hHeld ⊢
    refine zyk 1 (some 27) ?_
    refine ztkk 0 (some 26) hHeld ?_
    refine ztkk 2 (some 28) hHeld ?_
    refine one_ (i:=3) (N:=some 29) #[true,true,true,true,false] rfl rfl (by kernel_rfl) (by decide) (fun K hK=>?_)
    refine goes_ Tryz.func36 (by kernel_rfl) rfl #[.agg #[.string x14019000_1,.string x14019001_1,.string x14019002_1],.int .u8 (bt (⟨#[88,89,90]⟩:ByteArray) x8_1),.string ⟨#[]⟩] (by rfl) rfl rfl za11 ?_
    with_reducible refine (spec_WithValue.calls x14019000_1 x14019001_1 x14019002_1 (bt (⟨#[88,89,90]⟩:ByteArray) x8_1) (⟨#[]⟩:ByteArray) t21 t22 t23 _ A31.out).mono ?_
    rintro e w33 ⟨rfl,hb⟩
    refine ⟨_,rfl,?_⟩
    replace HO_14013000:=zk (Kd.N_below (za6 HO_14013000.out) hb)
    replace BK1:=yb BK1 hb
    replace BK2:=yb BK2 hb
    replace BK12:=yb BK12 hb
    replace BK18:=yb BK18 hb
    replace HB:=zk (below_step za31 hb)
    replace HI6:=zk (IsS77.below za46 hb)
    (try clear hb)
    (try clear hb2)
    (try clear hk)
    (try clear hi)
    refine hK.out _ _ ⟨(blk_cell BK18.out 0).trans rfl,(blk_cell BK18.out 1).trans rfl,(blk_cell BK18.out 2).trans rfl⟩ (fun hHeld=>?_)
    clear hK K
    refine zno (some 29) ?_
    refine last_ (i:=4) (N:=none) #[true,true,true,true,true] rfl rfl (by kernel_rfl) (by decide) (fun K hK=>?_)
    have hs34:w33.cell? ⟨gb18,0,none⟩=some (.string x14019000_1):=(blk_cell BK18.out 0).trans rfl
    have hfs34:=blk_frozen BK18.out 0
    have hns34_0:=NB1_18.out
    have hns34_1:=NB2_18.out
    have hns34_2:=NB12_18.out
    have hms34_0:=NB18_1.out
    have hms34_1:=NB18_2.out
    have hms34_2:=NB18_12.out
    have hs35:w33.cell? ⟨gb18,1,none⟩=some (.string x14019001_1):=(blk_cell BK18.out 1).trans rfl
    have hfs35:=blk_frozen BK18.out 1
    have hns35_0:=NB1_18.out
    have hns35_1:=NB2_18.out
    have hns35_2:=NB12_18.out
    have hms35_0:=NB18_1.out
    have hms35_1:=NB18_2.out
    have hms35_2:=NB18_12.out
    have hs36:w33.cell? ⟨gb18,2,none⟩=some (.string x14019002_1):=(blk_cell BK18.out 2).trans rfl
    have hfs36:=blk_frozen BK18.out 2
    have hns36_0:=NB1_18.out
    have hns36_1:=NB2_18.out
    have hns36_2:=NB12_18.out
    have hms36_0:=NB18_1.out
    have hms36_1:=NB18_2.out
    have hms36_2:=NB18_12.out
    refine skip_ (w1:=?_) (by rfl) rfl ?_ ?_
    rotate_left
    ·go_simp
     rfl
    refine hK.out _ _ ?_
    clear hK K
    refine done_ (by kernel_rfl) ?_
    try go_wp2
    go_roundg k1
    case measure=>have:=HK1.out;omega
    case rel=>exact ⟨(wrap64 (x8_1+1)),(t21),(t22),(t23),(by (rfl)),H',⟨za43⟩,⟨by (with_reducible repeat ((apply Kd.N_drewN)));exact Kd.N_mono (zfN (zfN (zfN (Kd.N_mono HO_14013000.out (fun k_ hk=>(⟨hk,hk.2.2.2.2.1⟩:_∧k_ ≠ gb18)))))) (fun _ hk=>⟨hk.1.1,⟨hk.1.2.1,⟨hk.1.2.2.1,⟨hk.1.2.2.2.1,⟨hk.1.2.2.2.2.1,hk.1.2.2.2.2.2⟩⟩⟩⟩⟩)⟩,⟨zpw BK1.out⟩,⟨zpw BK2.out⟩,⟨zpw BK12.out⟩,⟨zpu BK18.out⟩,⟨za46⟩,⟨za31⟩⟩
   ·rw [if_neg c29] at H
    have c29b0:=zbn c29
    have c29b1:=zqt c29
    have H':=zk H
    clear H
    have p27:0≤(x8_1:Int):=of_decide_eq_true za25
    have q27:x8_1 < (3:Int):=of_decide_eq_true za25
    have hx27:=bt_at (⟨#[88,89,90]⟩:ByteArray) x8_1
    replace p27:=eq_true p27
    replace q27:=eq_true q27
    go_wp2_with ((((with_reducible refine gate_callee (f:=35) rfl ?_);refine zg (some 24) Tryz.func35 #[.string t19,.int .u8 (bt (⟨#[88,89,90]⟩:ByteArray) x8_1)] rfl za11 ?_;(with_reducible refine (spec_CountByte.calls k1 t19 (bt (⟨#[88,89,90]⟩:ByteArray) x8_1) t20 _ A28.out).mono ?_);rintro e w' ⟨rfl,⟨nd,rfl⟩⟩;refine ⟨_,rfl,?_⟩)))
    go_roundg k1
    case measure=>have:=HK1.out;omega
    case rel=>exact ⟨(wrap64 (x8_1+1)),(x14019000_1),(x14019001_1),(x14019002_1),(by (rfl)),H',⟨za43⟩,⟨za6 HO_14013000.out⟩,⟨za3 BK1.out⟩,⟨za3 BK2.out⟩,⟨za3 BK12.out⟩,⟨za3 BK18.out⟩,⟨za46⟩,⟨za31⟩⟩
   ·rw [if_neg c26] at H
    exact absurd H (by simp)
   rw [if_neg c25] at H
   have c25b0:=zdnl c25
   clear c25
   obtain ⟨⟨t24,t25,t26⟩,A37,H⟩:=zO H
   try dsimp only at H
   by_cases c38:t24=true
   ·subst c38
    rw [if_pos rfl] at H
    try dsimp only at H
    obtain ⟨y14027,hy14027⟩:∃ y_:List ByteArray,y_=(([⟨#[]⟩,⟨#[97]⟩,⟨#[97,98]⟩]:List ByteArray)):=⟨_,rfl⟩
    replace H:((spec_l1Pick.f t3 t25 t26 y14027).bind fun bt30=>(some (t7,bt30.1,(⟨#[]⟩:ByteArray),x14019002_1)))=some (r1,r2,r3,r4):=by ((rw [hy14027];with_reducible exact H))
    have Ny27:=zk hy14027
    clear hy14027
    obtain ⟨⟨t30,t31,t32⟩,A39,H⟩:=zO H
    try dsimp only at H
    simp only [Option.some.injEq,Prod.mk.injEq] at H
    obtain ⟨rfl,rfl,rfl,rfl⟩:=H
    try go_wp2_with (first|((with_reducible refine gate_callee (f:=37) rfl ?_);refine zg (some 31) Tryz.func37 #[.pointer (some ⟨g6,0,none⟩),.int .i64 2] rfl za11 ?_;(with_reducible refine (spec_l1Once.calls g6 t3 t16 t17 2 true t25 t26 w _ za46 za31 A37.out).mono ?_);rintro e w40 ⟨rfl,hi,hb,hk⟩;refine ⟨_,rfl,?_⟩;replace HO_14013000:=zk (Kd.N_mono (Kd.N_keep (Kd.N_mono (ok:=fun k_=>(((w.heap.size≤k_))∧(k_ ≠ gb1∧(k_ ≠ gb2∧(k_ ≠ gb12∧(k_ ≠ gb18∧k_ ≠ g6)))))) (za6 HO_14013000.out) (fun k_ hk_=>(⟨hk_,hk_.2.2.2.2.2⟩:_∧k_ ≠ g6))) hk (fun _ h=>h.2)) (fun _ h=>h.1));replace BK1:=yq hk BK1 NB1_6;replace BK2:=yq hk BK2 NB2_6;replace BK12:=yq hk BK12 NB12_6;replace BK18:=yq hk BK18 NB18_6;replace HB:=zk hb;replace HI6:=zk hi;(try clear hb hk hi))|((with_reducible refine gate_dst (N:=33) rfl ?_);refine Kd.R_lit Kd.string _ 9 ?hg (N:=33) ?hd (xs:=([⟨#[]⟩,⟨#[97]⟩,⟨#[97,98]⟩]:List ByteArray)) (inner:=[.string ⟨#[]⟩,.string ⟨#[97]⟩,.string ⟨#[97,98]⟩]) (ok:=fun _=>True) (okp:=fun _=>True) ?hr ?hp (fun _ hk=>hk) trivial (Below.refl _ _) (Nat.le_refl _) (by simp) ?_;(case hd=>rfl);(case hg=>rfl);(case hr=>((go_simp;done)));(case hp=>exact (Reps.one (show Kd.M Kd.string _ _ _ (⟨#[]⟩:ByteArray) [.string ⟨#[]⟩] from rfl) (Reps.one (show Kd.M Kd.string _ _ _ (⟨#[97]⟩:ByteArray) [.string ⟨#[97]⟩] from rfl) (Reps.one (show Kd.M Kd.string _ _ _ (⟨#[97,98]⟩:ByteArray) [.string ⟨#[97,98]⟩] from rfl) (Reps.none _ _)))));intro v28 w41 ho42 hb hg_ hnew_;clear hg_ hnew_;((rw [← Ny27.out] at ho42));replace HO_14013000:=zk (Kd.N_elder' (za6 HO_14013000.out) (Kd.R_base ho42) hb);have HO29:=zk (Kd.R_lower (Kd.R_newM (M:=fun k_=>(w.heap.size≤k_)) ho42 (below_size za31) (fun k_ h_=>h_)) (below_size za31));replace BK1:=yb BK1 hb;replace BK2:=yb BK2 hb;replace BK12:=yb BK12 hb;replace BK18:=yb BK18 hb;replace HB:=zk (below_step za31 hb);replace HI6:=zk (IsS77.below za46 hb);clear hb ho42;obtain ⟨Ao43,co43,eo43⟩:=Kd.R_slice HO29.out;subst eo43)|((with_reducible refine gate_callee (f:=38) rfl ?_);refine zg (some 34) Tryz.func38 #[.pointer (some ⟨g6,0,none⟩),.slice Ao43 y14027.length co43] rfl za11 ?_;(with_reducible refine (spec_l1Pick.calls g6 t3 t25 t26 _ _ y14027 t30 t31 t32 w _ za46 za31 ?side3 ?side4 ?side5 A39.out).mono ?_);(case side3=>repeat ((exact (Kd.R_reads' HO29.out).2.2)));(case side4=>exact (Kd.R_reads' HO29.out).2.1);(case side5=>exact far_slice (IsS77.own_ne HI6.out HO29.out (by decide)));rintro e w44 ⟨rfl,hi,hb,hk⟩;refine ⟨_,rfl,?_⟩;replace HO_14013000:=zk (Kd.N_mono (Kd.N_keep (Kd.N_mono (ok:=fun k_=>((((w.heap.size≤k_))∧(k_ ≠ gb1∧(k_ ≠ gb2∧(k_ ≠ gb12∧(k_ ≠ gb18∧k_ ≠ g6)))))∧some k_ ≠ (.slice Ao43 y14027.length co43:Value).ownBlock)) (za6 HO_14013000.out) (fun k_ hk_=>(⟨hk_,hk_.1.2.2.2.2.2⟩:_∧k_ ≠ g6))) hk (fun _ h=>h.2)) (fun _ h=>h.1));replace BK1:=yq hk BK1 NB1_6;replace BK2:=yq hk BK2 NB2_6;replace BK12:=yq hk BK12 NB12_6;replace BK18:=yq hk BK18 NB18_6;replace HO29:=zk (Kd.R_mono (Kd.R_keep (IsS77.apart (show IsS77 w _ g6 t3 t25 t26 from za46) (za1 HO29.out) (by decide)) hk (fun _ h=>h.2)) (fun _ h=>h.1));replace HB:=zk hb;replace HI6:=zk hi;(try clear hb hk hi);have hnb45:=NB18_1.out;have hnc45:=NB1_18.out;have hnb46:=NB18_2.out;have hnc46:=NB2_18.out;have hnb47:=NB18_12.out;have hnc47:=NB12_18.out;have hnb48:=NB18_6.out;have hnc48:=NB6_18.out;obtain ⟨hcz49_0,hcz49_1,hcz49_2,hfz49_0,hfz49_1,hfz49_2⟩:=blk3 BK18.out))
    have n0_:Aside0 (Kd.N k56 56 ((w44.setCell ⟨gb18,0,none⟩ (.string t30)).setCell ⟨gb18,1,none⟩ (.string ⟨#[]⟩)) w.heap.size (fun k_=>(w.heap.size≤k_)∧some k_ ≠ (.slice Ao43 y14027.length co43:Value).ownBlock∧k_ ≠ gb1∧k_ ≠ gb2∧k_ ≠ gb12∧k_ ≠ gb18∧k_ ≠ g6) (.slice Ao11 t7.length co11) t7):=⟨by (with_reducible repeat ((apply Kd.N_drewN)));exact Kd.N_mono (zfN (zfN (Kd.N_mono HO_14013000.out (fun k_ hk=>(⟨hk,hk.1.2.2.2.2.1⟩:_∧k_ ≠ gb18))))) (fun _ hk=>⟨hk.1.1.1,⟨hk.1.2,⟨hk.1.1.2.1,⟨hk.1.1.2.2.1,⟨hk.1.1.2.2.2.1,⟨hk.1.1.2.2.2.2.1,hk.1.1.2.2.2.2.2⟩⟩⟩⟩⟩⟩)⟩
    have n1_:Aside0 (Kd.R Kd.string 9 ((w44.setCell ⟨gb18,0,none⟩ (.string t30)).setCell ⟨gb18,1,none⟩ (.string ⟨#[]⟩)) w.heap.size (fun k_=>(w.heap.size≤k_)) (.slice Ao43 y14027.length co43) y14027):=⟨by (with_reducible repeat ((apply Kd.R_alloc)));exact Kd.R_mono (zfR (zfR (Kd.R_types HO29.out BK18.out (by decide)))) (fun _ hk=>hk.1.1)⟩
    have n2_:Aside0 (((w44.setCell ⟨gb18,0,none⟩ (.string t30)).setCell ⟨gb18,1,none⟩ (.string ⟨#[]⟩)).heap[gb1]? = some (.cells #[.slice none 0 0] 26 (0,0))):=⟨zpw BK1.out⟩
    have n3_:Aside0 (((w44.setCell ⟨gb18,0,none⟩ (.string t30)).setCell ⟨gb18,1,none⟩ (.string ⟨#[]⟩)).heap[gb2]? = some (.cells #[.string ⟨#[]⟩,.string ⟨#[]⟩,.string ⟨#[]⟩] 32 (0,0))):=⟨zpw BK2.out⟩
    have n4_:Aside0 (((w44.setCell ⟨gb18,0,none⟩ (.string t30)).setCell ⟨gb18,1,none⟩ (.string ⟨#[]⟩)).heap[gb12]? = some (.cells #[.slice Ao11 t7.length co11] 26 (0,0))):=⟨zpw BK12.out⟩
    have n5_:Aside0 (((w44.setCell ⟨gb18,0,none⟩ (.string t30)).setCell ⟨gb18,1,none⟩ (.string ⟨#[]⟩)).heap[gb18]? = some (.cells #[.string t30,.string ⟨#[]⟩,.string x14019002_1] 32 (0,0))):=⟨zpu BK18.out⟩
    have n6_:Aside0 (IsS77 w ((w44.setCell ⟨gb18,0,none⟩ (.string t30)).setCell ⟨gb18,1,none⟩ (.string ⟨#[]⟩)) g6 t3 t31 t32):=⟨za46⟩
    have n7_:Aside0 (Below w.heap.size w ((w44.setCell ⟨gb18,0,none⟩ (.string t30)).setCell ⟨gb18,1,none⟩ (.string ⟨#[]⟩))):=⟨za31⟩
    (try clear HO_14013000)
    (try clear HO29)
    (try clear BK1)
    (try clear BK2)
    (try clear BK12)
    (try clear BK18)
    (try clear HI6)
    (try clear HB)
    generalize ((w44.setCell ⟨gb18,0,none⟩ (.string t30)).setCell ⟨gb18,1,none⟩ (.string ⟨#[]⟩))=w50 at n0_ n1_ n2_ n3_ n4_ n5_ n6_ n7_ ⊢
    have HO_14013000:=n0_
    have HO29:=n1_
    have BK1:=n2_
    have BK2:=n3_
    have BK12:=n4_
    have BK18:=n5_
    have HI6:=n6_
    have HB:=n7_
    clear n0_ n1_ n2_ n3_ n4_ n5_ n6_ n7_
    replace HO_14013000:=zk (Kd.N_drew HO_14013000.out)
    replace HO29:=zk (Kd.R_drew HO29.out)
    replace BK1:=zk (blk_drew BK1.out)
    replace BK2:=zk (blk_drew BK2.out)
    replace BK12:=zk (blk_drew BK12.out)
    replace BK18:=zk (blk_drew BK18.out)
    replace HI6:=zk (IsS77.drew HI6.out)
    replace HB:=zk (below_drew1 HB.out)
    refine start_ (n:=4) (S:=fun w'=>w'.cell? ⟨gb12,0,none⟩=some (.slice Ao11 t7.length co11)∧w'.cell? ⟨gb18,0,none⟩=some (.string t30)∧w'.cell? ⟨gb18,1,none⟩=some (.string ⟨#[]⟩)∧w'.cell? ⟨gb18,2,none⟩=some (.string x14019002_1)) (ds:=[]) #[false,false,false,false] (by kernel_rfl) rfl rfl ⟨(blk_cell BK12.out 0).trans rfl,(blk_cell BK18.out 0).trans rfl,(blk_cell BK18.out 1).trans rfl,(blk_cell BK18.out 2).trans rfl⟩ (fun hHeld=>?_)
    generalize w50.drew=w51 at HO_14013000 HO29 BK1 BK2 BK12 BK18 HI6 HB hHeld ⊢
    refine ztkk 0 (some 37) hHeld ?_
    refine ztkk 1 (some 38) hHeld ?_
    refine one_ (i:=2) (N:=none) #[true,true,true,false] rfl rfl (by kernel_rfl) (by decide) (fun K hK=>?_)
    have hs52:w51.cell? ⟨gb1,0,none⟩=some (.slice none 0 0):=(blk_cell BK1.out 0).trans rfl
    have hfs52:=blk_frozen BK1.out 0
    have hns52_1:=NB2_1.out
    have hns52_2:=NB12_1.out
    have hns52_3:=NB18_1.out
    have hms52_1:=NB1_2.out
    have hms52_2:=NB1_12.out
    have hms52_3:=NB1_18.out
    refine skip_ (w1:=?_) (by rfl) rfl ?_ ?_
    rotate_left
    ·go_simp
     rfl
    refine hK.out _ _ ⟨((cell_far (p:=⟨gb1,_,none⟩) NB12_1.out _).trans (hHeld.1)),((cell_far (p:=⟨gb1,_,none⟩) NB18_1.out _).trans (hHeld.2.1)),((cell_far (p:=⟨gb1,_,none⟩) NB18_1.out _).trans (hHeld.2.2.1)),((cell_far (p:=⟨gb1,_,none⟩) NB18_1.out _).trans (hHeld.2.2.2))⟩ (fun hHeld=>?_)
    clear hK K
    refine one_ (i:=3) (N:=none) #[true,true,true,true] rfl rfl (by kernel_rfl) (by decide) (fun K hK=>?_)
    have hs53:w51.cell? ⟨gb2,0,none⟩=some (.string ⟨#[]⟩):=(blk_cell BK2.out 0).trans rfl
    have hfs53:=blk_frozen BK2.out 0
    have hns53_0:=NB1_2.out
    have hns53_2:=NB12_2.out
    have hns53_3:=NB18_2.out
    have hms53_0:=NB2_1.out
    have hms53_2:=NB2_12.out
    have hms53_3:=NB2_18.out
    have hs54:w51.cell? ⟨gb2,1,none⟩=some (.string ⟨#[]⟩):=(blk_cell BK2.out 1).trans rfl
    have hfs54:=blk_frozen BK2.out 1
    have hns54_0:=NB1_2.out
    have hns54_2:=NB12_2.out
    have hns54_3:=NB18_2.out
    have hms54_0:=NB2_1.out
    have hms54_2:=NB2_12.out
    have hms54_3:=NB2_18.out
    have hs55:w51.cell? ⟨gb2,2,none⟩=some (.string ⟨#[]⟩):=(blk_cell BK2.out 2).trans rfl
    have hfs55:=blk_frozen BK2.out 2
    have hns55_0:=NB1_2.out
    have hns55_2:=NB12_2.out
    have hns55_3:=NB18_2.out
    have hms55_0:=NB2_1.out
    have hms55_2:=NB2_12.out
    have hms55_3:=NB2_18.out
    refine skip_ (w1:=?_) (by rfl) rfl ?_ ?_
    rotate_left
    ·go_simp
     rfl
    refine hK.out _ _ ⟨((cell_far (p:=⟨gb2,_,none⟩) NB12_2.out _).trans (((cell_far (p:=⟨gb2,_,none⟩) NB12_2.out _).trans (((cell_far (p:=⟨gb2,_,none⟩) NB12_2.out _).trans (hHeld.1)))))),((cell_far (p:=⟨gb2,_,none⟩) NB18_2.out _).trans (((cell_far (p:=⟨gb2,_,none⟩) NB18_2.out _).trans (((cell_far (p:=⟨gb2,_,none⟩) NB18_2.out _).trans (hHeld.2.1)))))),((cell_far (p:=⟨gb2,_,none⟩) NB18_2.out _).trans (((cell_far (p:=⟨gb2,_,none⟩) NB18_2.out _).trans (((cell_far (p:=⟨gb2,_,none⟩) NB18_2.out _).trans (hHeld.2.2.1)))))),((cell_far (p:=⟨gb2,_,none⟩) NB18_2.out _).trans (((cell_far (p:=⟨gb2,_,none⟩) NB18_2.out _).trans (((cell_far (p:=⟨gb2,_,none⟩) NB18_2.out _).trans (hHeld.2.2.2))))))⟩ (fun hHeld=>?_)
    clear hK K
    refine done_ (by kernel_rfl) ?_
    try go_wp2
    refine bodyPost_ret (results_cc rfl _ _ gb1 gb2 26 32 #[.slice Ao11 t7.length co11] #[.string t30,.string ⟨#[]⟩,.string x14019002_1] (0,0) (0,0) _ _ rfl (zpw BK1.out) Tryz.underlying26 rfl (by kernel_rfl) rfl (zpw BK2.out) Tryz.underlying32 rfl (by kernel_rfl)) rfl ?_
    exact ⟨_,by (rfl),by (with_reducible repeat ((apply Kd.N_drewN)));exact Kd.N_mono (zfN (zfN (zfN (Kd.N_far (p:=⟨gb1,0,none⟩) (Kd.N_mono (Kd.N_mono HO_14013000.out (fun k_ hk=>(⟨hk,hk.2.2.1⟩:_∧k_ ≠ gb1))) (fun k_ hk=>(⟨hk,hk.1.2.2.2.1⟩:_∧k_ ≠ gb2))) (fun _ hk=>hk.1.2) (.slice Ao11 t7.length co11))))) (fun _ hk=>hk.1.1.1),za31⟩
   ·replace c38:=Bool.eq_false_iff.mpr c38
    subst c38
    rw [if_neg zff] at H
    try dsimp only at H
    simp only [Option.some.injEq,Prod.mk.injEq] at H
    obtain ⟨rfl,rfl,rfl,rfl⟩:=H
    try go_wp2_with ((((with_reducible refine gate_callee (f:=37) rfl ?_);refine zg (some 31) Tryz.func37 #[.pointer (some ⟨g6,0,none⟩),.int .i64 2] rfl za11 ?_;(with_reducible refine (spec_l1Once.calls g6 t3 t16 t17 2 false t25 t26 w _ za46 za31 A37.out).mono ?_);rintro e w56 ⟨rfl,hi,hb,hk⟩;refine ⟨_,rfl,?_⟩;replace HO_14013000:=zk (Kd.N_mono (Kd.N_keep (Kd.N_mono (ok:=fun k_=>(((w.heap.size≤k_))∧(k_ ≠ gb1∧(k_ ≠ gb2∧(k_ ≠ gb12∧(k_ ≠ gb18∧k_ ≠ g6)))))) (za6 HO_14013000.out) (fun k_ hk_=>(⟨hk_,hk_.2.2.2.2.2⟩:_∧k_ ≠ g6))) hk (fun _ h=>h.2)) (fun _ h=>h.1));replace BK1:=yq hk BK1 NB1_6;replace BK2:=yq hk BK2 NB2_6;replace BK12:=yq hk BK12 NB12_6;replace BK18:=yq hk BK18 NB18_6;replace HB:=zk hb;replace HI6:=zk hi;(try clear hb hk hi))))
    replace HO_14013000:=zk (Kd.N_drew HO_14013000.out)
    replace BK1:=zk (blk_drew BK1.out)
    replace BK2:=zk (blk_drew BK2.out)
    replace BK12:=zk (blk_drew BK12.out)
    replace BK18:=zk (blk_drew BK18.out)
    replace HI6:=zk (IsS77.drew HI6.out)
    replace HB:=zk (below_drew1 HB.out)
    refine start_ (n:=4) (S:=fun w'=>w'.cell? ⟨gb12,0,none⟩=some (.slice Ao11 t7.length co11)∧w'.cell? ⟨gb18,0,none⟩=some (.string x14019000_1)∧w'.cell? ⟨gb18,1,none⟩=some (.string x14019001_1)∧w'.cell? ⟨gb18,2,none⟩=some (.string x14019002_1)) (ds:=[]) #[false,false,false,false] (by kernel_rfl) rfl rfl ⟨(blk_cell BK12.out 0).trans rfl,(blk_cell BK18.out 0).trans rfl,(blk_cell BK18.out 1).trans rfl,(blk_cell BK18.out 2).trans rfl⟩ (fun hHeld=>?_)
    generalize w56.drew=w57 at HO_14013000 BK1 BK2 BK12 BK18 HI6 HB hHeld ⊢
    refine ztkk 0 (some 37) hHeld ?_
    refine ztkk 1 (some 38) hHeld ?_
    refine one_ (i:=2) (N:=none) #[true,true,true,false] rfl rfl (by kernel_rfl) (by decide) (fun K hK=>?_)
    have hs58:w57.cell? ⟨gb1,0,none⟩=some (.slice none 0 0):=(blk_cell BK1.out 0).trans rfl
    have hfs58:=blk_frozen BK1.out 0
    have hns58_1:=NB2_1.out
    have hns58_2:=NB12_1.out
    have hns58_3:=NB18_1.out
    have hms58_1:=NB1_2.out
    have hms58_2:=NB1_12.out
    have hms58_3:=NB1_18.out
    refine skip_ (w1:=?_) (by rfl) rfl ?_ ?_
    rotate_left
    ·go_simp
     rfl
    refine hK.out _ _ ⟨((cell_far (p:=⟨gb1,_,none⟩) NB12_1.out _).trans (hHeld.1)),((cell_far (p:=⟨gb1,_,none⟩) NB18_1.out _).trans (hHeld.2.1)),((cell_far (p:=⟨gb1,_,none⟩) NB18_1.out _).trans (hHeld.2.2.1)),((cell_far (p:=⟨gb1,_,none⟩) NB18_1.out _).trans (hHeld.2.2.2))⟩ (fun hHeld=>?_)
    clear hK K
    refine one_ (i:=3) (N:=none) #[true,true,true,true] rfl rfl (by kernel_rfl) (by decide) (fun K hK=>?_)
    have hs59:w57.cell? ⟨gb2,0,none⟩=some (.string ⟨#[]⟩):=(blk_cell BK2.out 0).trans rfl
    have hfs59:=blk_frozen BK2.out 0
    have hns59_0:=NB1_2.out
    have hns59_2:=NB12_2.out
    have hns59_3:=NB18_2.out
    have hms59_0:=NB2_1.out
    have hms59_2:=NB2_12.out
    have hms59_3:=NB2_18.out
    have hs60:w57.cell? ⟨gb2,1,none⟩=some (.string ⟨#[]⟩):=(blk_cell BK2.out 1).trans rfl
    have hfs60:=blk_frozen BK2.out 1
    have hns60_0:=NB1_2.out
    have hns60_2:=NB12_2.out
    have hns60_3:=NB18_2.out
    have hms60_0:=NB2_1.out
    have hms60_2:=NB2_12.out
    have hms60_3:=NB2_18.out
    have hs61:w57.cell? ⟨gb2,2,none⟩=some (.string ⟨#[]⟩):=(blk_cell BK2.out 2).trans rfl
    have hfs61:=blk_frozen BK2.out 2
    have hns61_0:=NB1_2.out
    have hns61_2:=NB12_2.out
    have hns61_3:=NB18_2.out
    have hms61_0:=NB2_1.out
    have hms61_2:=NB2_12.out
    have hms61_3:=NB2_18.out
    refine skip_ (w1:=?_) (by rfl) rfl ?_ ?_
    rotate_left
    ·go_simp
     rfl
    refine hK.out _ _ ⟨((cell_far (p:=⟨gb2,_,none⟩) NB12_2.out _).trans (((cell_far (p:=⟨gb2,_,none⟩) NB12_2.out _).trans (((cell_far (p:=⟨gb2,_,none⟩) NB12_2.out _).trans (hHeld.1)))))),((cell_far (p:=⟨gb2,_,none⟩) NB18_2.out _).trans (((cell_far (p:=⟨gb2,_,none⟩) NB18_2.out _).trans (((cell_far (p:=⟨gb2,_,none⟩) NB18_2.out _).trans (hHeld.2.1)))))),((cell_far (p:=⟨gb2,_,none⟩) NB18_2.out _).trans (((cell_far (p:=⟨gb2,_,none⟩) NB18_2.out _).trans (((cell_far (p:=⟨gb2,_,none⟩) NB18_2.out _).trans (hHeld.2.2.1)))))),((cell_far (p:=⟨gb2,_,none⟩) NB18_2.out _).trans (((cell_far (p:=⟨gb2,_,none⟩) NB18_2.out _).trans (((cell_far (p:=⟨gb2,_,none⟩) NB18_2.out _).trans (hHeld.2.2.2))))))⟩ (fun hHeld=>?_)
    clear hK K
    refine done_ (by kernel_rfl) ?_
    try go_wp2
    refine bodyPost_ret (results_cc rfl _ _ gb1 gb2 26 32 #[.slice Ao11 t7.length co11] #[.string x14019000_1,.string x14019001_1,.string x14019002_1] (0,0) (0,0) _ _ rfl (zpw BK1.out) Tryz.underlying26 rfl (by kernel_rfl) rfl (zpw BK2.out) Tryz.underlying32 rfl (by kernel_rfl)) rfl ?_
    exact ⟨_,by (rfl),by (with_reducible repeat ((apply Kd.N_drewN)));exact Kd.N_mono (zfN (zfN (zfN (Kd.N_far (p:=⟨gb1,0,none⟩) (Kd.N_mono (Kd.N_mono HO_14013000.out (fun k_ hk=>(⟨hk,hk.2.1⟩:_∧k_ ≠ gb1))) (fun k_ hk=>(⟨hk,hk.1.2.2.1⟩:_∧k_ ≠ gb2))) (fun _ hk=>hk.1.2) (.slice Ao11 t7.length co11))))) (fun _ hk=>hk.1.1.1),za31⟩
def spec_l11Args.f (k:Nat) (l0:List Int):Option ((List (S56)) × Int):=(spec_l1New.f k l0).bind fun bt16002=>((spec_l1Once.f bt16002.1 bt16002.2.1 bt16002.2.2 12).bind fun bt16006=>(if bt16006.1=true then ((spec_l10Bent.f k bt16002.1 bt16006.2.1 bt16006.2.2).bind fun bt16009=>((spec_l1Below.f bt16002.1 bt16009.2.1 bt16009.2.2 4).bind fun bt16014=>(some (bt16009.1,wrap64 (bt16014.1 - 1))))) else ((spec_l10Draw.f k bt16002.1 bt16006.2.1 bt16006.2.2 3).bind fun bt16017=>((spec_l1PickInt.f bt16002.1 bt16017.2.1 bt16017.2.2 (([1,2,2,3,0,5,9,(-1)]:List Int))).bind fun bt16025=>(some (bt16017.1,bt16025.1))))))
theorem spec_l11Args.calls (k:Nat) (A0:Option Addr) (c0:Nat) (l0:List Int) (r1:List (S56)) (r2:Int) (w:World) (hr0:Kd.C (Kd.int .u8) w A0 l0.length l0) (hc0:l0.length≤c0) (h:spec_l11Args.f k l0=some (r1,r2)) :
  Calls Tryz.prog 16 #[.slice A0 l0.length c0] w fun e w'=>∃ v0_:Value,e = .returned (.tuple #[.agg #[v0_],.int .i64 r2])∧Kd.N k56 56 w' w.heap.size (fun k_=>(w.heap.size≤k_)) v0_ r1∧Below w.heap.size w w':=by
 have hu26:=Tryz.underlying26
 have HR0:=zk hr0
 have HC0:=zk hc0
 clear hr0 hc0
 have HB:=zk (Below.refl w.heap.size w)
 have H:=h
 unfold spec_l11Args.f at H
 clear h
 obtain ⟨⟨t2,t3,t4⟩,A2,H⟩:=zO H
 try dsimp only at H
 obtain ⟨⟨t6,t7,t8⟩,A3,H⟩:=zO H
 try dsimp only at H
 by_cases c4:t6=true
 ·subst c4
  rw [if_pos rfl] at H
  try dsimp only at H
  obtain ⟨⟨t9,t12,t13⟩,A5,H⟩:=zO H
  try dsimp only at H
  obtain ⟨⟨t14,t15,t16⟩,A6,H⟩:=zO H
  try dsimp only at H
  simp only [Option.some.injEq,Prod.mk.injEq] at H
  obtain ⟨rfl,rfl⟩:=H
  go_enter Tryz.func16,Tryz.ntmps16
  go_wp2_with (first|((with_reducible refine gate_dst (N:=2) rfl ?_);refine zE (cs:=#[.slice none 0 0]) (t:=26) ?_;intro gb1 hg w7 hbox hb;have BK1:=zk hbox;have GW1:=zk (zs (w:=w) hg za9);have GE1:=GW1;replace HB:=yB HB hb;clear hb hbox hg)|((with_reducible refine gate_callee (f:=32) rfl ?_);refine zg (some 6) Tryz.func32 #[.slice A0 l0.length c0] rfl za14 ?_;(with_reducible refine (spec_l1New.calls k _ _ l0 t2 t3 t4 w _ za86 ?side2 ?side3 A2.out).mono ?_);(case side2=>exact HR0.out);(case side3=>exact HC0.out);rintro e w8 ⟨g5,rfl,hi,hb,hb2⟩;refine ⟨_,rfl,?_⟩;replace HB:=zk hb;have HI5:=zk hi;have NB5_1:=zk (IsS77.ne_blk hi (zb BK1.out hb2) (by decide));have NB1_5:=zk (Ne.symm (IsS77.ne_blk hi (zb BK1.out hb2) (by decide)));replace BK1:=yb BK1 hb2;(try clear hb hb2 hi))|((with_reducible refine gate_callee (f:=37) rfl ?_);refine zg (some 8) Tryz.func37 #[.pointer (some ⟨g5,0,none⟩),.int .i64 12] rfl za14 ?_;(with_reducible refine (spec_l1Once.calls g5 t2 t3 t4 12 true t7 t8 w _ za37 za28 A3.out).mono ?_);rintro e w9 ⟨rfl,hi,hb,hk⟩;refine ⟨_,rfl,?_⟩;replace BK1:=yq hk BK1 NB1_5;replace HB:=zk hb;replace HI5:=zk hi;(try clear hb hk hi))|((with_reducible refine gate_callee (f:=33) rfl ?_);refine zg (some 10) Tryz.func33 #[.pointer (some ⟨g5,0,none⟩)] rfl za14 ?_;(with_reducible refine (spec_l10Bent.calls k g5 t2 t7 t8 t9 t12 t13 w _ za37 za28 A5.out).mono ?_);rintro e w10 ⟨v10,rfl,ho0,hi,hb,hk⟩;refine ⟨_,rfl,?_⟩;have HO11:=zk (Kd.N_lower (Kd.N_mono (ok':=fun k_=>(w.heap.size≤k_)∧k_ ≠ gb1∧k_ ≠ g5) ho0 (fun k_ hk_=>⟨(Nat.le_trans (below_size za28) hk_),(zF BK1.out k_ hk_),(IsS77.fresh za37 k_ hk_)⟩)) (below_size za28));replace BK1:=yq hk BK1 NB1_5;replace HB:=zk hb;replace HI5:=zk hi;(try clear hb hk hi ho0))|((with_reducible refine gate_callee (f:=42) rfl ?_);refine zg (some 12) Tryz.func42 #[.pointer (some ⟨g5,0,none⟩),.int .i64 4] rfl za14 ?_;(with_reducible refine (spec_l1Below.calls g5 t2 t12 t13 4 t14 t15 t16 w _ za37 za28 A6.out).mono ?_);rintro e w11 ⟨rfl,hi,hb,hk⟩;refine ⟨_,rfl,?_⟩;replace BK1:=yq hk BK1 NB1_5;replace HO11:=zk (Kd.N_mono (Kd.N_keep (Kd.N_mono (ok:=fun k_=>(((w.heap.size≤k_))∧(k_ ≠ gb1∧k_ ≠ g5))) (za7 HO11.out) (fun k_ hk_=>(⟨hk_,hk_.2.2⟩:_∧k_ ≠ g5))) hk (fun _ h=>h.2)) (fun _ h=>h.1));replace HB:=zk hb;replace HI5:=zk hi;(try clear hb hk hi);obtain ⟨Ao12,co12,eo12⟩:=Kd.N_slice HO11.out;subst eo12;have hnb13:=NB1_5.out;have hnc13:=NB5_1.out;obtain ⟨hcz14_0,hfz14_0⟩:=blk1 BK1.out))
  refine bodyPost_ret (results_ct rfl _ _ gb1 26 #[.slice Ao12 t9.length co12] (0,0) _ rfl (zpu BK1.out) Tryz.underlying26 rfl (by kernel_rfl)) rfl ?_
  exact ⟨_,za24,by (with_reducible repeat (first|apply Kd.N_alloc|apply Kd.N_drewN|apply Kd.N_drew));exact Kd.N_mono (zfN (Kd.N_mono HO11.out (fun k_ hk=>(⟨hk,hk.2.1⟩:_∧k_ ≠ gb1)))) (fun _ hk=>hk.1.1),za28⟩
 ·replace c4:=Bool.eq_false_iff.mpr c4
  subst c4
  rw [if_neg zff] at H
  try dsimp only at H
  obtain ⟨⟨t17,t20,t21⟩,A15,H⟩:=zO H
  try dsimp only at H
  obtain ⟨y16022,hy16022⟩:∃ y_:List Int,y_=(([1,2,2,3,0,5,9,(-1)]:List Int)):=⟨_,rfl⟩
  replace H:((spec_l1PickInt.f t2 t20 t21 y16022).bind fun bt25=>(some (t17,bt25.1)))=some (r1,r2):=by first|(rw [hy16022];with_reducible exact H)|(have H2_:=(Option.bind_some _ _).symm.trans H;rw [hy16022];with_reducible exact H2_)|(have H2_:=(Option.bind_some _ _).symm.trans H;with_reducible exact H2_)|with_reducible exact H|(rw [hy16022];exact H)|exact H
  have Ny22:=zk hy16022
  clear hy16022
  obtain ⟨⟨t25,t26,t27⟩,A16,H⟩:=zO H
  try dsimp only at H
  simp only [Option.some.injEq,Prod.mk.injEq] at H
  obtain ⟨rfl,rfl⟩:=H
  go_enter Tryz.func16,Tryz.ntmps16
  go_wp2_with (first|((with_reducible refine gate_dst (N:=2) rfl ?_);refine zE (cs:=#[.slice none 0 0]) (t:=26) ?_;intro gb1 hg w17 hbox hb;have BK1:=zk hbox;have GW1:=zk (zs (w:=w) hg za9);have GE1:=GW1;replace HB:=yB HB hb;clear hb hbox hg)|((with_reducible refine gate_callee (f:=32) rfl ?_);refine zg (some 6) Tryz.func32 #[.slice A0 l0.length c0] rfl za14 ?_;(with_reducible refine (spec_l1New.calls k _ _ l0 t2 t3 t4 w _ za86 ?side2 ?side3 A2.out).mono ?_);(case side2=>exact HR0.out);(case side3=>exact HC0.out);rintro e w18 ⟨g5,rfl,hi,hb,hb2⟩;refine ⟨_,rfl,?_⟩;replace HB:=zk hb;have HI5:=zk hi;have NB5_1:=zk (IsS77.ne_blk hi (zb BK1.out hb2) (by decide));have NB1_5:=zk (Ne.symm (IsS77.ne_blk hi (zb BK1.out hb2) (by decide)));replace BK1:=yb BK1 hb2;(try clear hb hb2 hi))|((with_reducible refine gate_callee (f:=37) rfl ?_);refine zg (some 8) Tryz.func37 #[.pointer (some ⟨g5,0,none⟩),.int .i64 12] rfl za14 ?_;(with_reducible refine (spec_l1Once.calls g5 t2 t3 t4 12 false t7 t8 w _ za37 za28 A3.out).mono ?_);rintro e w19 ⟨rfl,hi,hb,hk⟩;refine ⟨_,rfl,?_⟩;replace BK1:=yq hk BK1 NB1_5;replace HB:=zk hb;replace HI5:=zk hi;(try clear hb hk hi))|((with_reducible refine gate_callee (f:=43) rfl ?_);refine zg (some 15) Tryz.func43 #[.pointer (some ⟨g5,0,none⟩),.int .i64 3] rfl za14 ?_;(with_reducible refine (spec_l10Draw.calls k g5 t2 t7 t8 3 t17 t20 t21 w _ za37 za28 A15.out).mono ?_);rintro e w20 ⟨v18,rfl,ho0,hi,hb,hk⟩;refine ⟨_,rfl,?_⟩;have HO19:=zk (Kd.N_lower (Kd.N_mono (ok':=fun k_=>(w.heap.size≤k_)∧k_ ≠ gb1∧k_ ≠ g5) ho0 (fun k_ hk_=>⟨(Nat.le_trans (below_size za28) hk_),(zF BK1.out k_ hk_),(IsS77.fresh za37 k_ hk_)⟩)) (below_size za28));replace BK1:=yq hk BK1 NB1_5;replace HB:=zk hb;replace HI5:=zk hi;(try clear hb hk hi ho0))|((with_reducible refine gate_dst (N:=17) rfl ?_);refine Kd.R_lit (Kd.int .i64) _ 3 ?hg (N:=17) ?hd (xs:=([1,2,2,3,0,5,9,(-1)]:List Int)) (inner:=[.int .i64 1,.int .i64 2,.int .i64 2,.int .i64 3,.int .i64 0,.int .i64 5,.int .i64 9,.int .i64 (-1)]) (ok:=fun _=>True) (okp:=fun _=>True) ?hr ?hp (fun _ hk=>hk) trivial (Below.refl _ _) (Nat.le_refl _) (by simp) ?_;(case hd=>rfl);(case hg=>rfl);(case hr=>first|(go_simp;done)|(go_simp;rfl));(case hp=>exact (Reps.one (show Kd.M (Kd.int .i64) _ _ _ 1 [.int .i64 1] from rfl) (Reps.one (show Kd.M (Kd.int .i64) _ _ _ 2 [.int .i64 2] from rfl) (Reps.one (show Kd.M (Kd.int .i64) _ _ _ 2 [.int .i64 2] from rfl) (Reps.one (show Kd.M (Kd.int .i64) _ _ _ 3 [.int .i64 3] from rfl) (Reps.one (show Kd.M (Kd.int .i64) _ _ _ 0 [.int .i64 0] from rfl) (Reps.one (show Kd.M (Kd.int .i64) _ _ _ 5 [.int .i64 5] from rfl) (Reps.one (show Kd.M (Kd.int .i64) _ _ _ 9 [.int .i64 9] from rfl) (Reps.one (show Kd.M (Kd.int .i64) _ _ _ (-1) [.int .i64 (-1)] from rfl) (Reps.none _ _))))))))));intro v23 w21 ho22 hb hg_ hnew_;clear hg_ hnew_;(first|rw [← Ny22.out] at ho22|(simp only [Int.reduceToNat] at ho22;rw [← Ny22.out] at ho22));replace HO19:=zk (Kd.N_elder' (za7 HO19.out) (Kd.R_base ho22) hb);have HO24:=zk (Kd.R_lower (Kd.R_newM (M:=fun k_=>(w.heap.size≤k_)) ho22 (below_size za28) (fun k_ h_=>h_)) (below_size za28));replace BK1:=yb BK1 hb;replace HB:=zk (below_step za28 hb);replace HI5:=zk (IsS77.below za37 hb);clear hb ho22;obtain ⟨Ao23,co23,eo23⟩:=Kd.R_slice HO24.out;subst eo23)|((with_reducible refine gate_callee (f:=44) rfl ?_);refine zg (some 18) Tryz.func44 #[.pointer (some ⟨g5,0,none⟩),.slice Ao23 y16022.length co23] rfl za14 ?_;(with_reducible refine (spec_l1PickInt.calls g5 t2 t20 t21 _ _ y16022 t25 t26 t27 w _ za37 za28 ?side3 ?side4 ?side5 A16.out).mono ?_);(case side3=>repeat (first|exact (Kd.R_reads' HO24.out).2.2|(with_reducible refine Kd.C_alloc ?_ _)|(with_reducible refine Kd.C_drewN ?_ _)|(with_reducible refine Kd.C_drew ?_)));(case side4=>exact (Kd.R_reads' HO24.out).2.1);(case side5=>exact far_slice (IsS77.own_ne HI5.out HO24.out (by decide)));rintro e w24 ⟨rfl,hi,hb,hk⟩;refine ⟨_,rfl,?_⟩;replace BK1:=yq hk BK1 NB1_5;replace HO19:=zk (Kd.N_mono (Kd.N_keep (Kd.N_mono (ok:=fun k_=>((((w.heap.size≤k_))∧(k_ ≠ gb1∧k_ ≠ g5))∧some k_ ≠ (.slice Ao23 y16022.length co23:Value).ownBlock)) (za7 HO19.out) (fun k_ hk_=>(⟨hk_,hk_.1.2.2⟩:_∧k_ ≠ g5))) hk (fun _ h=>h.2)) (fun _ h=>h.1));replace HO24:=zk (Kd.R_mono (Kd.R_keep (IsS77.apart (show IsS77 w _ g5 t2 t20 t21 from za37) (za2 HO24.out) (by decide)) hk (fun _ h=>h.2)) (fun _ h=>h.1));replace HB:=zk hb;replace HI5:=zk hi;(try clear hb hk hi);obtain ⟨Ao25,co25,eo25⟩:=Kd.N_slice HO19.out;subst eo25;have hnb26:=NB1_5.out;have hnc26:=NB5_1.out;obtain ⟨hcz27_0,hfz27_0⟩:=blk1 BK1.out))
  refine bodyPost_ret (results_ct rfl _ _ gb1 26 #[.slice Ao25 t17.length co25] (0,0) _ rfl (zpu BK1.out) Tryz.underlying26 rfl (by kernel_rfl)) rfl ?_
  exact ⟨_,za24,by (with_reducible repeat (first|apply Kd.N_alloc|apply Kd.N_drewN|apply Kd.N_drew));exact Kd.N_mono (zfN (Kd.N_mono HO19.out (fun k_ hk=>(⟨hk,hk.1.2.1⟩:_∧k_ ≠ gb1)))) (fun _ hk=>hk.1.1.1),za28⟩
def spec_DrawModelsUpTo.f (k:Nat) (l0:List Int):Option ((List (S56)) × Int):=(spec_l11Args.f k l0).bind fun bt5002=>(some (bt5002.1,bt5002.2))
theorem spec_DrawModelsUpTo.calls (k:Nat) (A0:Option Addr) (c0:Nat) (l0:List Int) (r1:List (S56)) (r2:Int) (w:World) (hr0:Kd.C (Kd.int .u8) w A0 l0.length l0) (hc0:l0.length≤c0) (h:spec_DrawModelsUpTo.f k l0=some (r1,r2)) :
  Calls Tryz.prog 5 #[.slice A0 l0.length c0] w fun e w'=>∃ v0_:Value,e = .returned (.tuple #[.agg #[v0_],.int .i64 r2])∧Kd.N k56 56 w' w.heap.size (fun k_=>(w.heap.size≤k_)) v0_ r1∧Below w.heap.size w w':=by
 have hu26:=Tryz.underlying26
 have HR0:=zk hr0
 have HC0:=zk hc0
 clear hr0 hc0
 have HB:=zk (Below.refl w.heap.size w)
 have H:=h
 unfold spec_DrawModelsUpTo.f at H
 clear h
 obtain ⟨⟨t2,t5⟩,A2,H⟩:=zO H
 try dsimp only at H
 simp only [Option.some.injEq,Prod.mk.injEq] at H
 obtain ⟨rfl,rfl⟩:=H
 go_enter Tryz.func5,Tryz.ntmps5
 go_wp2_with (first|((with_reducible refine gate_dst (N:=2) rfl ?_);refine zE (cs:=#[.slice none 0 0]) (t:=26) ?_;intro gb1 hg w3 hbox hb;have BK1:=zk hbox;have GW1:=zk (zs (w:=w) hg za9);have GE1:=GW1;replace HB:=yB HB hb;clear hb hbox hg)|((with_reducible refine gate_callee (f:=16) rfl ?_);refine zg (some 5) Tryz.func16 #[.slice A0 l0.length c0] rfl za14 ?_;(with_reducible refine (spec_l11Args.calls k _ _ l0 t2 t5 _ ?side1 ?side2 A2.out).mono ?_);(case side1=>repeat (first|exact (Kd.C_below HR0.out HB.out)|(with_reducible refine Kd.C_alloc ?_ _)|(with_reducible refine Kd.C_drewN ?_ _)|(with_reducible refine Kd.C_drew ?_)));(case side2=>exact HC0.out);rintro e w4 ⟨v3,rfl,ho0,hb⟩;refine ⟨_,rfl,?_⟩;have HO4:=zk (Kd.N_lower (Kd.N_mono (ok':=fun k_=>(w.heap.size≤k_)∧k_ ≠ gb1) ho0 (fun k_ hk_=>⟨(Nat.le_trans (below_size za9) hk_),(zF BK1.out k_ hk_)⟩)) (below_size za9));replace BK1:=yb BK1 hb;replace HB:=yB HB hb;(try clear hb ho0);obtain ⟨Ao5,co5,eo5⟩:=Kd.N_slice HO4.out;subst eo5;obtain ⟨hcz6_0,hfz6_0⟩:=blk1 BK1.out))
 refine bodyPost_ret (results_ct rfl _ _ gb1 26 #[.slice Ao5 t2.length co5] (0,0) _ rfl (zpu BK1.out) Tryz.underlying26 rfl (by kernel_rfl)) rfl ?_
 exact ⟨_,za24,by (with_reducible repeat (first|apply Kd.N_alloc|apply Kd.N_drewN|apply Kd.N_drew));exact Kd.N_mono (zfN (Kd.N_mono HO4.out (fun k_ hk=>(⟨hk,hk.2⟩:_∧k_ ≠ gb1)))) (fun _ hk=>hk.1.1),za9⟩
def spec_BoundOf.j0:Nat→Int→Bool→Option (Int)
 | 0,_,_=>none
 | k+1,x8,x9=>if x9=true then (some 5) else (if x8=2 then (some 3) else (some 2))
def spec_BoundOf.f (k:Nat) (l0_0:List (S56)):Option (Int):=(spec_IsValidProblem.f k l0_0).bind fun t11002=>(if t11002=true then ((spec_VarsOfProblem.f k l0_0).bind fun t11003=>(if (t11003.size:Int)=0 then (spec_BoundOf.j0 k (t11003.size:Int) ((t11003.size:Int) == 0)) else (spec_BoundOf.j0 k (t11003.size:Int) ((t11003.size:Int) == 1)))) else (some (-1)))
theorem spec_BoundOf.calls (k:Nat) (A0_0:Option Addr) (c0_0:Nat) (l0_0:List (S56)) (r:Int) (w:World) (hr0_0:Kd.C k56 w A0_0 l0_0.length l0_0) (hc0_0:l0_0.length≤c0_0) (h:spec_BoundOf.f k l0_0=some r) :
  Calls Tryz.prog 11 #[.agg #[.slice A0_0 l0_0.length c0_0]] w fun e w'=>e = .returned (.int .i64 r)∧Below w.heap.size w w':=by
 have hu26:=Tryz.underlying26
 have HR0_0:=zk hr0_0
 have HC0_0:=zk hc0_0
 clear hr0_0 hc0_0
 have HB:=zk (Below.refl w.heap.size w)
 have H:=h
 unfold spec_BoundOf.f at H
 clear h
 obtain ⟨t2,A2,H⟩:=zO H
 try dsimp only at H
 by_cases c3:t2=true
 ·subst c3
  rw [if_pos rfl] at H
  try dsimp only at H
  obtain ⟨t3,A4,H⟩:=zO H
  try dsimp only at H
  have HC5:=zk H
  clear H
  go_enter Tryz.func11,Tryz.ntmps11
  go_upto_if 9 with (first|((with_reducible refine gate_dst (N:=1) rfl ?_);refine zE (cs:=#[.slice A0_0 l0_0.length c0_0]) (t:=26) ?_;intro gb1 hg w6 hbox hb;have BK1:=zk hbox;have GW1:=zk (zs (w:=w) hg za22);have GE1:=GW1;replace HB:=yB HB hb;clear hb hbox hg;obtain ⟨hcz7_0,hfz7_0⟩:=blk1 BK1.out)|((with_reducible refine gate_callee (f:=22) rfl ?_);refine zg (some 4) Tryz.func22 #[.agg #[.slice A0_0 l0_0.length c0_0]] rfl za11 ?_;(with_reducible refine (spec_IsValidProblem.calls k _ _ l0_0 _ _ ?side1 ?side2 A2.out).mono ?_);(case side1=>repeat ((exact (Kd.C_below HR0_0.out HB.out))));(case side2=>exact HC0_0.out);rintro e w8 ⟨rfl,hb⟩;refine ⟨_,rfl,?_⟩;replace BK1:=yb BK1 hb;replace HB:=yB HB hb;(try clear hb);obtain ⟨hcz9_0,hfz9_0⟩:=blk1 BK1.out)|((with_reducible refine gate_callee (f:=26) rfl ?_);refine zg (some 7) Tryz.func26 #[.agg #[.slice A0_0 l0_0.length c0_0]] rfl za11 ?_;(with_reducible refine (spec_VarsOfProblem.calls k _ _ l0_0 t3 _ ?side1 ?side2 A4.out).mono ?_);(case side1=>repeat ((exact (Kd.C_below HR0_0.out HB.out))));(case side2=>exact HC0_0.out);rintro e w10 ⟨rfl,hb⟩;refine ⟨_,rfl,?_⟩;replace BK1:=yb BK1 hb;replace HB:=yB HB hb;(try clear hb)))
  (try simp only [Act.put,zt,zu,zv])
  go_cut [9] (fun v9 wc=>∃ (kq:Nat) (x9_4:Bool),v9 = .bool x9_4∧Aside0 (spec_BoundOf.j0 kq (t3.size:Int) x9_4=some r)∧Aside0 (kq≤k)∧Aside0 (wc.heap[gb1]? = some (.cells #[(.slice A0_0 l0_0.length c0_0)] 26 (0,0)))∧Aside0 (Below w.heap.size w wc))
  case first =>
   have H:=HC5.out
   clear HC5
   by_cases c11:(t3.size:Int)=0
   · rw [if_pos c11] at H
     have c11b0:=zbt c11
     have c11b1:=zqn c11
     clear c11
     ((rw [c11b0]))
     have H':=zk H
     clear H
     go_wp2
     go_meet
     case rel=>exact ⟨_,(((t3.size:Int) == 0)),za33,H',⟨by (omega)⟩,⟨za3 BK1.out⟩,⟨za22⟩⟩
   · rw [if_neg c11] at H
     have c11b0:=zbn c11
     have c11b1:=zqt c11
     ((rw [c11b0]))
     have H':=zk H
     clear H
     go_wp2
     go_meet
     case rel=>exact ⟨_,(((t3.size:Int) == 1)),za33,H',⟨by (omega)⟩,⟨za3 BK1.out⟩,⟨za22⟩⟩
  case rest =>
   clear HC5
   try clear c3
   try clear hcz7_0
   try clear hcz9_0
   try clear hfz7_0
   try clear hfz9_0
   obtain ⟨kq,x9_4,rfl,HA,HJ4,BK1,HB⟩:=hcut
   cases kq with
   | zero=>exact absurd HA.out (by simp [spec_BoundOf.j0])
   | succ kj4 =>
    have H:=HA.out
    clear HA
    simp only [spec_BoundOf.j0] at H
    by_cases c12:x9_4=true
    subst c12
    rw [if_pos rfl] at H
    try dsimp only at H
    rotate_left
    replace c12:=Bool.eq_false_iff.mpr c12
    subst c12
    rw [if_neg zff] at H
    try dsimp only at H
    by_cases c13:(t3.size:Int)=2
    rw [if_pos c13] at H
    have c13b0:=zbt c13
    have c13b1:=zqn c13
    clear c13
    rotate_left
    rw [if_neg c13] at H
    have c13b0:=zbn c13
    have c13b1:=zqt c13
    rotate_left
    all_goals
     obtain rfl:=zi H
     go_wp2
     go_ret
     exact ⟨by (rfl),za22⟩
 ·replace c3:=Bool.eq_false_iff.mpr c3
  subst c3
  rw [if_neg zff] at H
  try dsimp only at H
  obtain rfl:=zi H
  go_enter Tryz.func11,Tryz.ntmps11
  go_wp2_with (first|((with_reducible refine gate_dst (N:=1) rfl ?_);refine zE (cs:=#[.slice A0_0 l0_0.length c0_0]) (t:=26) ?_;intro gb1 hg w14 hbox hb;have BK1:=zk hbox;have GW1:=zk (zs (w:=w) hg za22);have GE1:=GW1;replace HB:=yB HB hb;clear hb hbox hg;obtain ⟨hcz15_0,hfz15_0⟩:=blk1 BK1.out)|((with_reducible refine gate_callee (f:=22) rfl ?_);refine zg (some 4) Tryz.func22 #[.agg #[.slice A0_0 l0_0.length c0_0]] rfl za11 ?_;(with_reducible refine (spec_IsValidProblem.calls k _ _ l0_0 _ _ ?side1 ?side2 A2.out).mono ?_);(case side1=>repeat ((exact (Kd.C_below HR0_0.out HB.out))));(case side2=>exact HC0_0.out);rintro e w16 ⟨rfl,hb⟩;refine ⟨_,rfl,?_⟩;replace BK1:=yb BK1 hb;replace HB:=yB HB hb;(try clear hb)))
  go_ret
  exact ⟨by (rfl),za22⟩
def spec_l11Keeps.l0:Nat→Int→List (S56)→ByteArray→ByteArray→ByteArray→Option (Bool)
 | 0,_,_,_,_,_=>none
 | k+1,x5,x52002000,x52003000,x52003001,x52003002=>if x5 < (x52002000.length:Int) then (if 0≤x5 then ((spec_l9Holds.f k ((rd_T56 x52002000 x5).f0) ((rd_T56 x52002000 x5).f1) ((rd_T56 x52002000 x5).f2) ((rd_T56 x52002000 x5).f3.f0) ((rd_T56 x52002000 x5).f3.f1) ((rd_T56 x52002000 x5).f3.f2) ((rd_T56 x52002000 x5).f4) ((rd_T56 x52002000 x5).f5) x52003000 x52003001 x52003002).bind fun t52004=>(if t52004=true then (spec_l11Keeps.l0 k (wrap64 (x5+1)) x52002000 x52003000 x52003001 x52003002) else (some false))) else (none)) else (some true)
def spec_l11Keeps.f (k:Nat) (l0_0:List (S56)) (a1_0:ByteArray) (a1_1:ByteArray) (a1_2:ByteArray):Option (Bool):=spec_l11Keeps.l0 k 0 l0_0 a1_0 a1_1 a1_2
def spec_l11Keeps.T4:Bool × List (List Nat × List Nat):=(true,[([],[]),([0],[0]),([],[]),([1,2],[1,2]),([3],[3]),([],[]),([4,5],[4,5]),([6],[6])])
def spec_l11Keeps.B4:List Nat:=[0,1,0,7,15,0,63,127]
theorem spec_l11Keeps.tab4:rtab .any (opsOf Tryz.f52 4)=spec_l11Keeps.T4:=by kernel_rfl
theorem spec_l11Keeps.bits4:waitsOk spec_l11Keeps.T4.2 spec_l11Keeps.B4=true:=by kernel_rfl
theorem spec_l11Keeps.calls (k:Nat) (A0_0:Option Addr) (c0_0:Nat) (l0_0:List (S56)) (a1_0:ByteArray) (a1_1:ByteArray) (a1_2:ByteArray) (r:Bool) (w:World) (hr0_0:Kd.C k56 w A0_0 l0_0.length l0_0) (hc0_0:l0_0.length≤c0_0) (h:spec_l11Keeps.f k l0_0 a1_0 a1_1 a1_2=some r) :
   Calls Tryz.prog 52 #[.agg #[.slice A0_0 l0_0.length c0_0],.agg #[.string a1_0,.string a1_1,.string a1_2]] w fun e w'=>e = .returned (.bool r)∧Below w.heap.size w w':=by
 have hu26:=Tryz.underlying26
 have hu32:=Tryz.underlying32
 have hu56:=Tryz.underlying56
 have HR0_0:=zk hr0_0
 have HC0_0:=zk hc0_0
 clear hr0_0 hc0_0
 have HB:=zk (Below.refl w.heap.size w)
 have H:=h
 unfold spec_l11Keeps.f at H
 clear h
 have H':=zk H
 clear H
 go_enter Tryz.func52,Tryz.ntmps52
 go_wp2_with (first|((with_reducible refine gate_dst (N:=2) rfl ?_);refine zE (cs:=#[.slice A0_0 l0_0.length c0_0]) (t:=26) ?_;intro gb1 hg w3 hbox hb;have BK1:=zk hbox;have GW1:=zk (zs (w:=w) hg za22);have GE1:=GW1;replace HB:=yB HB hb;clear hb hbox hg)|((with_reducible refine gate_dst (N:=3) rfl ?_);refine zE (cs:=#[.string a1_0,.string a1_1,.string a1_2]) (t:=32) ?_;intro gb2 hg w4 hbox hb;have BK2:=zk hbox;have GW2:=zk (zs (w:=w) hg za22);have GE2:=GW2;have NB1_2:=yn hg BK1;have NB2_1:=yp hg BK1;replace BK1:=yb BK1 hb;replace HB:=yB HB hb;clear hb hbox hg))
 try simp only [Act.put,zt,zv,zu]
 go_loopg [5] k (fun kq v5 w'=>∃ (x5_1:Int),v5 = .int .i64 x5_1∧Aside0 (spec_l11Keeps.l0 kq x5_1 l0_0 a1_0 a1_1 a1_2=some r)∧Aside0 (kq≤k)∧Aside0 (w'.heap[gb1]? = some (.cells #[(.slice A0_0 l0_0.length c0_0)] 26 (0,0)))∧Aside0 (w'.heap[gb2]? = some (.cells #[.string a1_0,.string a1_1,.string a1_2] 32 (0,0)))∧Aside0 (Below w.heap.size w w'))
 case atStart=>exact ⟨(0),za33,H',⟨Nat.le_refl _⟩,⟨za3 BK1.out⟩,⟨za3 BK2.out⟩,⟨za22⟩⟩
 case round =>
  clear H'
  obtain ⟨x5_1,rfl,HA,HK1,BK1,BK2,HB⟩:=hrel
  cases gk with
  | zero=>exact absurd HA.out (by simp [spec_l11Keeps.l0])
  | succ k1 =>
   have H:=HA.out
   clear HA
   simp only [spec_l11Keeps.l0] at H
   by_cases c5:x5_1 < (l0_0.length:Int)
   rw [if_pos c5] at H
   have c5b0:=zdl c5
   clear c5
   by_cases c6:0≤x5_1
   rw [if_pos c6] at H
   have c6b0:=zdle c6
   clear c6
   obtain ⟨t4,A7,H⟩:=zO H
   try dsimp only at H
   by_cases c8:t4=true
   subst c8
   rw [if_pos rfl] at H
   try dsimp only at H
   have H':=zk H
   clear H
   have fin1_:=zk trivial
   rotate_left
   replace c8:=Bool.eq_false_iff.mpr c8
   subst c8
   rw [if_neg zff] at H
   try dsimp only at H
   obtain rfl:=zi H
   have fin0_:=zk trivial
   rotate_left
   · rw [if_neg c6] at H
     exact absurd H (by simp)
   · rw [if_neg c5] at H
     have c5b0:=zdnl c5
     clear c5
     obtain rfl:=zi H
     have hnb17:=NB1_2.out
     have hnc17:=NB2_1.out
     obtain ⟨hcz18_0,hfz18_0⟩:=blk1 BK1.out
     go_wp2
     go_ret
     exact ⟨by (rfl),za22⟩
   all_goals
    have hnb13:=NB1_2.out
    have hnc13:=NB2_1.out
    obtain ⟨hcz14_0,hfz14_0⟩:=blk1 BK1.out
    try go_wp2
    replace BK1:=zk (blk_drew BK1.out)
    replace BK2:=zk (blk_drew BK2.out)
    replace HB:=zk (below_drew1 HB.out)
    have p52003:0≤(x5_1:Int):=of_decide_eq_true za25
    have q52003:x5_1 < (l0_0.length:Int):=of_decide_eq_true za25
    obtain ⟨ad52003,A52003_5,c52003_5,A52003_6,c52003_6,e52003,hx52003_0,hx52003_1,hx52003_2,hx52003_3,hx52003_4,hx52003_5,hx52003_6,hx52003_7,hl52003_5,hi52003_5,hl52003_6,hi52003_6⟩:=at_T56 HR0_0.out x5_1 p52003 q52003
    have hw52003_7:=hx52003_7
    have hw52003_6:=hx52003_6
    have hw52003_5:=hx52003_5
    have hw52003_4:=hx52003_4
    have hw52003_3:=hx52003_3
    have hw52003_2:=hx52003_2
    have hw52003_1:=hx52003_1
    have hw52003_0:=hx52003_0
    cases e52003
    replace hx52003_0:=zx HB.out hx52003_0
    replace hx52003_1:=zx HB.out hx52003_1
    replace hx52003_2:=zx HB.out hx52003_2
    replace hx52003_3:=zx HB.out hx52003_3
    replace hx52003_4:=zx HB.out hx52003_4
    replace hx52003_5:=zx HB.out hx52003_5
    replace hx52003_6:=zx HB.out hx52003_6
    replace hx52003_7:=zx HB.out hx52003_7
    have HR52003_5:=zk hi52003_5
    have HC52003_5:=zk hl52003_5
    clear hi52003_5 hl52003_5
    have HR52003_6:=zk hi52003_6
    have HC52003_6:=zk hl52003_6
    clear hi52003_6 hl52003_6
    replace p52003:=eq_true p52003
    replace q52003:=eq_true q52003
    refine start_ (n:=8) (S:=fun w'=>w'.cell? ⟨gb1,0,none⟩=some (.slice (some ad52003) l0_0.length c0_0)∧w'.cell? ⟨gb2,0,none⟩=some (.string a1_0)∧w'.cell? ⟨gb2,1,none⟩=some (.string a1_1)∧w'.cell? ⟨gb2,2,none⟩=some (.string a1_2)∧w'.cell? (ad52003.add ((x5_1).toNat * 8))=some (.int .i64 ((rd_T56 l0_0 x5_1).f0))∧w'.cell? ⟨(ad52003.add ((x5_1).toNat * 8)).block,(ad52003.add ((x5_1).toNat * 8)).off+1,none⟩=some (.string ((rd_T56 l0_0 x5_1).f1))∧w'.cell? ⟨(ad52003.add ((x5_1).toNat * 8)).block,(ad52003.add ((x5_1).toNat * 8)).off+2,none⟩=some (.string ((rd_T56 l0_0 x5_1).f2))∧w'.cell? ⟨(ad52003.add ((x5_1).toNat * 8)).block,(ad52003.add ((x5_1).toNat * 8)).off+3,none⟩=some (.int .i64 ((rd_T56 l0_0 x5_1).f3.f0))∧w'.cell? ⟨(ad52003.add ((x5_1).toNat * 8)).block,(ad52003.add ((x5_1).toNat * 8)).off+4,none⟩=some (.string ((rd_T56 l0_0 x5_1).f3.f1))∧w'.cell? ⟨(ad52003.add ((x5_1).toNat * 8)).block,(ad52003.add ((x5_1).toNat * 8)).off+5,none⟩=some (.slice A52003_5 ((rd_T56 l0_0 x5_1).f3.f2).length c52003_5)∧w'.cell? ⟨(ad52003.add ((x5_1).toNat * 8)).block,(ad52003.add ((x5_1).toNat * 8)).off+6,none⟩=some (.slice A52003_6 ((rd_T56 l0_0 x5_1).f4).length c52003_6)∧w'.cell? ⟨(ad52003.add ((x5_1).toNat * 8)).block,(ad52003.add ((x5_1).toNat * 8)).off+7,none⟩=some (.int .i64 ((rd_T56 l0_0 x5_1).f5))) (ds:=[]) #[false,false,false,false,false,false,false,false] (by kernel_rfl) rfl rfl ⟨(blk_cell BK1.out 0).trans rfl,(blk_cell BK2.out 0).trans rfl,(blk_cell BK2.out 1).trans rfl,(blk_cell BK2.out 2).trans rfl,((HB.out.cell (World.block_lt_of_cell? w _ hw52003_0)).trans hw52003_0),((HB.out.cell (World.block_lt_of_cell? w _ hw52003_1)).trans hw52003_1),((HB.out.cell (World.block_lt_of_cell? w _ hw52003_2)).trans hw52003_2),((HB.out.cell (World.block_lt_of_cell? w _ hw52003_3)).trans hw52003_3),((HB.out.cell (World.block_lt_of_cell? w _ hw52003_4)).trans hw52003_4),((HB.out.cell (World.block_lt_of_cell? w _ hw52003_5)).trans hw52003_5),((HB.out.cell (World.block_lt_of_cell? w _ hw52003_6)).trans hw52003_6),((HB.out.cell (World.block_lt_of_cell? w _ hw52003_7)).trans hw52003_7)⟩ (fun hHeld=>?_);refine with_tabW spec_l11Keeps.tab4 spec_l11Keeps.bits4 (fun HT_ HW_=>?_)
    generalize wr.drew=w15 at BK1 BK2 HB HR52003_5 HR52003_6 hx52003_0 hx52003_1 hx52003_2 hx52003_3 hx52003_4 hx52003_5 hx52003_6 hx52003_7 hHeld ⊢
    refine zy 0 (some 13) HT_.out ?_
    refine zy 2 (some 15) HT_.out ?_
    refine ztk 1 (some 14) HT_.out HW_.out hHeld ?_
    refine zy 3 (some 16) HT_.out ?_
    refine ztk 4 (some 17) HT_.out HW_.out hHeld ?_
    refine ztk 5 (some 18) HT_.out HW_.out hHeld ?_
    refine zon 6 (some 19) HT_.out (fun K hK=>?_)
    refine goes_ Tryz.func64 (by kernel_rfl) rfl #[.agg #[.int .i64 ((rd_T56 l0_0 x5_1).f0),.string ((rd_T56 l0_0 x5_1).f1),.string ((rd_T56 l0_0 x5_1).f2),.int .i64 ((rd_T56 l0_0 x5_1).f3.f0),.string ((rd_T56 l0_0 x5_1).f3.f1),.slice A52003_5 ((rd_T56 l0_0 x5_1).f3.f2).length c52003_5,.slice A52003_6 ((rd_T56 l0_0 x5_1).f4).length c52003_6,.int .i64 ((rd_T56 l0_0 x5_1).f5)],.agg #[.string a1_0,.string a1_1,.string a1_2]] (by rfl) rfl rfl za11 ?_
    with_reducible refine (spec_l9Holds.calls k1 ((rd_T56 l0_0 x5_1).f0) ((rd_T56 l0_0 x5_1).f1) ((rd_T56 l0_0 x5_1).f2) ((rd_T56 l0_0 x5_1).f3.f0) ((rd_T56 l0_0 x5_1).f3.f1) _ _ ((rd_T56 l0_0 x5_1).f3.f2) _ _ ((rd_T56 l0_0 x5_1).f4) ((rd_T56 l0_0 x5_1).f5) a1_0 a1_1 a1_2 _ _ ?side1 ?side2 ?side3 ?side4 A7.out).mono ?_
    (case side1=>repeat ((exact (Kd.C_below HR52003_5.out HB.out))))
    (case side2=>exact HC52003_5.out)
    (case side3=>repeat ((exact (Kd.C_below HR52003_6.out HB.out))))
    (case side4=>exact HC52003_6.out)
    rintro e w16 ⟨rfl,hb⟩
    refine ⟨_,rfl,?_⟩
    replace BK1:=yb BK1 hb
    replace BK2:=yb BK2 hb
    replace HB:=yB HB hb
    (try clear hb)
    (try clear hb2)
    (try clear hk)
    (try clear hi)
    refine hK.out _ _ ⟨(blk_cell BK1.out 0).trans rfl,(blk_cell BK2.out 0).trans rfl,(blk_cell BK2.out 1).trans rfl,(blk_cell BK2.out 2).trans rfl,((HB.out.cell (World.block_lt_of_cell? w _ hw52003_0)).trans hw52003_0),((HB.out.cell (World.block_lt_of_cell? w _ hw52003_1)).trans hw52003_1),((HB.out.cell (World.block_lt_of_cell? w _ hw52003_2)).trans hw52003_2),((HB.out.cell (World.block_lt_of_cell? w _ hw52003_3)).trans hw52003_3),((HB.out.cell (World.block_lt_of_cell? w _ hw52003_4)).trans hw52003_4),((HB.out.cell (World.block_lt_of_cell? w _ hw52003_5)).trans hw52003_5),((HB.out.cell (World.block_lt_of_cell? w _ hw52003_6)).trans hw52003_6),((HB.out.cell (World.block_lt_of_cell? w _ hw52003_7)).trans hw52003_7)⟩ (fun hHeld=>?_)
    clear hK K
    refine zno (some 19) ?_
    refine zy 7 (some 20) HT_.out ?_
    refine done_ (done_of HT_.out (by kernel_rfl)) ?_
    try go_wp2
    first
    | (
      clear fin0_
      go_ret
      exact ⟨za24,za9⟩)
    | (
      clear fin1_
      go_roundg k1
      case measure=>have:=HK1.out;omega
      case rel=>exact ⟨(wrap64 (x5_1+1)),za33,H',⟨za43⟩,⟨za3 BK1.out⟩,⟨za3 BK2.out⟩,⟨za22⟩⟩)
mutual
def spec_l11All.l0:Nat→ByteArray→List ByteArray→List (S32)→Int→List (S56)→ByteArray→ByteArray→ByteArray→Option ((List (S32)))
 | 0,_,_,_,_,_,_,_,_=>none
 | k+1,x1,x2,x4,x11,x25002000,x25003000,x25003001,x25003002=>if x11 < (x2.length:Int) then (if 1≤(x1.size:Int) then (if 0 < (x1.size:Int) then (if 0≤x11 then ((spec_WithValue.f x25003000 x25003001 x25003002 (bt x1 0) (rdOf ByteArray.empty x2 x11)).bind fun bt25008=>((spec_l11All.f k x25002000 (x1.extract 1 x1.size) x2 bt25008.1 bt25008.2.1 bt25008.2.2 x4).bind fun t25011=>(spec_l11All.l0 k x1 x2 t25011 (wrap64 (x11+1)) x25002000 x25003000 x25003001 x25003002))) else (none)) else (none)) else (none)) else (some x4)
def spec_l11All.f:Nat→List (S56)→ByteArray→List ByteArray→ByteArray→ByteArray→ByteArray→List (S32)→Option ((List (S32)))
 | 0,_,_,_,_,_,_,_=>none
 | k+1,l0_0,a1,l2,a3_0,a3_1,a3_2,l4=>if a1.toList=([]:List UInt8) then ((spec_l11Keeps.f k l0_0 a3_0 a3_1 a3_2).bind fun t25003=>(if t25003=true then (if l4.length < 2932031007402 then (some (l4 ++ [(⟨a3_0,a3_1,a3_2⟩:S32)])) else (none)) else (some l4))) else (spec_l11All.l0 k a1 l2 l4 0 l0_0 a3_0 a3_1 a3_2)
end
def spec_l11All.T8:Bool × List (List Nat × List Nat):=(true,[([],[]),([],[]),([1],[1]),([],[]),([],[]),([],[]),([5],[5]),([],[]),([],[]),([7,8],[7,8]),([9],[9]),([4,6,10],[4,6,10]),([],[]),([0,2,3,11,12,11],[0,2,3,11,12]),([13,13,0,1,2,3,4,5,6,7,8,9,10,11,12,13],[12,13])])
def spec_l11All.B8:List Nat:=[0,0,2,0,0,0,32,0,0,384,896,2032,0,8191,16383]
theorem spec_l11All.tab8:rtab .any (opsOf Tryz.f25 8)=spec_l11All.T8:=by kernel_rfl
theorem spec_l11All.bits8:waitsOk spec_l11All.T8.2 spec_l11All.B8=true:=by kernel_rfl
theorem spec_l11All.calls (k:Nat):∀ (A0_0:Option Addr) (c0_0:Nat) (l0_0:List (S56)) (a1:ByteArray) (A2:Option Addr) (c2:Nat) (l2:List ByteArray) (a3_0:ByteArray) (a3_1:ByteArray) (a3_2:ByteArray) (P4_:Nat→Prop) (u9000_:Value) (l4:List (S32)) (r:List (S32)) (w0 w:World) (hB:Below w0.heap.size w0 w) (hr0_0:∀ W_,Kept w W_ (fun k_=>P4_ k_)→Kd.C k56 W_ A0_0 l0_0.length l0_0) (hc0_0:l0_0.length≤c0_0) (hr2:∀ W_,Kept w W_ (fun k_=>P4_ k_)→Kd.C Kd.string W_ A2 l2.length l2) (hc2:l2.length≤c2) (ho4:Kd.R k32 32 w w0.heap.size P4_ u9000_ l4) (h:spec_l11All.f k l0_0 a1 l2 a3_0 a3_1 a3_2 l4=some r),
   Calls Tryz.prog 25 #[.agg #[.slice A0_0 l0_0.length c0_0],.string a1,.slice A2 l2.length c2,.agg #[.string a3_0,.string a3_1,.string a3_2],u9000_] w fun e w'=>∃ v0_:Value,e = .returned (v0_)∧Kd.R k32 32 w' w0.heap.size (fun k_=>(P4_ k_∨w.heap.size≤k_)) v0_ r∧Below w0.heap.size w0 w'∧Kept w w' (fun k_=>P4_ k_):=by
 induction k using Nat.strongRecOn with
 | _ k ih =>
 intro A0_0 c0_0 l0_0 a1 A2 c2 l2 a3_0 a3_1 a3_2 P4_ u9000_ l4 r w0 w hB hr0_0 hc0_0 hr2 hc2 ho4 h
 cases k with
 | zero=>exact absurd h (by simp [spec_l11All.f])
 | succ k =>
 simp only [spec_l11All.f] at h
 have hu26:=Tryz.underlying26
 have hu32:=Tryz.underlying32
 have HR0_0:=zk hr0_0
 have HC0_0:=zk hc0_0
 clear hr0_0 hc0_0
 have HR2:=zk hr2
 have HC2:=zk hc2
 clear hr2 hc2
 have HO4:=zk (show Kd.R k32 32 w w0.heap.size (fun k_=>(P4_ k_∨w.heap.size≤k_)) u9000_ l4 from Kd.R_mono ho4 (fun k_ hk=>(.inl hk)))
 have HK:=zk (Kept.refl w (fun k_=>P4_ k_))
 have HW0:=zk hB.size
 have HB:=zk hB
 clear hB
 have H:=h
 clear h
 by_cases c6:a1.toList=([]:List UInt8)
 rw [if_pos c6] at H
 have c6b0:=zbt c6
 have c6b1:=zqn c6
 clear c6
 obtain ⟨t3,A7,H⟩:=zO H
 try dsimp only at H
 by_cases c8:t3=true
 subst c8
 rw [if_pos rfl] at H
 try dsimp only at H
 by_cases c9:l4.length < 2932031007402
 rw [if_pos c9] at H
 have LMc9:=zk c9
 clear c9
 obtain ⟨y25004,hy25004⟩:∃ y_:List (S32),y_=(l4 ++ [(⟨a3_0,a3_1,a3_2⟩:S32)]):=⟨_,rfl⟩
 replace H:(some y25004)=some r:=by ((rw [hy25004];with_reducible exact H))
 have Ny4:=zk hy25004
 clear hy25004
 have fin0_:=zk trivial
 rotate_left
 · rw [if_neg c9] at H
   exact absurd H (by simp)
 replace c8:=Bool.eq_false_iff.mpr c8
 subst c8
 rw [if_neg zff] at H
 try dsimp only at H
 have fin1_:=zk trivial
 rotate_left
 · rw [if_neg c6] at H
   have c6b0:=zbn c6
   have c6b1:=zqt c6
   have H':=zk H
   clear H
   go_enter Tryz.func25,Tryz.ntmps25
   go_wp2_with (first|((with_reducible refine gate_dst (N:=5) rfl ?_);refine zE (cs:=#[.slice A0_0 l0_0.length c0_0]) (t:=26) ?_;intro gb1 hg w24 hbox hb;replace HO4:=zk (Kd.R_below (za1 HO4.out) hb);have BK1:=zk hbox;have GW1:=zk ((by rw [hg];exact (by (exact HK.out.1)):w.heap.size≤gb1));have GE1:=zk (zs (w:=w0) hg za22);replace HK:=zk (Kept.below (S:=(fun k_=>P4_ k_)) za16 hb);replace HB:=yB HB hb;clear hb hbox hg)|((with_reducible refine gate_dst (N:=8) rfl ?_);refine zE (cs:=#[.string a3_0,.string a3_1,.string a3_2]) (t:=32) ?_;intro gb2 hg w25 hbox hb;replace HO4:=zk (Kd.R_below (Kd.R_elderB (za1 HO4.out) gb2 (Nat.le_of_eq hg.symm)) hb);have BK2:=zk hbox;have GW2:=zk ((by rw [hg];exact (by (exact HK.out.1)):w.heap.size≤gb2));have GE2:=zk (zs (w:=w0) hg za22);have NB1_2:=yn hg BK1;have NB2_1:=yp hg BK1;replace BK1:=yb BK1 hb;replace HK:=zk (Kept.below (S:=(fun k_=>P4_ k_)) za16 hb);replace HB:=yB HB hb;clear hb hbox hg))
   try simp only [Act.put,zt,zv,zu]
   go_loopg [4,11] k (fun kq v4 v11 w'=>∃ (x4_1:List (S32)) (x11_1:Int),v11 = .int .i64 x11_1∧Aside0 (spec_l11All.l0 kq a1 l2 x4_1 x11_1 l0_0 a3_0 a3_1 a3_2=some r)∧Aside0 (kq≤k)∧Aside0 (Kd.R k32 32 w' w0.heap.size (fun k_=>(P4_ k_∨w.heap.size≤k_)∧k_ ≠ gb2) v4 x4_1)∧Aside0 (w'.heap[gb1]? = some (.cells #[(.slice A0_0 l0_0.length c0_0)] 26 (0,0)))∧Aside0 (w'.heap[gb2]? = some (.cells #[.string a3_0,.string a3_1,.string a3_2] 32 (0,0)))∧Aside0 (Kept w w' (fun k_=>P4_ k_))∧Aside0 (Below w0.heap.size w0 w'))
   case atStart=>exact ⟨(l4),(0),za33,H',⟨Nat.le_refl _⟩,⟨za1 HO4.out⟩,⟨za3 BK1.out⟩,⟨za3 BK2.out⟩,⟨za16⟩,⟨za22⟩⟩
   case round =>
    clear H'
    try clear c6
    try clear c6b0
    try clear c6b1
    obtain ⟨x4_1,x11_1,rfl,HA,HK1,HO_4,BK1,BK2,HK,HB⟩:=hrel
    cases gk with
    | zero=>exact absurd HA.out (by simp [spec_l11All.l0])
    | succ k1 =>
     have H:=HA.out
     clear HA
     simp only [spec_l11All.l0] at H
     by_cases c26:x11_1 < (l2.length:Int)
     rw [if_pos c26] at H
     have c26b0:=zdl c26
     clear c26
     by_cases c27:1≤(a1.size:Int)
     rw [if_pos c27] at H
     have c27b0:=eq_true c27
     have c27b1:=zdle c27
     clear c27
     by_cases c28:0 < (a1.size:Int)
     rw [if_pos c28] at H
     have c28b0:=zdl c28
     have c28b1:decide (0 < a1.size)=true:=decide_eq_true (by omega)
     clear c28
     by_cases c30:0≤x11_1
     ·rw [if_pos c30] at H
      have c30b0:=zdle c30
      clear c30
      obtain ⟨⟨t8,t9,t10⟩,A31,H⟩:=zO H
      try dsimp only at H
      obtain ⟨t11,A32,H⟩:=zO H
      try dsimp only at H
      have H':=zk H
      clear H
      try go_wp2
      replace HO_4:=zk (Kd.R_drew HO_4.out)
      replace BK1:=zk (blk_drew BK1.out)
      replace BK2:=zk (blk_drew BK2.out)
      replace HK:=zk (Kept.drew HK.out)
      replace HB:=zk (below_drew1 HB.out)
      have p29:0≤(0:Int):=(by omega)
      have q29:0 < a1.size:=(by have:(0:Int) < (a1.size:Int):=of_decide_eq_true za25;omega)
      have hx29:∀ h:0 < a1.size,((a1[0]'h).toNat:Int)=bt a1 0:=bt_at a1 0
      clear p29
      have qi29:(0 < (a1.size:Int))=True:=eq_true (of_decide_eq_true za25)
      replace q29:=eq_true q29
      have p25007:0≤(x11_1:Int):=of_decide_eq_true za25
      have q25007:x11_1 < (l2.length:Int):=of_decide_eq_true za25
      obtain ⟨ad25007,e25007,hx25007_0⟩:=Kd.at_string (Kd.C_kept_now HR2.out HK.out) x11_1 p25007 q25007
      have hw25007_0:=hx25007_0
      cases e25007
      replace p25007:=eq_true p25007
      replace q25007:=eq_true q25007
      refine start_ (n:=15) (S:=fun w'=>w'.cell? ⟨gb1,0,none⟩=some (.slice A0_0 l0_0.length c0_0)∧w'.cell? ⟨gb2,0,none⟩=some (.string a3_0)∧w'.cell? ⟨gb2,1,none⟩=some (.string a3_1)∧w'.cell? ⟨gb2,2,none⟩=some (.string a3_2)∧w'.cell? (ad25007.add (x11_1).toNat)=some (.string (rdOf ByteArray.empty l2 x11_1))) (ds:=[]) #[false,false,false,false,false,false,false,false,false,false,false,false,false,false,false] (by kernel_rfl) rfl rfl ⟨(blk_cell BK1.out 0).trans rfl,(blk_cell BK2.out 0).trans rfl,(blk_cell BK2.out 1).trans rfl,(blk_cell BK2.out 2).trans rfl,(Kd.foot_string (HR2.out _ (by repeat ((exact HK.out)))) x11_1 (of_eq_true p25007) (of_eq_true q25007))⟩ (fun hHeld=>?_);refine with_tabW spec_l11All.tab8 spec_l11All.bits8 (fun HT_ HW_=>?_)
      generalize wr.drew=w33 at HO_4 BK1 BK2 HK HB hx25007_0 hHeld ⊢
      refine zy 1 (some 29) HT_.out ?_
      refine zy 2 (some 30) HT_.out ?_
      refine zy 3 (some 31) HT_.out ?_
      refine zy 5 (some 33) HT_.out ?_
      refine zy 7 (some 35) HT_.out ?_
      refine zy 8 (some 36) HT_.out ?_
      refine zy 9 (some 37) HT_.out ?_
      refine zy 12 (some 40) HT_.out ?_
      refine ztk 0 (some 28) HT_.out HW_.out hHeld ?_
      refine ztk 4 (some 32) HT_.out HW_.out hHeld ?_
      refine ztk 6 (some 34) HT_.out HW_.out hHeld ?_
      refine ztk 10 (some 38) HT_.out HW_.out hHeld ?_
      refine zon 11 (some 39) HT_.out (fun K hK=>?_)
      refine goes_ Tryz.func36 (by kernel_rfl) rfl #[.agg #[.string a3_0,.string a3_1,.string a3_2],.int .u8 (bt a1 0),.string (rdOf ByteArray.empty l2 x11_1)] (by rfl) rfl rfl za11 ?_
      with_reducible refine (spec_WithValue.calls a3_0 a3_1 a3_2 (bt a1 0) (rdOf ByteArray.empty l2 x11_1) t8 t9 t10 _ A31.out).mono ?_
      rintro e w34 ⟨rfl,hb⟩
      refine ⟨_,rfl,?_⟩
      replace HO_4:=zk (Kd.R_below (za1 HO_4.out) hb)
      replace BK1:=yb BK1 hb
      replace BK2:=yb BK2 hb
      replace HK:=zk (Kept.below (S:=(fun k_=>P4_ k_)) za16 hb)
      replace HB:=yB HB hb
      (try clear hb)
      (try clear hb2)
      (try clear hk)
      (try clear hi)
      obtain ⟨Ao35,co35,eo35⟩:=Kd.R_slice HO_4.out
      ((subst eo35))
      refine hK.out _ _ ⟨(blk_cell BK1.out 0).trans rfl,(blk_cell BK2.out 0).trans rfl,(blk_cell BK2.out 1).trans rfl,(blk_cell BK2.out 2).trans rfl,(Kd.foot_string (HR2.out _ (by repeat ((exact HK.out)))) x11_1 (of_eq_true p25007) (of_eq_true q25007))⟩ (fun hHeld=>?_)
      clear hK K
      refine zno (some 39) ?_
      refine zon 13 (some 41) HT_.out (fun K hK=>?_)
      refine goes_ Tryz.func25 (by kernel_rfl) rfl #[.agg #[.slice A0_0 l0_0.length c0_0],.string (a1.extract 1 a1.size),.slice (some ad25007) l2.length c2,.agg #[.string t8,.string t9,.string t10],.slice Ao35 x4_1.length co35] (by rfl) rfl rfl za11 ?_
      with_reducible refine (ih k1 za43 _ _ l0_0 (a1.extract 1 a1.size) _ _ l2 t8 t9 t10 (fun k_=>some k_=(.slice Ao35 x4_1.length co35:Value).ownBlock) (.slice Ao35 x4_1.length co35) x4_1 t11 w0 _ za22 ?side2 ?side3 ?side4 ?side5 ?side6 A32.out).mono ?_
      (case side2=>exact Kd.C_kept_call HR0_0.out za16 (fun k_ hs_=>(fun e_=>(HO_4.out.1 k_ e_.symm).1) hs_))
      (case side3=>exact HC0_0.out)
      (case side4=>exact Kd.C_kept_call HR2.out za16 (fun k_ hs_=>(fun e_=>(HO_4.out.1 k_ e_.symm).1) hs_))
      (case side5=>exact HC2.out)
      (case side6=>exact Kd.R_tight rfl HO_4.out)
      rintro e w36 ⟨v12,rfl,ho0,hb,hkp⟩
      refine ⟨_,rfl,?_⟩
      replace BK1:=zk (blk_kept (za3 BK1.out) hkp (fun hs_=>(fun e_=>(Kd.R_ne HO_4.out BK1.out (by decide)) e_) hs_))
      have HO13:=zk (Kd.R_mono (ok':=fun k_=>(P4_ k_∨w.heap.size≤k_)∧k_ ≠ gb2) ho0 (fun k_ hk_=>⟨Or.elim hk_ (fun hs_=>(HO_4.out.1 k_ (hs_).symm).1) (fun hn_=>(.inr (Nat.le_trans (by (exact HK.out.1)) hn_))),Or.elim hk_ (fun hs_=>fun e_=>(Kd.R_away HO_4.out (fun _ hk=>hk.2)) (by rw [← e_];exact hs_)) (fun hn_=>(Kd.freshB (g:=gb2) (o:=.cells #[.string a3_0,.string a3_1,.string a3_2] 32 (0,0)) (za3 BK2.out) k_ hn_))⟩))
      replace HB:=zk hb
      replace BK2:=zk (blk_kept (za3 BK2.out) hkp (fun hs_=>(fun e_=>(Kd.R_away HO_4.out (fun _ hk=>hk.2)) e_) hs_))
      replace HK:=zk (Kept.then_ (S:=(fun k_=>P4_ k_)) za16 hkp (fun k_ hs_=>(fun e_=>(HO_4.out.1 k_ e_.symm).1) hs_))
      clear HO_4
      (try clear hb)
      (try clear hkp)
      (try clear ho0)
      refine hK.out _ _ ⟨(blk_cell BK1.out 0).trans rfl,(blk_cell BK2.out 0).trans rfl,(blk_cell BK2.out 1).trans rfl,(blk_cell BK2.out 2).trans rfl,(Kd.foot_string (HR2.out _ (by repeat ((exact HK.out)))) x11_1 (of_eq_true p25007) (of_eq_true q25007))⟩ (fun hHeld=>?_)
      clear hK K
      refine zno (some 41) ?_
      refine zy 14 (some 4) HT_.out ?_
      refine done_ (done_of HT_.out (by kernel_rfl)) ?_
      try go_wp2
      go_roundg k1
      case measure=>have:=HK1.out;omega
      case rel=>exact ⟨(t11),(wrap64 (x11_1+1)),za33,H',⟨za43⟩,⟨za1 HO13.out⟩,⟨za3 BK1.out⟩,⟨za3 BK2.out⟩,⟨za16⟩,⟨za22⟩⟩
     ·rw [if_neg c30] at H
      exact absurd H (by simp)
     ·rw [if_neg c28] at H
      exact absurd H (by simp)
     ·rw [if_neg c27] at H
      exact absurd H (by simp)
     ·rw [if_neg c26] at H
      have c26b0:=zdnl c26
      clear c26
      obtain rfl:=zi H
      go_wp2
      go_ret
      exact ⟨_,by (rfl),by (with_reducible repeat ((apply Kd.R_alloc)));exact Kd.R_mono HO_4.out (fun _ hk=>hk.1),za22,za16⟩
 all_goals
  obtain rfl:=zi H
  go_enter Tryz.func25,Tryz.ntmps25
  go_wp2_with (first|((with_reducible refine gate_dst (N:=5) rfl ?_);refine zE (cs:=#[.slice A0_0 l0_0.length c0_0]) (t:=26) ?_;intro gb1 hg w10 hbox hb;replace HO4:=zk (Kd.R_below (za1 HO4.out) hb);have BK1:=zk hbox;have GW1:=zk ((by rw [hg];exact (by (exact HK.out.1)):w.heap.size≤gb1));have GE1:=zk (zs (w:=w0) hg za22);replace HK:=zk (Kept.below (S:=(fun k_=>P4_ k_)) za16 hb);replace HB:=yB HB hb;clear hb hbox hg)|((with_reducible refine gate_dst (N:=8) rfl ?_);refine zE (cs:=#[.string a3_0,.string a3_1,.string a3_2]) (t:=32) ?_;intro gb2 hg w11 hbox hb;replace HO4:=zk (Kd.R_below (Kd.R_elderB (za1 HO4.out) gb2 (Nat.le_of_eq hg.symm)) hb);have BK2:=zk hbox;have GW2:=zk ((by rw [hg];exact (by (exact HK.out.1)):w.heap.size≤gb2));have GE2:=zk (zs (w:=w0) hg za22);have NB1_2:=yn hg BK1;have NB2_1:=yp hg BK1;replace BK1:=yb BK1 hb;replace HK:=zk (Kept.below (S:=(fun k_=>P4_ k_)) za16 hb);replace HB:=yB HB hb;clear hb hbox hg;have hnb12:=NB1_2.out;have hnc12:=NB2_1.out;obtain ⟨hcz13_0,hfz13_0⟩:=blk1 BK1.out;obtain ⟨hcz14_0,hcz14_1,hcz14_2,hfz14_0,hfz14_1,hfz14_2⟩:=blk3 BK2.out)|((with_reducible refine gate_callee (f:=52) rfl ?_);refine zg (some 16) Tryz.func52 #[.agg #[.slice A0_0 l0_0.length c0_0],.agg #[.string a3_0,.string a3_1,.string a3_2]] rfl za11 ?_;(with_reducible refine (spec_l11Keeps.calls k _ _ l0_0 a3_0 a3_1 a3_2 _ _ ?side1 ?side2 A7.out).mono ?_);(case side1=>exact Kd.C_kept_now HR0_0.out za16);(case side2=>exact HC0_0.out);rintro e w15 ⟨rfl,hb⟩;refine ⟨_,rfl,?_⟩;replace HO4:=zk (Kd.R_below (za1 HO4.out) hb);replace BK1:=yb BK1 hb;replace BK2:=yb BK2 hb;replace HK:=zk (Kept.below (S:=(fun k_=>P4_ k_)) za16 hb);replace HB:=yB HB hb;(try clear hb);obtain ⟨hcz16_0,hcz16_1,hcz16_2,hfz16_0,hfz16_1,hfz16_2⟩:=blk3 BK2.out)|((with_reducible refine gate_builtin (b:=.append) (xs:=#[.tmp 17,.tmp 19]) rfl ?_);at_builtin;refine Kd.R_append k32 (w0:=w0) w0.heap.size rfl (.tmp 17) (.tmp 19) 29 32 (.agg #[(.string ⟨#[]⟩),(.string ⟨#[]⟩),(.string ⟨#[]⟩)]) 48 rfl Tryz.underlying29 info32 rfl (by decide) (by omega) u9000_ l4 (⟨a3_0,a3_1,a3_2⟩:S32) [.string a3_0,.string a3_1,.string a3_2] (fun k_=>(P4_ k_∨w.heap.size≤k_)∧k_ ≠ gb2) (fun _=>False) rfl rfl ?aP (fun _ hk=>hk.elim) ?aF ?aO ?aB ?aS ?aL ?_;(case aP=>exact k32_mkM _ _ _ (⟨a3_0,a3_1,a3_2⟩:S32));(case aB=>exact za22);(case aF=>exact (fun k_ hk=>⟨(.inr (Nat.le_trans (by (exact HK.out.1)) hk)),zF BK2.out k_ hk⟩));(case aO=>exact (za1 HO4.out));(case aS=>exact (below_size za22));(case aL=>have:=LMc9.out;omega);intro v5 w17 ho hb hg hat;rw [← Ny4.out] at ho;replace BK1:=zk (blk_grown (g:=gb1) (o:=.cells #[.slice A0_0 l0_0.length c0_0] 26 (0,0)) (za3 BK1.out) hg (Kd.R_ne HO4.out BK1.out (by decide)));replace BK2:=zk (blk_grown (g:=gb2) (o:=.cells #[.string a3_0,.string a3_1,.string a3_2] 32 (0,0)) (za3 BK2.out) hg (Kd.R_away HO4.out (fun _ hk=>hk.2)));replace HB:=zk hb;replace HK:=zk (Kept.of_grown (S:=(fun k_=>P4_ k_)) hg za16 (fun k_ e_=>(HO4.out.1 k_ e_).1));have HO6:=zk ho;clear HO4;clear ho hb hg hat))
  first
  | (
     clear fin0_
     go_ret
     exact ⟨_,za24,by (with_reducible repeat (first|apply Kd.R_alloc|apply Kd.R_drewN|apply Kd.R_drew));exact Kd.R_mono HO6.out (fun _ hk=>hk.1),za9,by repeat (first|(with_reducible first|exact HK.out|apply Kept.alloc|apply Kept.drewN|apply Kept.drew|refine Kept.setCell ?_ (.inr GW1.out) _|refine Kept.setCell ?_ (.inr GW2.out) _)|exact HK.out)⟩)
  | (
     clear fin1_
     go_ret
     exact ⟨_,by (rfl),by (with_reducible repeat ((apply Kd.R_alloc)));exact Kd.R_mono HO4.out (fun _ hk=>hk.1),za22,za16⟩)
def spec_ModelsUpTo.f (k:Nat) (l0_0:List (S56)) (a1:Int):Option ((List (S32))):=(spec_IsValidProblem.f k l0_0).bind fun t7002=>(if t7002=true then ((spec_BoundOf.f k l0_0).bind fun t7006=>((spec_l1Min.f a1 t7006).bind fun t7007=>((spec_WordsUpTo.f k t7007).bind fun t7008=>(if (t7008.length:Int)=0 then (some (([]:List (S32)))) else ((spec_VarsOfProblem.f k l0_0).bind fun t7014=>((spec_l11All.f k l0_0 t7014 t7008 (⟨#[]⟩:ByteArray) (⟨#[]⟩:ByteArray) (⟨#[]⟩:ByteArray) (([]:List (S32)))).bind fun t7018=>(some t7018))))))) else (some (([]:List (S32)))))
def spec_ModelsUpTo.T6:Bool × List (List Nat × List Nat):=(true,[([],[]),([],[]),([1],[1]),([],[]),([],[]),([],[]),([0,2,3,4,5,2],[0,2,3,4,5]),([6,6,0,1,2,3,4,5,6],[6])])
def spec_ModelsUpTo.B6:List Nat:=[0,0,2,0,0,0,63,127]
theorem spec_ModelsUpTo.tab6:rtab .any (opsOf Tryz.f7 6)=spec_ModelsUpTo.T6:=by kernel_rfl
theorem spec_ModelsUpTo.bits6:waitsOk spec_ModelsUpTo.T6.2 spec_ModelsUpTo.B6=true:=by kernel_rfl
theorem spec_ModelsUpTo.calls (k:Nat) (A0_0:Option Addr) (c0_0:Nat) (l0_0:List (S56)) (a1:Int) (r:List (S32)) (w:World) (hr0_0:Kd.C k56 w A0_0 l0_0.length l0_0) (hc0_0:l0_0.length≤c0_0) (h:spec_ModelsUpTo.f k l0_0 a1=some r) :
  Calls Tryz.prog 7 #[.agg #[.slice A0_0 l0_0.length c0_0],.int .i64 a1] w fun e w'=>∃ v0_:Value,e = .returned (v0_)∧Kd.R k32 32 w' w.heap.size (fun _=>True) v0_ r∧Below w.heap.size w w':=by
 have hu26:=Tryz.underlying26
 have hu32:=Tryz.underlying32
 have HR0_0:=zk hr0_0
 have HC0_0:=zk hc0_0
 clear hr0_0 hc0_0
 have HB:=zk (Below.refl w.heap.size w)
 have H:=h
 unfold spec_ModelsUpTo.f at H
 clear h
 go_enter Tryz.func7,Tryz.ntmps7
 go_upto_region 1 with ((((with_reducible refine gate_dst (N:=2) rfl ?_);refine zE (cs:=#[.slice A0_0 l0_0.length c0_0]) (t:=26) ?_;intro gb1 hg w9 hbox hb;have BK1:=zk hbox;have GW1:=zk (zs (w:=w) hg za22);have GE1:=GW1;replace HB:=yB HB hb;clear hb hbox hg;have hcz10_0:w9.cell? ⟨gb1,0,none⟩=some (.slice A0_0 l0_0.length c0_0):=(blk_cell BK1.out 0).trans rfl;have hfz10_0:=blk_frozen BK1.out 0)))
 obtain ⟨t2,A3,H⟩:=zO H
 try dsimp only at H
 by_cases c4:t2=true
 ·subst c4
  rw [if_pos rfl] at H
  try dsimp only at H
  obtain ⟨t6,A5,H⟩:=zO H
  try dsimp only at H
  obtain ⟨t7,A6,H⟩:=zO H
  try dsimp only at H
  obtain ⟨t8,A7,H⟩:=zO H
  try dsimp only at H
  by_cases c8:(t8.length:Int)=0
  ·rw [if_pos c8] at H
   have c8b0:=zbt c8
   have c8b1:=zqn c8
   clear c8
   obtain ⟨y7011,hy7011⟩:∃ y_:List (S32),y_=(([]:List (S32))):=⟨_,rfl⟩
   replace H:(some y7011)=some r:=by ((rw [hy7011];with_reducible exact H))
   have Ny11:=zk hy7011
   clear hy7011
   obtain rfl:=zi H
   go_wp2_with (first|((with_reducible refine gate_callee (f:=22) rfl ?_);refine zg (some 7) Tryz.func22 #[.agg #[.slice A0_0 l0_0.length c0_0]] rfl za11 ?_;(with_reducible refine (spec_IsValidProblem.calls k _ _ l0_0 true _ ?side1 ?side2 A3.out).mono ?_);(case side1=>repeat ((exact (Kd.C_below HR0_0.out HB.out))));(case side2=>exact HC0_0.out);rintro e w11 ⟨rfl,hb⟩;refine ⟨_,rfl,?_⟩;replace BK1:=yb BK1 hb;replace HB:=yB HB hb;(try clear hb);have hcz12_0:w11.cell? ⟨gb1,0,none⟩=some (.slice A0_0 l0_0.length c0_0):=(blk_cell BK1.out 0).trans rfl;have hfz12_0:=blk_frozen BK1.out 0)|((with_reducible refine gate_callee (f:=11) rfl ?_);refine zg (some 12) Tryz.func11 #[.agg #[.slice A0_0 l0_0.length c0_0]] rfl za11 ?_;(with_reducible refine (spec_BoundOf.calls k _ _ l0_0 t6 _ ?side1 ?side2 A5.out).mono ?_);(case side1=>repeat ((exact (Kd.C_below HR0_0.out HB.out))));(case side2=>exact HC0_0.out);rintro e w13 ⟨rfl,hb⟩;refine ⟨_,rfl,?_⟩;replace BK1:=yb BK1 hb;replace HB:=yB HB hb;(try clear hb))|((with_reducible refine gate_callee (f:=24) rfl ?_);refine zg (some 13) Tryz.func24 #[.int .i64 a1,.int .i64 t6] rfl za11 ?_;(with_reducible refine (spec_l1Min.calls a1 t6 t7 _ A6.out).mono ?_);rintro e w' ⟨rfl,⟨nd,rfl⟩⟩;refine ⟨_,rfl,?_⟩)|((with_reducible refine gate_callee (f:=23) rfl ?_);refine zg (some 14) Tryz.func23 #[.int .i64 t7] rfl za11 ?_;(with_reducible refine (spec_WordsUpTo.calls k t7 t8 _ A7.out).mono ?_);rintro e w14 ⟨v9,rfl,ho0,hb⟩;refine ⟨_,rfl,?_⟩;have HO10:=zk (Kd.R_lower ho0 (below_size za8));replace BK1:=yb BK1 hb;replace HB:=yB HB hb;(try clear hb ho0);obtain ⟨Ao15,co15,eo15⟩:=Kd.R_slice HO10.out;subst eo15)|((with_reducible refine gate_dst (N:=18) rfl ?_);refine Kd.R_lit k32 _ 32 ?hg (N:=18) ?hd (xs:=([]:List (S32))) (inner:=[]) (ok:=fun _=>True) (okp:=fun _=>True) ?hr ?hp (fun _ hk=>hk) trivial (Below.refl _ _) (Nat.le_refl _) (by simp) ?_;(case hd=>rfl);(case hg=>rfl);(case hr=>((go_simp;done)));(case hp=>exact (Reps.none _ _));intro v12 w16 ho17 hb hg_ hnew_;clear hg_ hnew_;((rw [← Ny11.out] at ho17));replace HO10:=zk (Kd.R_below (za1 HO10.out) hb);have HO13:=zk (Kd.R_lower ho17 (below_size za8));replace BK1:=yb BK1 hb;replace HB:=yB HB hb;clear hb ho17))
   go_ret
   exact ⟨_,by (rfl),za1 HO13.out,za8⟩
  ·rw [if_neg c8] at H
   have c8b0:=zbn c8
   have c8b1:=zqt c8
   have c8b2:¬ (t8 = []):=fun h_=>c8 (by rw [h_];rfl)
   obtain ⟨t14,A18,H⟩:=zO H
   try dsimp only at H
   obtain ⟨y7015,hy7015⟩:∃ y_:List (S32),y_=(([]:List (S32))):=⟨_,rfl⟩
   replace H:((spec_l11All.f k l0_0 t14 t8 (⟨#[]⟩:ByteArray) (⟨#[]⟩:ByteArray) (⟨#[]⟩:ByteArray) y7015).bind fun t18=>(some t18))=some r:=by ((rw [hy7015];with_reducible exact H))
   have Ny15:=zk hy7015
   clear hy7015
   obtain ⟨t18,A19,H⟩:=zO H
   try dsimp only at H
   obtain rfl:=zi H
   go_wp2_with (first|((with_reducible refine gate_callee (f:=22) rfl ?_);refine zg (some 7) Tryz.func22 #[.agg #[.slice A0_0 l0_0.length c0_0]] rfl za11 ?_;(with_reducible refine (spec_IsValidProblem.calls k _ _ l0_0 true _ ?side1 ?side2 A3.out).mono ?_);(case side1=>repeat ((exact (Kd.C_below HR0_0.out HB.out))));(case side2=>exact HC0_0.out);rintro e w22 ⟨rfl,hb⟩;refine ⟨_,rfl,?_⟩;replace BK1:=yb BK1 hb;replace HB:=yB HB hb;(try clear hb);have hcz23_0:w22.cell? ⟨gb1,0,none⟩=some (.slice A0_0 l0_0.length c0_0):=(blk_cell BK1.out 0).trans rfl;have hfz23_0:=blk_frozen BK1.out 0)|((with_reducible refine gate_callee (f:=11) rfl ?_);refine zg (some 12) Tryz.func11 #[.agg #[.slice A0_0 l0_0.length c0_0]] rfl za11 ?_;(with_reducible refine (spec_BoundOf.calls k _ _ l0_0 t6 _ ?side1 ?side2 A5.out).mono ?_);(case side1=>repeat ((exact (Kd.C_below HR0_0.out HB.out))));(case side2=>exact HC0_0.out);rintro e w24 ⟨rfl,hb⟩;refine ⟨_,rfl,?_⟩;replace BK1:=yb BK1 hb;replace HB:=yB HB hb;(try clear hb))|((with_reducible refine gate_callee (f:=24) rfl ?_);refine zg (some 13) Tryz.func24 #[.int .i64 a1,.int .i64 t6] rfl za11 ?_;(with_reducible refine (spec_l1Min.calls a1 t6 t7 _ A6.out).mono ?_);rintro e w' ⟨rfl,⟨nd,rfl⟩⟩;refine ⟨_,rfl,?_⟩)|((with_reducible refine gate_callee (f:=23) rfl ?_);refine zg (some 14) Tryz.func23 #[.int .i64 t7] rfl za11 ?_;(with_reducible refine (spec_WordsUpTo.calls k t7 t8 _ A7.out).mono ?_);rintro e w25 ⟨v9,rfl,ho0,hb⟩;refine ⟨_,rfl,?_⟩;have HO10:=zk (Kd.R_lower ho0 (below_size za8));replace BK1:=yb BK1 hb;replace HB:=yB HB hb;(try clear hb ho0);obtain ⟨Ao26,co26,eo26⟩:=Kd.R_slice HO10.out;subst eo26))
   replace HO10:=zk (Kd.R_drew HO10.out)
   replace BK1:=zk (blk_drew BK1.out)
   replace HB:=zk (below_drew1 HB.out)
   refine start_ (n:=8) (S:=fun w'=>w'.cell? ⟨gb1,0,none⟩=some (.slice A0_0 l0_0.length c0_0)) (ds:=[]) #[false,false,false,false,false,false,false,false] (by kernel_rfl) rfl rfl ((blk_cell BK1.out 0).trans rfl) (fun hHeld=>?_);refine with_tabW spec_ModelsUpTo.tab6 spec_ModelsUpTo.bits6 (fun HT_ HW_=>?_)
   generalize w25.drew=w27 at HO10 BK1 HB hHeld ⊢
   refine zy 3 (some 22) HT_.out ?_
   refine zy 4 (some 23) HT_.out ?_
   refine ztk 0 (some 19) HT_.out HW_.out hHeld ?_
   refine ztk 1 (some 20) HT_.out HW_.out hHeld ?_
   refine join_ (σ:=Value) 2 #[true,true,true,true,true,true,false,false] (fun s_ => [(21,.string t14),(24,s_)]) (fun s_ w'=>(w'.cell? ⟨gb1,0,none⟩=some (.slice A0_0 l0_0.length c0_0))∧(Kd.R Kd.string 9 w' w.heap.size (fun _=>True) (.slice Ao26 t8.length co26) t8)∧(Kd.R k32 32 w' w.heap.size (fun _=>True) s_ y7015)∧(w'.heap[gb1]? = some (.cells #[.slice A0_0 l0_0.length c0_0] 26 (0,0)))∧(Below w.heap.size w w')) ?_ ?_
   rotate_left
   ·intro hCont
    refine two_ (i:=2) (j:=5) (Ni:=some 21) (Nj:=some 24) #[true,true,true,true,true,false,false,false] #[true,true,false,true,true,true,false,false] rfl rfl rfl rfl (two_of HT_.out (by kernel_rfl)) (by decide) (by decide) (fun K hK=>?_) (fun K hK=>?_)
    ·skip
     refine goes_ Tryz.func26 (by kernel_rfl) rfl #[.agg #[.slice A0_0 l0_0.length c0_0]] (by rfl) rfl rfl za11 ?_
     with_reducible refine (spec_VarsOfProblem.calls k _ _ l0_0 t14 _ ?side1 ?side2 A18.out).mono ?_
     (case side1=>repeat ((exact (Kd.C_below HR0_0.out HB.out))))
     (case side2=>exact HC0_0.out)
     rintro e w28 ⟨rfl,hb⟩
     refine ⟨_,rfl,?_⟩
     replace HO10:=zk (Kd.R_below (za1 HO10.out) hb)
     replace BK1:=yb BK1 hb
     replace HB:=yB HB hb
     (try clear hb)
     (try clear hb2)
     (try clear hk)
     (try clear hi)
     refine hK.out _ _ ((blk_cell BK1.out 0).trans rfl) (fun hHeld=>?_)
     clear hK K
     refine zno (some 21) ?_
     refine zon 5 (some 24) HT_.out (fun K hK=>?_)
     refine Kd.R_lit_step k32 _ 32 ?hg (N:=24) ?hd (xs:=([]:List (S32))) (inner:=[]) (ok:=fun _=>True) (okp:=fun _=>True) ?hr ?hp (fun _ hk=>hk) trivial (Below.refl _ _) (Nat.le_refl _) (by simp) ?_;(case hd=>rfl);(case hg=>rfl);(case hr=>((go_simp;done)));(case hp=>exact (Reps.none _ _))
     intro v16 w29 ho30 hb hg_ hnew_
     clear hg_ hnew_
     ((rw [← Ny15.out] at ho30))
     replace HO10:=zk (Kd.R_below (za1 HO10.out) hb)
     have HO17:=zk (Kd.R_lower ho30 (below_size za8))
     replace BK1:=yb BK1 hb
     replace HB:=yB HB hb
     clear hb ho30
     refine hK.out _ _ ((blk_cell BK1.out 0).trans rfl) (fun hHeld=>?_)
     clear hK K
     refine zno (some 24) ?_
     exact norm_ za66 (hCont (v16) _ ⟨hHeld,(za1 HO10.out),(za1 HO17.out),(za3 BK1.out),za8⟩)
    ·skip
     refine Kd.R_lit_step k32 _ 32 ?hg (N:=24) ?hd (xs:=([]:List (S32))) (inner:=[]) (ok:=fun _=>True) (okp:=fun _=>True) ?hr ?hp (fun _ hk=>hk) trivial (Below.refl _ _) (Nat.le_refl _) (by simp) ?_;(case hd=>rfl);(case hg=>rfl);(case hr=>((go_simp;done)));(case hp=>exact (Reps.none _ _))
     intro v16 w28 ho29 hb hg_ hnew_
     clear hg_ hnew_
     ((rw [← Ny15.out] at ho29))
     replace HO10:=zk (Kd.R_below (za1 HO10.out) hb)
     have HO17:=zk (Kd.R_lower ho29 (below_size za8))
     replace BK1:=yb BK1 hb
     replace HB:=yB HB hb
     clear hb ho29
     refine hK.out _ _ ((blk_cell BK1.out 0).trans rfl) (fun hHeld=>?_)
     clear hK K
     refine zno (some 24) ?_
     refine zon 2 (some 21) HT_.out (fun K hK=>?_)
     refine goes_ Tryz.func26 (by kernel_rfl) rfl #[.agg #[.slice A0_0 l0_0.length c0_0]] (by rfl) rfl rfl za11 ?_
     with_reducible refine (spec_VarsOfProblem.calls k _ _ l0_0 t14 _ ?side1 ?side2 A18.out).mono ?_
     (case side1=>repeat ((exact (Kd.C_below HR0_0.out HB.out))))
     (case side2=>exact HC0_0.out)
     rintro e w30 ⟨rfl,hb⟩
     refine ⟨_,rfl,?_⟩
     replace HO10:=zk (Kd.R_below (za1 HO10.out) hb)
     replace HO17:=zk (Kd.R_below (za1 HO17.out) hb)
     replace BK1:=yb BK1 hb
     replace HB:=yB HB hb
     (try clear hb)
     (try clear hb2)
     (try clear hk)
     (try clear hi)
     refine hK.out _ _ ((blk_cell BK1.out 0).trans rfl) (fun hHeld=>?_)
     clear hK K
     refine zno (some 21) ?_
     exact norm_ za66 (hCont (v16) _ ⟨hHeld,(za1 HO10.out),(za1 HO17.out),(za3 BK1.out),za8⟩)
   rintro v16 w31 ⟨hS_,h0_,h1_,h2_,h3_⟩
   have n0_:Aside0 (Kd.R Kd.string 9 w31 w.heap.size (fun _=>True) (.slice Ao26 t8.length co26) t8):=⟨h0_⟩
   have n1_:Aside0 (Kd.R k32 32 w31 w.heap.size (fun _=>True) v16 y7015):=⟨h1_⟩
   have n2_:Aside0 (w31.heap[gb1]? = some (.cells #[.slice A0_0 l0_0.length c0_0] 26 (0,0))):=⟨h2_⟩
   have n3_:Aside0 (Below w.heap.size w w31):=⟨h3_⟩
   clear HO10
   clear BK1
   clear HB
   clear h0_ h1_ h2_ h3_
   have HO10:=n0_
   have HO17:=n1_
   have BK1:=n2_
   have HB:=n3_
   clear n0_ n1_ n2_ n3_
   have hHeld:w31.cell? ⟨gb1,0,none⟩=some (.slice A0_0 l0_0.length c0_0):=hS_
   obtain ⟨Ao32,co32,eo32⟩:=Kd.R_slice HO17.out
   ((subst eo32))
   refine norm_ (a':=?_) ?_ ?_
   rotate_left
   ·simp only [putAll,Act.put,zt,zu,zv]
    rfl
   refine zon 6 (some 25) HT_.out (fun K hK=>?_)
   refine goes_ Tryz.func25 (by kernel_rfl) rfl #[.agg #[.slice A0_0 l0_0.length c0_0],.string t14,.slice Ao26 t8.length co26,.agg #[.string ⟨#[]⟩,.string ⟨#[]⟩,.string ⟨#[]⟩],.slice Ao32 y7015.length co32] (by rfl) rfl rfl za11 ?_
   with_reducible refine (spec_l11All.calls k _ _ l0_0 t14 _ _ t8 (⟨#[]⟩:ByteArray) (⟨#[]⟩:ByteArray) (⟨#[]⟩:ByteArray) (fun k_=>some k_=(.slice Ao32 y7015.length co32:Value).ownBlock) (.slice Ao32 y7015.length co32) y7015 t18 w _ za8 ?side2 ?side3 ?side4 ?side5 ?side6 A19.out).mono ?_
   (case side2=>exact Kd.C_kept_came k56_heap HR0_0.out za8 (fun k_ hs_=>(fun e_=>Kd.R_base HO17.out k_ e_.symm) hs_))
   (case side3=>exact HC0_0.out)
   (case side4=>exact Kd.C_kept_own ((Kd.R_apart' HO10.out (Kd.R_typed HO17.out) (by decide))) (fun k_ hk_ hs_=>(hk_.2) hs_))
   (case side5=>exact (Kd.R_reads' HO10.out).2.1)
   (case side6=>exact Kd.R_tight rfl HO17.out)
   rintro e w33 ⟨v19,rfl,ho0,hb,hkp⟩
   refine ⟨_,rfl,?_⟩
   replace BK1:=zk (blk_kept (za3 BK1.out) hkp (fun hs_=>(fun e_=>(Kd.R_ne HO17.out BK1.out (by decide)) e_) hs_))
   replace HO10:=zk (Kd.R_mono (ok':=fun k_=>True) (Kd.R_keptB ((Kd.R_apart' HO10.out (Kd.R_typed HO17.out) (by decide))) hkp (fun k_ hk_ hs_=>(hk_.2) hs_)) (fun k_ hk_=>trivial))
   have HO20:=zk (Kd.R_mono (ok':=fun k_=>True) ho0 (fun k_ hk_=>trivial))
   replace HB:=zk hb
   clear HO17
   (try clear hb)
   (try clear hkp)
   (try clear ho0)
   refine hK.out _ _ ((blk_cell BK1.out 0).trans rfl) (fun hHeld=>?_)
   clear hK K
   refine zno (some 25) ?_
   refine zy 7 (some 4) HT_.out ?_
   refine done_ (done_of HT_.out (by kernel_rfl)) ?_
   try go_wp2
   go_ret
   exact ⟨_,by (rfl),za1 HO20.out,za8⟩
 ·replace c4:=Bool.eq_false_iff.mpr c4
  subst c4
  rw [if_neg zff] at H
  try dsimp only at H
  obtain ⟨y7003,hy7003⟩:∃ y_:List (S32),y_=(([]:List (S32))):=⟨_,rfl⟩
  replace H:(some y7003)=some r:=by ((rw [hy7003];with_reducible exact H))
  have Ny3:=zk hy7003
  clear hy7003
  obtain rfl:=zi H
  go_wp2_with (first|((with_reducible refine gate_callee (f:=22) rfl ?_);refine zg (some 7) Tryz.func22 #[.agg #[.slice A0_0 l0_0.length c0_0]] rfl za11 ?_;(with_reducible refine (spec_IsValidProblem.calls k _ _ l0_0 false _ ?side1 ?side2 A3.out).mono ?_);(case side1=>repeat ((exact (Kd.C_below HR0_0.out HB.out))));(case side2=>exact HC0_0.out);rintro e w36 ⟨rfl,hb⟩;refine ⟨_,rfl,?_⟩;replace BK1:=yb BK1 hb;replace HB:=yB HB hb;(try clear hb))|((with_reducible refine gate_dst (N:=9) rfl ?_);refine Kd.R_lit k32 _ 32 ?hg (N:=9) ?hd (xs:=([]:List (S32))) (inner:=[]) (ok:=fun _=>True) (okp:=fun _=>True) ?hr ?hp (fun _ hk=>hk) trivial (Below.refl _ _) (Nat.le_refl _) (by simp) ?_;(case hd=>rfl);(case hg=>rfl);(case hr=>((go_simp;done)));(case hp=>exact (Reps.none _ _));intro v4 w37 ho38 hb hg_ hnew_;clear hg_ hnew_;((rw [← Ny3.out] at ho38));have HO5:=zk (Kd.R_lower ho38 (below_size za8));replace BK1:=yb BK1 hb;replace HB:=yB HB hb;clear hb ho38))
  go_ret
  exact ⟨_,by (rfl),za1 HO5.out,za8⟩
end Go.Proofs.YtcbjhfoeecfcoaaGreat.A
namespace Go.Proofs.YtcbjhfoeecfcoaaGreat.Ext
open Go.RowKit YtcbjhfoeecfcoaaGreatW.PrintWords YtcbjhfoeecfcoaaGreatW.PrintLast YtcbjhfoeecfcoaaGreat.A
def idxN (p:Nat→Bool) (n:Nat):Int:=match (List.range n).find? p with|some i=>(i:Int)|none => -1
def anyN (p:Nat→Bool) (n:Nat):Bool:=(List.range n).any p
theorem idxN_miss (p:Nat→Bool) (n:Nat) (h:∀ j,j < n→p j=false):idxN p n = -1:=by
 unfold idxN
 rw [List.find?_eq_none.2 (fun x hx=>by rw [h x (List.mem_range.1 hx)];simp)]
theorem idxN_hit (p:Nat→Bool) (n i:Nat) (hi:i < n) (h:∀ j,j < i→p j=false) (hp:p i=true):idxN p n=i:=by
 unfold idxN
 have e:(List.range n).find? p=some i:=by
  rw [List.find?_range_eq_some]
  exact ⟨hp,List.mem_range.2 hi,fun j hj=>by simp [h j hj]⟩
 rw [e]
theorem anyN_idx (p:Nat→Bool) (n:Nat):decide (0≤idxN p n)=anyN p n:=by
 unfold idxN anyN
 cases h:(List.range n).find? p with
 | none =>
  have:(List.range n).any p=false:=by
   rw [List.any_eq_false]
   exact List.find?_eq_none.1 h
  simp [this]
 | some i =>
  have:(List.range n).any p=true:=List.any_eq_true.2 ⟨i,List.mem_of_find?_eq_some h,List.find?_some h⟩
  simp [this]
end Go.Proofs.YtcbjhfoeecfcoaaGreat.Ext
namespace Go.Proofs.YtcbjhfoeecfcoaaGreat.A
open Go.RowKit YtcbjhfoeecfcoaaGreat.Ext YtcbjhfoeecfcoaaGreatW.PrintWords YtcbjhfoeecfcoaaGreatW.PrintLast YtcbjhfoeecfcoaaGreatW.PrintMore
attribute [local go_sem] max2_int min2_int max_two min_two max_three min_three max_four min_four
def impl_within.f (a0:Int) (a1:Int) (a2:Int):Option (Bool):=if a0 ≥ a1 then (some (decide (a0≤a2))) else (some false)
theorem impl_within.calls (a0:Int) (a1:Int) (a2:Int) (r:Bool) (w:World) (h:impl_within.f a0 a1 a2=some r) :
   Calls Tryz.prog 70 #[.int .i64 a0,.int .i64 a1,.int .i64 a2] w fun e w'=>e = .returned (.bool r)∧Drawn0 w w':=by
 have H:=h
 unfold impl_within.f at H
 clear h
 by_cases c4:a0 ≥ a1
 rw [if_pos c4] at H
 have c4b0:=zdle c4
 rotate_left
 rw [if_neg c4] at H
 have c4b0:=zdnle c4
 rotate_left
 all_goals
  clear c4
  obtain rfl:=zi H
  go_enter Tryz.func70,Tryz.ntmps70
  go_wp2
  go_ret
  exact ⟨za23,za20⟩
def impl_LetterIndex.f (a0:Int):Option (Int):=(strings_IndexByte.f (⟨#[97,98,99]⟩:ByteArray) a0).bind fun t94001=>(some t94001)
theorem impl_LetterIndex.calls (a0:Int) (r:Int) (w:World) (h:impl_LetterIndex.f a0=some r) :
  Calls Tryz.prog 94 #[.int .u8 a0] w fun e w'=>e = .returned (.int .i64 r)∧Drawn0 w w':=by
 have H:=h
 unfold impl_LetterIndex.f at H
 clear h
 obtain ⟨t1,A2,H⟩:=zO H
 try dsimp only at H
 obtain rfl:=zi H
 go_enter Tryz.func94,Tryz.ntmps94
 go_wp2_with ((((with_reducible refine gate_callee (f:=56) rfl ?_);refine zg (some 4) Tryz.func56 #[.string ⟨#[97,98,99]⟩,.int .u8 a0] rfl za11 ?_;(with_reducible refine (strings_IndexByte.calls (⟨#[97,98,99]⟩:ByteArray) a0 t1 _ A2.out).mono ?_);rintro e w' ⟨rfl,⟨nd,rfl⟩⟩;refine ⟨_,rfl,?_⟩)))
 go_ret
 exact ⟨by (rfl),za20⟩
def impl_isLetters.l0:Nat→ByteArray→Int→Option (Bool)
 | 0,_,_=>none
 | k+1,x0,x3=>if x3 < (x0.size:Int) then (if 0≤x3 then ((impl_LetterIndex.f (bt x0 x3)).bind fun t78001=>(if t78001 < 0 then (some false) else (impl_isLetters.l0 k x0 (wrap64 (x3+1))))) else (none)) else (some true)
def impl_isLetters.f (k:Nat) (a0:ByteArray):Option (Bool):=impl_isLetters.l0 k a0 0
theorem impl_isLetters.calls (k:Nat) (a0:ByteArray) (r:Bool) (w:World) (h:impl_isLetters.f k a0=some r) :
   Calls Tryz.prog 78 #[.string a0] w fun e w'=>e = .returned (.bool r)∧Drawn0 w w':=by
 have H:=h
 unfold impl_isLetters.f at H
 clear h
 have H':=zk H
 clear H
 go_enter Tryz.func78,Tryz.ntmps78
 go_wp2
 try simp only [Act.put,zt,zv,zu]
 go_loopg [3] k (fun kq v3 w'=>∃ (x3_1:Int),v3 = .int .i64 x3_1∧Aside0 (impl_isLetters.l0 kq a0 x3_1=some r)∧Aside0 (kq≤k)∧Drawn0 w w')
 case atStart=>exact ⟨(0),(by (rfl)),H',⟨Nat.le_refl _⟩,za20⟩
 case round =>
  clear H'
  obtain ⟨x3_1,rfl,HA,HK1,⟨m1,rfl⟩⟩:=hrel
  cases gk with
  | zero=>exact absurd HA.out (by simp [impl_isLetters.l0])
  | succ k1 =>
   have H:=HA.out
   clear HA
   simp only [impl_isLetters.l0] at H
   by_cases c2:x3_1 < (a0.size:Int)
   rw [if_pos c2] at H
   have c2b0:=zdl c2
   clear c2
   by_cases c3:0≤x3_1
   rw [if_pos c3] at H
   have c3b0:=zdle c3
   clear c3
   obtain ⟨t1,A5,H⟩:=zO H
   try dsimp only at H
   by_cases c6:t1 < 0
   rw [if_pos c6] at H
   have c6b0:=zdl c6
   clear c6
   obtain rfl:=zi H
   have fin0_:=zk trivial
   rotate_left
   rw [if_neg c6] at H
   have c6b0:=zdnl c6
   clear c6
   have H':=zk H
   clear H
   have fin1_:=zk trivial
   rotate_left
   · rw [if_neg c3] at H
     exact absurd H (by simp)
   · rw [if_neg c2] at H
     have c2b0:=zdnl c2
     clear c2
     obtain rfl:=zi H
     go_wp2
     go_ret
     exact ⟨by (rfl),za20⟩
   all_goals
    have p4:0≤(x3_1:Int):=of_decide_eq_true za25
    have q4:x3_1 < (a0.size:Int):=of_decide_eq_true za25
    have hx4:=bt_at a0 x3_1
    replace p4:=eq_true p4
    replace q4:=eq_true q4
    go_wp2_with (((with_reducible refine gate_callee (f:=94) rfl ?_);refine zg (some 13) Tryz.func94 #[.int .u8 (bt a0 x3_1)] rfl za11 ?_;(with_reducible refine (impl_LetterIndex.calls (bt a0 x3_1) t1 _ A5.out).mono ?_);rintro e w' ⟨rfl,⟨nd,rfl⟩⟩;refine ⟨_,rfl,?_⟩))
    first
    | (
      clear fin0_
      go_ret
      exact ⟨za23,za20⟩)
    | (
      clear fin1_
      go_roundg k1
      case measure=>have:=HK1.out;omega
      case rel=>exact ⟨(wrap64 (x3_1+1)),(by (rfl)),H',⟨za43⟩,za20⟩)
def impl_IsWord.f (k:Nat) (a0:ByteArray):Option (Bool):=if (a0.size:Int)≤30 then ((impl_isLetters.f k a0).bind fun t55001=>(some t55001)) else (some false)
theorem impl_IsWord.calls (k:Nat) (a0:ByteArray) (r:Bool) (w:World) (h:impl_IsWord.f k a0=some r) :
   Calls Tryz.prog 55 #[.string a0] w fun e w'=>e = .returned (.bool r)∧Drawn0 w w':=by
 have H:=h
 unfold impl_IsWord.f at H
 clear h
 by_cases c2:(a0.size:Int)≤30
 rw [if_pos c2] at H
 have c2b0:=zdle c2
 have c2b1:decide (a0.size≤30)=true:=decide_eq_true (by omega)
 clear c2
 obtain ⟨t1,A3,H⟩:=zO H
 try dsimp only at H
 rotate_left
 rw [if_neg c2] at H
 have c2b0:=zdnle c2
 have c2b1:decide (a0.size≤30)=false:=decide_eq_false (by omega)
 clear c2
 rotate_left
 all_goals
  obtain rfl:=zi H
  go_enter Tryz.func55,Tryz.ntmps55
  go_wp2_with ((go_at_call 78;(with_reducible refine (impl_isLetters.calls k a0 t1 _ A3.out).mono ?_);rintro e w' ⟨rfl,⟨nd,rfl⟩⟩))
  go_ret
  exact ⟨by (rfl),za20⟩
mutual
def impl_WordsOfLength.l0:Nat→List ByteArray→Int→Int→Option (List ByteArray)
 | 0,_,_,_=>none
 | k+1,x3,x12,x13=>if x13 < x12 then (impl_WordsOfLength.l1 k (([]:List ByteArray)) x12 x13 x3 (x3.length:Int) 0) else (some x3)
def impl_WordsOfLength.l1:Nat→List ByteArray→Int→Int→List ByteArray→Int→Int→Option (List ByteArray)
 | 0,_,_,_,_,_,_=>none
 | k+1,x4,x12,x13,x16,x17,x18=>if x18 < x17 then (if 0≤x18 then (if x18 < (x16.length:Int) then (impl_WordsOfLength.l2 k x4 (rdOf ByteArray.empty x16 x18) x12 x13 x16 x17 x18 0) else (none)) else (none)) else (impl_WordsOfLength.l0 k x4 x12 (wrap64 (x13+1)))
def impl_WordsOfLength.l2:Nat→List ByteArray→ByteArray→Int→Int→List ByteArray→Int→Int→Int→Option (List ByteArray)
 | 0,_,_,_,_,_,_,_,_=>none
 | k+1,x4,x6,x12,x13,x16,x17,x18,x22=>if x22 < 3 then (if 0≤x22 then (if x22≤(wrap64 (x22+1)) then (if (wrap64 (x22+1))≤3 then (if x6.size+((⟨#[97,98,99]⟩:ByteArray).extract (x22:Int).toNat ((wrap64 (x22+1)):Int).toNat).size≤9223372036854775807 then (if x4.length < 8796093022208 then (impl_WordsOfLength.l2 k (x4 ++ [x6 ++ ((⟨#[97,98,99]⟩:ByteArray).extract (x22:Int).toNat ((wrap64 (x22+1)):Int).toNat)]) x6 x12 x13 x16 x17 x18 (wrap64 (x22+1))) else (none)) else (none)) else (none)) else (none)) else (none)) else (impl_WordsOfLength.l1 k x4 x12 x13 x16 x17 (wrap64 (x18+1)))
end
def impl_WordsOfLength.f (k:Nat) (a0:Int):Option (List ByteArray):=(impl_within.f a0 0 5).bind fun t49001=>(if t49001=true then (impl_WordsOfLength.l0 k (([⟨#[]⟩]:List ByteArray)) a0 0) else (some ([]:List ByteArray)))
theorem impl_WordsOfLength.mono_l:∀ k,(∀ y0 y1 y2,LeO (impl_WordsOfLength.l0 k y0 y1 y2) (impl_WordsOfLength.l0 (k+1) y0 y1 y2))∧(∀ y0 y1 y2 y3 y4 y5,LeO (impl_WordsOfLength.l1 k y0 y1 y2 y3 y4 y5) (impl_WordsOfLength.l1 (k+1) y0 y1 y2 y3 y4 y5))∧(∀ y0 y1 y2 y3 y4 y5 y6 y7,LeO (impl_WordsOfLength.l2 k y0 y1 y2 y3 y4 y5 y6 y7) (impl_WordsOfLength.l2 (k+1) y0 y1 y2 y3 y4 y5 y6 y7))
 | 0=>⟨fun _ _ _ r h=>by simp [impl_WordsOfLength.l0] at h,fun _ _ _ _ _ _ r h=>by simp [impl_WordsOfLength.l1] at h,fun _ _ _ _ _ _ _ _ r h=>by simp [impl_WordsOfLength.l2] at h⟩
 | k+1=>by
  obtain ⟨ih0,ih1,ih2⟩:=impl_WordsOfLength.mono_l k
  refine ⟨?_,?_,?_⟩
  ·intro y0 y1 y2
   unfold impl_WordsOfLength.l0
   repeat' first
   | with_reducible first|exact ih0 _ _ _|exact ih1 _ _ _ _ _ _|exact ih2 _ _ _ _ _ _ _ _|exact LeO.refl _|exact LeO.none _|refine LeO.ite ?_ ?_|refine LeO.bind ?_ (fun _=>?_)
  ·intro y0 y1 y2 y3 y4 y5
   unfold impl_WordsOfLength.l1
   repeat' first
   | with_reducible first|exact ih0 _ _ _|exact ih1 _ _ _ _ _ _|exact ih2 _ _ _ _ _ _ _ _|exact LeO.refl _|exact LeO.none _|refine LeO.ite ?_ ?_|refine LeO.bind ?_ (fun _=>?_)
  ·intro y0 y1 y2 y3 y4 y5 y6 y7
   unfold impl_WordsOfLength.l2
   repeat' first
   | with_reducible first|exact ih0 _ _ _|exact ih1 _ _ _ _ _ _|exact ih2 _ _ _ _ _ _ _ _|exact LeO.refl _|exact LeO.none _|refine LeO.ite ?_ ?_|refine LeO.bind ?_ (fun _=>?_)
theorem impl_WordsOfLength.mono:∀ a0 k,LeO (impl_WordsOfLength.f k a0) (impl_WordsOfLength.f (k+1) a0):=by
 intro a0 k
 obtain ⟨ih0,ih1,ih2⟩:=impl_WordsOfLength.mono_l k
 unfold impl_WordsOfLength.f
 repeat' first
  | with_reducible first|exact ih0 _ _ _|exact ih1 _ _ _ _ _ _|exact ih2 _ _ _ _ _ _ _ _|exact LeO.refl _|exact LeO.none _|refine LeO.ite ?_ ?_|refine LeO.bind ?_ (fun _=>?_)
theorem impl_WordsOfLength.calls (k:Nat) (a0:Int) (r:List ByteArray) (w:World) (h:impl_WordsOfLength.f k a0=some r) :
  Calls Tryz.prog 49 #[.int .i64 a0] w fun e w'=>∃ v0_:Value,e = .returned (v0_)∧Kd.R Kd.string 9 w' w.heap.size (fun _=>True) v0_ r∧Below w.heap.size w w':=by
 have HB:=zk (Below.refl w.heap.size w)
 have H:=h
 unfold impl_WordsOfLength.f at H
 clear h
 obtain ⟨t1,A2,H⟩:=zO H
 try dsimp only at H
 by_cases c3:t1=true
 ·subst c3
  rw [if_pos rfl] at H
  try dsimp only at H
  obtain ⟨y49002,hy49002⟩:∃ y_:List ByteArray,y_=(([⟨#[]⟩]:List ByteArray)):=⟨_,rfl⟩
  replace H:(impl_WordsOfLength.l0 k y49002 a0 0)=some r:=by ((rw [hy49002];with_reducible exact H))
  have Ny2:=zk hy49002
  clear hy49002
  have H':=zk H
  clear H
  go_enter Tryz.func49,Tryz.ntmps49
  go_wp2_with (first|((with_reducible refine gate_callee (f:=70) rfl ?_);refine zg (some 9) Tryz.func70 #[.int .i64 a0,.int .i64 0,.int .i64 5] rfl za11 ?_;(with_reducible refine (impl_within.calls a0 0 5 _ _ A2.out).mono ?_);rintro e w' ⟨rfl,⟨nd,rfl⟩⟩;refine ⟨_,rfl,?_⟩)|((with_reducible refine gate_dst (N:=11) rfl ?_);refine Kd.R_lit Kd.string _ 9 ?hg (N:=11) ?hd (xs:=([⟨#[]⟩]:List ByteArray)) (inner:=[.string ⟨#[]⟩]) (ok:=fun _=>True) (okp:=fun _=>True) ?hr ?hp (fun _ hk=>hk) trivial (Below.refl _ _) (Nat.le_refl _) (by simp) ?_;(case hd=>rfl);(case hg=>rfl);(case hr=>((go_simp;done)));(case hp=>exact (Reps.one (show Kd.M Kd.string _ _ _ (⟨#[]⟩:ByteArray) [.string ⟨#[]⟩] from rfl) (Reps.none _ _)));intro v49003 w4 ho5 hb hg_ hnew_;clear hg_ hnew_;((rw [← Ny2.out] at ho5));have HO4:=zk (Kd.R_lower ho5 (below_size za8));replace HB:=yB HB hb;clear hb ho5))
  try simp only [Act.put,zt,zv,zu]
  go_loopg [3,13] k (fun kq v3 v13 w'=>∃ (x3_1:List ByteArray) (x13_1:Int),v13 = .int .i64 x13_1∧Aside0 (impl_WordsOfLength.l0 kq x3_1 a0 x13_1=some r)∧Aside0 (kq≤k)∧Aside0 (Kd.R Kd.string 9 w' w.heap.size (fun _=>True) v3 x3_1)∧Aside0 (Below w.heap.size w w'))
  case atStart=>exact ⟨(y49002),(0),(by (rfl)),H',⟨Nat.le_refl _⟩,⟨za1 HO4.out⟩,⟨za8⟩⟩
  case round =>
   clear H'
   try clear c3
   obtain ⟨x3_1,x13_1,rfl,HA,HK1,HO_3,HB⟩:=hrel
   cases gk with
   | zero=>exact absurd HA.out (by simp [impl_WordsOfLength.l0])
   | succ k1 =>
    have H:=HA.out
    clear HA
    simp only [impl_WordsOfLength.l0] at H
    by_cases c6:x13_1 < a0
    ·rw [if_pos c6] at H
     have c6b0:=zdl c6
     clear c6
     obtain ⟨y49005,hy49005⟩:∃ y_:List ByteArray,y_=(([]:List ByteArray)):=⟨_,rfl⟩
     replace H:(impl_WordsOfLength.l1 k1 y49005 a0 x13_1 x3_1 (x3_1.length:Int) 0)=some r:=by ((rw [hy49005];with_reducible exact H))
     have Ny5:=zk hy49005
     clear hy49005
     have H':=zk H
     clear H
     go_wp2_with ((((with_reducible refine gate_dst (N:=15) rfl ?_);refine Kd.R_lit Kd.string _ 9 ?hg (N:=15) ?hd (xs:=([]:List ByteArray)) (inner:=[]) (ok:=fun _=>True) (okp:=fun _=>True) ?hr ?hp (fun _ hk=>hk) trivial (Below.refl _ _) (Nat.le_refl _) (by simp) ?_;(case hd=>rfl);(case hg=>rfl);(case hr=>((go_simp;done)));(case hp=>exact (Reps.none _ _));intro v6 w7 ho8 hb hg_ hnew_;clear hg_ hnew_;((rw [← Ny5.out] at ho8));have HO7:=zk (Kd.R_lower (Kd.R_new' ho8 (Kd.R_lt (za1 HO_3.out))) (below_size za8));replace HO_3:=zk (Kd.R_elder' (za1 HO_3.out) (Kd.R_base ho8) hb);replace HB:=yB HB hb;clear hb ho8;obtain ⟨Ao9,co9,eo9⟩:=Kd.R_slice HO_3.out;subst eo9)))
     try simp only [Act.put,zt,zv,zu]
     go_loopg [4,18] k1 (fun kq v4 v18 w'=>∃ (x4_2:List ByteArray) (x18_2:Int),v18 = .int .i64 x18_2∧Aside0 (impl_WordsOfLength.l1 kq x4_2 a0 x13_1 x3_1 (x3_1.length:Int) x18_2=some r)∧Aside0 (kq≤k1)∧Aside0 (Kd.R Kd.string 9 w' w.heap.size (fun k_=>some k_ ≠ ((.slice Ao9 x3_1.length co9):Value).ownBlock) v4 x4_2)∧Aside0 (Kd.R Kd.string 9 w' w.heap.size (fun k_=>some k_ ≠ (v4:Value).ownBlock) (.slice Ao9 x3_1.length co9) x3_1)∧Aside0 (Below w.heap.size w w'))
     case atStart=>exact ⟨(y49005),(0),(by (rfl)),H',⟨Nat.le_refl _⟩,⟨by (with_reducible repeat ((apply Kd.R_alloc)));exact Kd.R_mono HO7.out (fun _ hk=>hk.2)⟩,⟨za68⟩,⟨za8⟩⟩
     case round =>
      clear H'
      try clear c3
      try clear c6
      try clear c6b0
      obtain ⟨x4_2,x18_2,rfl,HA,HK2,HO_4,HO_16,HB⟩:=hrel
      cases gk with
      | zero=>exact absurd HA.out (by simp [impl_WordsOfLength.l1])
      | succ k2 =>
       have H:=HA.out
       clear HA
       simp only [impl_WordsOfLength.l1] at H
       by_cases c10:x18_2 < (x3_1.length:Int)
       rw [if_pos c10] at H
       have c10b0:=zdl c10
       clear c10
       by_cases c11:0≤x18_2
       rw [if_pos c11] at H
       have c11b0:=zdle c11
       clear c11
       by_cases c12:x18_2 < (x3_1.length:Int)
       ·rw [if_pos c12] at H
        have c12b0:=zdl c12
        clear c12
        have H':=zk H
        clear H
        have p49008:0≤(x18_2:Int):=of_decide_eq_true za25
        have q49008:x18_2 < (x3_1.length:Int):=of_decide_eq_true za25
        obtain ⟨ad49008,e49008,hx49008_0⟩:=Kd.at_string (Kd.R_reads' HO_16.out).2.2 x18_2 p49008 q49008
        cases e49008
        replace p49008:=eq_true p49008
        replace q49008:=eq_true q49008
        go_wp2
        try simp only [Act.put,zt,zv,zu]
        go_loopg [4,22] k2 (fun kq v4 v22 w'=>∃ (x4_3:List ByteArray) (x22_3:Int),v22 = .int .i64 x22_3∧Aside0 (impl_WordsOfLength.l2 kq x4_3 (rdOf ByteArray.empty x3_1 x18_2) a0 x13_1 x3_1 (x3_1.length:Int) x18_2 x22_3=some r)∧Aside0 (kq≤k2)∧Aside0 (Kd.R Kd.string 9 w' w.heap.size (fun k_=>some k_ ≠ ((.slice (some ad49008) x3_1.length co9):Value).ownBlock) v4 x4_3)∧Aside0 (Kd.R Kd.string 9 w' w.heap.size (fun k_=>some k_ ≠ (v4:Value).ownBlock) (.slice (some ad49008) x3_1.length co9) x3_1)∧Aside0 (Below w.heap.size w w'))
        case atStart=>exact ⟨(x4_2),(0),(by (rfl)),H',⟨Nat.le_refl _⟩,⟨za1 HO_4.out⟩,⟨za1 HO_16.out⟩,⟨za8⟩⟩
        case round =>
         clear H'
         try clear c3
         try clear c6
         try clear c6b0
         try clear c12
         try clear c12b0
         try clear hx49008_0
         try clear p49008
         try clear q49008
         obtain ⟨x4_3,x22_3,rfl,HA,HK3,HO_4,HO_16,HB⟩:=hrel
         cases gk with
         | zero=>exact absurd HA.out (by simp [impl_WordsOfLength.l2])
         | succ k3 =>
          have H:=HA.out
          clear HA
          simp only [impl_WordsOfLength.l2] at H
          by_cases c13:x22_3 < 3
          rw [if_pos c13] at H
          have c13b0:=zdl c13
          clear c13
          by_cases c14:0≤x22_3
          rw [if_pos c14] at H
          have c14b0:=eq_true c14
          have c14b1:=zdle c14
          clear c14
          by_cases c15:x22_3≤(wrap64 (x22_3+1))
          rw [if_pos c15] at H
          have c15b0:=eq_true c15
          have c15b1:=zdle c15
          by_cases c16:(wrap64 (x22_3+1))≤3
          rw [if_pos c16] at H
          have c16b0:=eq_true c16
          have c16b1:=zdle c16
          by_cases c17:(rdOf ByteArray.empty x3_1 x18_2).size+((⟨#[97,98,99]⟩:ByteArray).extract (x22_3:Int).toNat ((wrap64 (x22_3+1)):Int).toNat).size≤9223372036854775807
          rw [if_pos c17] at H
          have c17z:=c17
          try simp at c17z
          try replace c17z:=eq_false (Nat.not_lt.2 c17z)
          have c17b0:=eq_true c17
          have c17b1:=zdle c17
          try have c17b2:(9223372036854775807 < (rdOf ByteArray.empty x3_1 x18_2).size+((⟨#[97,98,99]⟩:ByteArray).extract (x22_3:Int).toNat ((wrap64 (x22_3+1)):Int).toNat).size)=False:=eq_false (Nat.not_lt.2 c17)
          by_cases c18:x4_3.length < 8796093022208
          ·rw [if_pos c18] at H
           have LMc18:=zk c18
           clear c18
           obtain ⟨y49009,hy49009⟩:∃ y_:List ByteArray,y_=(x4_3 ++ [(rdOf ByteArray.empty x3_1 x18_2) ++ ((⟨#[97,98,99]⟩:ByteArray).extract (x22_3:Int).toNat ((wrap64 (x22_3+1)):Int).toNat)]):=⟨_,rfl⟩
           replace H:(impl_WordsOfLength.l2 k3 y49009 (rdOf ByteArray.empty x3_1 x18_2) a0 x13_1 x3_1 (x3_1.length:Int) x18_2 (wrap64 (x22_3+1)))=some r:=by ((rw [hy49009];with_reducible exact H))
           have Ny9:=zk hy49009
           clear hy49009
           have H':=zk H
           clear H
           go_wp2_with ((((with_reducible refine gate_builtin (b:=.append) (xs:=#[.tmp 25,.tmp 32]) rfl ?_);at_builtin;refine Kd.R_append Kd.string (w0:=w) w.heap.size rfl (.tmp 25) (.tmp 32) 42 9 (.string ⟨#[]⟩) 16 rfl Tryz.underlying42 info9 rfl (by decide) (by omega) u4 x4_3 ((rdOf ByteArray.empty x3_1 x18_2) ++ ((⟨#[97,98,99]⟩:ByteArray).extract (x22_3:Int).toNat ((wrap64 (x22_3+1)):Int).toNat)) [.string ((rdOf ByteArray.empty x3_1 x18_2) ++ ((⟨#[97,98,99]⟩:ByteArray).extract (x22_3:Int).toNat ((wrap64 (x22_3+1)):Int).toNat))] (fun k_=>some k_ ≠ (.slice (some ad49008) x3_1.length co9:Value).ownBlock) (fun _=>False) rfl rfl ?aP (fun _ hk=>hk.elim) ?aF ?aO ?aB ?aS ?aL ?_;(case aP=>exact rfl);(case aB=>exact za8);(case aF=>exact (fun k_ hk=>Kd.fresh' (Kd.R_lt (za1 HO_16.out)) k_ hk));(case aO=>exact (za1 HO_4.out));(case aS=>exact (below_size za8));(case aL=>have:=LMc18.out;omega);intro v10 w19 ho hb hg hat;rw [← Ny9.out] at ho;replace HO_16:=zk (Kd.R_after (ok:=(fun _=>True)) (by (with_reducible repeat ((apply Kd.R_alloc)));exact Kd.R_mono HO_16.out (fun _ hk=>⟨trivial,hk⟩)) hg hat);replace HB:=zk hb;have HO11:=zk ho;clear HO_4;clear ho hb hg hat)))
           go_roundg k3
           case measure=>have:=HK1.out;have:=HK2.out;have:=HK3.out;omega
           case rel=>exact ⟨(y49009),(wrap64 (x22_3+1)),(by (rfl)),H',⟨za84⟩,⟨za1 HO11.out⟩,⟨by (with_reducible repeat ((apply Kd.R_alloc)));exact Kd.R_mono HO_16.out (fun _ hk=>hk.2)⟩,⟨za8⟩⟩
          ·rw [if_neg c18] at H
           exact absurd H (by simp)
          ·rw [if_neg c17] at H
           exact absurd H (by simp)
          ·rw [if_neg c16] at H
           exact absurd H (by simp)
          ·rw [if_neg c15] at H
           exact absurd H (by simp)
          ·rw [if_neg c14] at H
           exact absurd H (by simp)
          ·rw [if_neg c13] at H
           have c13b0:=zdnl c13
           clear c13
           have H':=zk H
           clear H
           go_wp2
           go_roundg k3
           case measure=>have:=HK1.out;have:=HK2.out;have:=HK3.out;omega
           case rel=>exact ⟨(x4_3),(wrap64 (x18_2+1)),(by (rfl)),H',⟨za84⟩,⟨za1 HO_4.out⟩,⟨za1 HO_16.out⟩,⟨za8⟩⟩
       ·rw [if_neg c12] at H
        exact absurd H (by simp)
       ·rw [if_neg c11] at H
        exact absurd H (by simp)
       ·rw [if_neg c10] at H
        have c10b0:=zdnl c10
        clear c10
        have H':=zk H
        clear H
        go_wp2
        go_roundg k2
        case measure=>have:=HK1.out;have:=HK2.out;omega
        case rel=>exact ⟨(x4_2),(wrap64 (x13_1+1)),(by (rfl)),H',⟨by have:=HK1.out;have:=HK2.out;omega⟩,⟨by (with_reducible repeat ((apply Kd.R_alloc)));exact Kd.R_mono HO_4.out (fun _ hk=>trivial)⟩,⟨za8⟩⟩
    ·rw [if_neg c6] at H
     have c6b0:=zdnl c6
     clear c6
     obtain rfl:=zi H
     go_wp2
     go_ret
     exact ⟨_,by (rfl),za1 HO_3.out,za8⟩
 ·replace c3:=Bool.eq_false_iff.mpr c3
  subst c3
  rw [if_neg zff] at H
  try dsimp only at H
  obtain rfl:=zi H
  go_enter Tryz.func49,Tryz.ntmps49
  go_wp2_with ((((with_reducible refine gate_callee (f:=70) rfl ?_);refine zg (some 9) Tryz.func70 #[.int .i64 a0,.int .i64 0,.int .i64 5] rfl za11 ?_;(with_reducible refine (impl_within.calls a0 0 5 _ _ A2.out).mono ?_);rintro e w' ⟨rfl,⟨nd,rfl⟩⟩;refine ⟨_,rfl,?_⟩)))
  go_ret
  exact ⟨_,by (rfl),by (exact Kd.R_nil _ _ _ _ _),za8⟩
def impl_WordsUpTo.l0:Nat→Int→List ByteArray→Int→Option (List ByteArray)
 | 0,_,_,_=>none
 | k+1,x0,x3,x4=>if x4≤(mn x0 5) then ((impl_WordsOfLength.f k x4).bind fun t19004=>(if x3.length+t19004.length < 8796093022208 then (impl_WordsUpTo.l0 k x0 (x3 ++ t19004) (wrap64 (x4+1))) else (none))) else (some x3)
def impl_WordsUpTo.f (k:Nat) (a0:Int):Option (List ByteArray):=if a0 < 0 then (some ([]:List ByteArray)) else (impl_WordsUpTo.l0 k a0 (([]:List ByteArray)) 0)
theorem impl_WordsUpTo.mono_l:∀ k,(∀ y0 y1 y2,LeO (impl_WordsUpTo.l0 k y0 y1 y2) (impl_WordsUpTo.l0 (k+1) y0 y1 y2))
 | 0=>fun _ _ _ r h=>by simp [impl_WordsUpTo.l0] at h
 | k+1=>by
  have ih0:=impl_WordsUpTo.mono_l k
  ·intro y0 y1 y2
   unfold impl_WordsUpTo.l0
   repeat' first
   | with_reducible first|exact ih0 _ _ _|exact impl_WordsOfLength.mono _ _|exact LeO.refl _|exact LeO.none _|refine LeO.ite ?_ ?_|refine LeO.bind ?_ (fun _=>?_)
theorem impl_WordsUpTo.mono:∀ a0 k,LeO (impl_WordsUpTo.f k a0) (impl_WordsUpTo.f (k+1) a0):=by
 intro a0 k
 have ih0:=impl_WordsUpTo.mono_l k
 unfold impl_WordsUpTo.f
 repeat' first
  | with_reducible first|exact ih0 _ _ _|exact impl_WordsOfLength.mono _ _|exact LeO.refl _|exact LeO.none _|refine LeO.ite ?_ ?_|refine LeO.bind ?_ (fun _=>?_)
theorem impl_WordsUpTo.calls (k:Nat) (a0:Int) (r:List ByteArray) (w:World) (h:impl_WordsUpTo.f k a0=some r) :
  Calls Tryz.prog 19 #[.int .i64 a0] w fun e w'=>∃ v0_:Value,e = .returned (v0_)∧Kd.R Kd.string 9 w' w.heap.size (fun _=>True) v0_ r∧Below w.heap.size w w':=by
 have HB:=zk (Below.refl w.heap.size w)
 have H:=h
 unfold impl_WordsUpTo.f at H
 clear h
 by_cases c2:a0 < 0
 ·rw [if_pos c2] at H
  have c2b0:=zdl c2
  clear c2
  obtain rfl:=zi H
  go_enter Tryz.func19,Tryz.ntmps19
  go_wp2
  go_ret
  exact ⟨_,by (rfl),by (exact Kd.R_nil _ _ _ _ _),za8⟩
 ·rw [if_neg c2] at H
  have c2b0:=zdnl c2
  clear c2
  obtain ⟨y19001,hy19001⟩:∃ y_:List ByteArray,y_=(([]:List ByteArray)):=⟨_,rfl⟩
  replace H:(impl_WordsUpTo.l0 k a0 y19001 0)=some r:=by ((rw [hy19001];with_reducible exact H))
  have Ny1:=zk hy19001
  clear hy19001
  have H':=zk H
  clear H
  go_enter Tryz.func19,Tryz.ntmps19
  go_wp2_with ((((with_reducible refine gate_dst (N:=7) rfl ?_);refine Kd.R_lit Kd.string _ 9 ?hg (N:=7) ?hd (xs:=([]:List ByteArray)) (inner:=[]) (ok:=fun _=>True) (okp:=fun _=>True) ?hr ?hp (fun _ hk=>hk) trivial (Below.refl _ _) (Nat.le_refl _) (by simp) ?_;(case hd=>rfl);(case hg=>rfl);(case hr=>((go_simp;done)));(case hp=>exact (Reps.none _ _));intro v2 w3 ho4 hb hg_ hnew_;clear hg_ hnew_;((rw [← Ny1.out] at ho4));have HO3:=zk (Kd.R_lower ho4 (below_size za8));replace HB:=yB HB hb;clear hb ho4)))
  try simp only [Act.put,zt,zv,zu]
  go_loopg [3,4] k (fun kq v3 v4 w'=>∃ (x3_1:List ByteArray) (x4_1:Int),v4 = .int .i64 x4_1∧Aside0 (impl_WordsUpTo.l0 kq a0 x3_1 x4_1=some r)∧Aside0 (kq≤k)∧Aside0 (Kd.R Kd.string 9 w' w.heap.size (fun _=>True) v3 x3_1)∧Aside0 (Below w.heap.size w w'))
  case atStart=>exact ⟨(y19001),(0),(by (rfl)),H',⟨Nat.le_refl _⟩,⟨za1 HO3.out⟩,⟨za8⟩⟩
  case round =>
   clear H'
   try clear c2
   try clear c2b0
   obtain ⟨x3_1,x4_1,rfl,HA,HK1,HO_3,HB⟩:=hrel
   cases gk with
   | zero=>exact absurd HA.out (by simp [impl_WordsUpTo.l0])
   | succ k1 =>
    have H:=HA.out
    clear HA
    simp only [impl_WordsUpTo.l0] at H
    obtain ⟨ji5,hji5⟩:∃ j_:Int,(mn a0 5)=j_:=⟨_,rfl⟩
    replace H:(if x4_1≤(ji5) then ((impl_WordsOfLength.f k1 x4_1).bind fun t4=>(if x3_1.length+t4.length < 8796093022208 then (impl_WordsUpTo.l0 k1 a0 (x3_1 ++ t4) (wrap64 (x4_1+1))) else (none))) else (some x3_1))=some r:=by ((rw [hji5] at H;exact H))
    have hji5_:(if 5 < a0 then 5 else a0)=ji5:=hji5
    by_cases c6:x4_1≤(ji5)
    rw [if_pos c6] at H
    have c6b0:=zdle c6
    clear c6
    obtain ⟨t4,A7,H⟩:=zO H
    try dsimp only at H
    by_cases c8:x3_1.length+t4.length < 8796093022208
    ·rw [if_pos c8] at H
     have LMc8:=zk c8
     clear c8
     obtain ⟨y19007,hy19007⟩:∃ y_:List ByteArray,y_=(x3_1 ++ t4):=⟨_,rfl⟩
     replace H:(impl_WordsUpTo.l0 k1 a0 y19007 (wrap64 (x4_1+1)))=some r:=by ((rw [hy19007];with_reducible exact H))
     have Ny7:=zk hy19007
     clear hy19007
     have H':=zk H
     clear H
     go_wp2_with (first|((with_reducible refine gate_callee (f:=49) rfl ?_);refine zg (some 16) Tryz.func49 #[.int .i64 x4_1] rfl za11 ?_;(with_reducible refine (impl_WordsOfLength.calls k1 x4_1 t4 _ A7.out).mono ?_);rintro e w9 ⟨v5,rfl,ho0,hb⟩;refine ⟨_,rfl,?_⟩;have HO6:=zk (Kd.R_lower (Kd.R_new' ho0 (Kd.R_lt (za1 HO_3.out))) (below_size za8));replace HO_3:=zk (Kd.R_elder' (za1 HO_3.out) (Kd.R_base ho0) hb);replace HB:=yB HB hb;(try clear hb ho0);obtain ⟨Ao11,co11,eo11⟩:=Kd.R_slice HO6.out;subst eo11)|((with_reducible refine gate_builtin (b:=.append) (xs:=#[.tmp 14,.tmp 16]) rfl ?_);at_builtin;refine Kd.R_append_rows Kd.string (w0:=w) w.heap.size rfl (.tmp 14) (.tmp 16) 42 9 (.string ⟨#[]⟩) 16 rfl Tryz.underlying42 info9 rfl (by decide) (by omega) u3 x3_1 t4 _ _ _ (fun k_=>some k_ ≠ (.slice Ao11 t4.length co11:Value).ownBlock) (fun _=>False) rfl rfl ?aO ?aR (fun _ _ h=>h) (fun _ h=>h.elim) ?aF ?aB ?aS ?aL ?_;(case aR=>repeat ((exact (Kd.R_reads' HO6.out).2.2)));(case aB=>exact za8);(case aF=>exact (fun k_ hk=>Kd.fresh' (Kd.R_lt (za1 HO6.out)) k_ hk));(case aO=>exact za68);(case aS=>exact (below_size za8));(case aL=>have:=LMc8.out;omega);intro v8 w10 ho hb hg hat;rw [← Ny7.out] at ho;replace HO6:=zk (Kd.R_after (ok:=(fun _=>True)) (za1 HO6.out) hg hat);replace HB:=zk hb;have HO9:=zk ho;clear HO_3;clear ho hb hg hat))
     go_roundg k1
     case measure=>have:=HK1.out;omega
     case rel=>exact ⟨(y19007),(wrap64 (x4_1+1)),(by (rfl)),H',⟨za43⟩,⟨by (with_reducible repeat ((apply Kd.R_alloc)));exact Kd.R_mono HO9.out (fun _ hk=>trivial)⟩,⟨za8⟩⟩
    ·rw [if_neg c8] at H
     exact absurd H (by simp)
    ·rw [if_neg c6] at H
     have c6b0:=zdnle c6
     clear c6
     obtain rfl:=zi H
     go_wp2
     go_ret
     exact ⟨_,by (rfl),za1 HO_3.out,za8⟩
def impl_isVariable.f (a0:Int):Option (Bool):=(strings_IndexByte.f (⟨#[88,89,90]⟩:ByteArray) a0).bind fun t83001=>(some (decide (t83001 ≥ 0)))
theorem impl_isVariable.calls (a0:Int) (r:Bool) (w:World) (h:impl_isVariable.f a0=some r) :
  Calls Tryz.prog 83 #[.int .u8 a0] w fun e w'=>e = .returned (.bool r)∧Drawn0 w w':=by
 have H:=h
 unfold impl_isVariable.f at H
 clear h
 obtain ⟨t1,A2,H⟩:=zO H
 try dsimp only at H
 obtain rfl:=zi H
 go_enter Tryz.func83,Tryz.ntmps83
 go_wp2_with (first|((with_reducible refine gate_callee (f:=56) rfl ?_);refine zg (some 4) Tryz.func56 #[.string ⟨#[88,89,90]⟩,.int .u8 a0] rfl za14 ?_;(with_reducible refine (strings_IndexByte.calls (⟨#[88,89,90]⟩:ByteArray) a0 t1 _ A2.out).mono ?_);rintro e w' ⟨rfl,⟨nd,rfl⟩⟩;refine ⟨_,rfl,?_⟩))
 go_ret
 exact ⟨za23,za20⟩
def impl_IsTerm.l0:Nat→ByteArray→Int→Option (Bool)
 | 0,_,_=>none
 | k+1,x0,x3=>if x3 < (x0.size:Int) then (if 0≤x3 then ((impl_LetterIndex.f (bt x0 x3)).bind fun t67001=>(if t67001 < 0 then ((impl_isVariable.f (bt x0 x3)).bind fun t67002=>(if t67002=true then (impl_IsTerm.l0 k x0 (wrap64 (x3+1))) else (some false))) else (impl_IsTerm.l0 k x0 (wrap64 (x3+1))))) else (none)) else (some true)
def impl_IsTerm.f (k:Nat) (a0:ByteArray):Option (Bool):=if (a0.size:Int) > 12 then (some false) else (impl_IsTerm.l0 k a0 0)
theorem impl_IsTerm.calls (k:Nat) (a0:ByteArray) (r:Bool) (w:World) (h:impl_IsTerm.f k a0=some r) :
  Calls Tryz.prog 67 #[.string a0] w fun e w'=>e = .returned (.bool r)∧Drawn0 w w':=by
 have H:=h
 unfold impl_IsTerm.f at H
 clear h
 by_cases c2:(a0.size:Int) > 12
 ·rw [if_pos c2] at H
  have c2b0:=zdl c2
  have c2b1:decide (12 < a0.size)=true:=decide_eq_true (by omega)
  clear c2
  obtain rfl:=zi H
  go_enter Tryz.func67,Tryz.ntmps67
  go_wp2
  go_ret
  exact ⟨za23,za20⟩
 ·rw [if_neg c2] at H
  have c2b0:=zdnl c2
  have c2b1:decide (12 < a0.size)=false:=decide_eq_false (by omega)
  clear c2
  have H':=zk H
  clear H
  go_enter Tryz.func67,Tryz.ntmps67
  go_wp2
  try simp only [Act.put,zt,zv,zu]
  go_loopg [3] k (fun kq v3 w'=>∃ (x3_1:Int),v3 = .int .i64 x3_1∧Aside0 (impl_IsTerm.l0 kq a0 x3_1=some r)∧Aside0 (kq≤k)∧Drawn0 w w')
  case atStart=>exact ⟨(0),za23,H',⟨Nat.le_refl _⟩,za20⟩
  case round =>
   clear H'
   try clear c2
   try clear c2b0
   try clear c2b1
   obtain ⟨x3_1,rfl,HA,HK1,⟨m1,rfl⟩⟩:=hrel
   cases gk with
   | zero=>exact absurd HA.out (by simp [impl_IsTerm.l0])
   | succ k1 =>
    have H:=HA.out
    clear HA
    simp only [impl_IsTerm.l0] at H
    by_cases c3:x3_1 < (a0.size:Int)
    rw [if_pos c3] at H
    have c3b0:=zdl c3
    clear c3
    by_cases c4:0≤x3_1
    rw [if_pos c4] at H
    have c4b0:=zdle c4
    clear c4
    obtain ⟨t1,A6,H⟩:=zO H
    try dsimp only at H
    by_cases c7:t1 < 0
    rw [if_pos c7] at H
    have c7b0:=zdl c7
    clear c7
    obtain ⟨t2,A9,H⟩:=zO H
    try dsimp only at H
    by_cases c10:t2=true
    subst c10
    rw [if_pos rfl] at H
    try dsimp only at H
    have H':=zk H
    clear H
    have fin0_:=zk trivial
    rotate_left
    replace c10:=Bool.eq_false_iff.mpr c10
    subst c10
    rw [if_neg zff] at H
    try dsimp only at H
    obtain rfl:=zi H
    have fin1_:=zk trivial
    rotate_left
    · rw [if_neg c7] at H
      have c7b0:=zdnl c7
      clear c7
      have H':=zk H
      clear H
      have p5:0≤(x3_1:Int):=of_decide_eq_true za36
      have q5:x3_1 < (a0.size:Int):=of_decide_eq_true za36
      have hx5:=bt_at a0 x3_1
      replace p5:=eq_true p5
      replace q5:=eq_true q5
      go_wp2_with (first|((with_reducible refine gate_callee (f:=94) rfl ?_);refine zg (some 16) Tryz.func94 #[.int .u8 (bt a0 x3_1)] rfl za14 ?_;(with_reducible refine (impl_LetterIndex.calls (bt a0 x3_1) t1 _ A6.out).mono ?_);rintro e w' ⟨rfl,⟨nd,rfl⟩⟩;refine ⟨_,rfl,?_⟩))
      go_roundg k1
      case measure=>have:=HK1.out;omega
      case rel=>exact ⟨(wrap64 (x3_1+1)),za23,H',⟨za43⟩,za20⟩
    · rw [if_neg c4] at H
      exact absurd H (by simp)
    · rw [if_neg c3] at H
      have c3b0:=zdnl c3
      clear c3
      obtain rfl:=zi H
      go_wp2
      go_ret
      exact ⟨za23,za20⟩
    all_goals
     have p5:0≤(x3_1:Int):=of_decide_eq_true za36
     have q5:x3_1 < (a0.size:Int):=of_decide_eq_true za36
     have hx5:=bt_at a0 x3_1
     replace p5:=eq_true p5
     replace q5:=eq_true q5
     go_wp2_with (first|((with_reducible refine gate_callee (f:=94) rfl ?_);refine zg (some 16) Tryz.func94 #[.int .u8 (bt a0 x3_1)] rfl za14 ?_;(with_reducible refine (impl_LetterIndex.calls (bt a0 x3_1) t1 _ A6.out).mono ?_);rintro e w' ⟨rfl,⟨nd,rfl⟩⟩;refine ⟨_,rfl,?_⟩;have p8:0≤(x3_1:Int):=of_decide_eq_true za36;have q8:x3_1 < (a0.size:Int):=of_decide_eq_true za36;have hx8:=bt_at a0 x3_1;replace p8:=eq_true p8;replace q8:=eq_true q8)|(go_at_call 83;(with_reducible refine (impl_isVariable.calls (bt a0 x3_1) _ _ A9.out).mono ?_);rintro e w' ⟨rfl,⟨nd,rfl⟩⟩))
     first
     | (
       clear fin0_
       go_roundg k1
       case measure=>have:=HK1.out;omega
       case rel=>exact ⟨(wrap64 (x3_1+1)),za23,H',⟨za43⟩,za20⟩)
     | (
       clear fin1_
       go_ret
       exact ⟨za23,za20⟩)
def impl_VarsOf.l0:Nat→ByteArray→ByteArray→Int→Option (ByteArray)
 | 0,_,_,_=>none
 | k+1,x0,x3,x5=>if x5 < 3 then (if 0≤x5 then ((strings_IndexByte.f x0 (bt (⟨#[88,89,90]⟩:ByteArray) x5)).bind fun t48001=>(if t48001 ≥ 0 then (if x5≤(wrap64 (x5+1)) then (if (wrap64 (x5+1))≤3 then (if x3.size+((⟨#[88,89,90]⟩:ByteArray).extract (x5:Int).toNat ((wrap64 (x5+1)):Int).toNat).size≤9223372036854775807 then (impl_VarsOf.l0 k x0 (x3 ++ ((⟨#[88,89,90]⟩:ByteArray).extract (x5:Int).toNat ((wrap64 (x5+1)):Int).toNat)) (wrap64 (x5+1))) else (none)) else (none)) else (none)) else (impl_VarsOf.l0 k x0 x3 (wrap64 (x5+1))))) else (none)) else (some x3)
def impl_VarsOf.f (k:Nat) (a0:ByteArray):Option (ByteArray):=impl_VarsOf.l0 k a0 (⟨#[]⟩:ByteArray) 0
theorem impl_VarsOf.calls (k:Nat) (a0:ByteArray) (r:ByteArray) (w:World) (h:impl_VarsOf.f k a0=some r) :
   Calls Tryz.prog 48 #[.string a0] w fun e w'=>e = .returned (.string r)∧Drawn0 w w':=by
 have H:=h
 unfold impl_VarsOf.f at H
 clear h
 have H':=zk H
 clear H
 go_enter Tryz.func48,Tryz.ntmps48
 go_wp2
 try simp only [Act.put,zt,zv,zu]
 go_loopg [3,5] k (fun kq v3 v5 w'=>∃ (x3_1:ByteArray) (x5_1:Int),v3 = .string x3_1∧v5 = .int .i64 x5_1∧Aside0 (impl_VarsOf.l0 kq a0 x3_1 x5_1=some r)∧Aside0 (kq≤k)∧Drawn0 w w')
 case atStart=>exact ⟨((⟨#[]⟩:ByteArray)),(0),za23,za23,H',⟨Nat.le_refl _⟩,za20⟩
 case round =>
  clear H'
  obtain ⟨x3_1,x5_1,rfl,rfl,HA,HK1,⟨m1,rfl⟩⟩:=hrel
  cases gk with
  | zero=>exact absurd HA.out (by simp [impl_VarsOf.l0])
  | succ k1 =>
   have H:=HA.out
   clear HA
   simp only [impl_VarsOf.l0] at H
   by_cases c2:x5_1 < 3
   rw [if_pos c2] at H
   have c2b0:=zdl c2
   clear c2
   by_cases c3:0≤x5_1
   rw [if_pos c3] at H
   have c3b0:=zdle c3
   clear c3
   obtain ⟨t1,A5,H⟩:=zO H
   try dsimp only at H
   by_cases c6:t1 ≥ 0
   rw [if_pos c6] at H
   have c6b0:=zdle c6
   clear c6
   have c7b0:=eq_true (of_decide_eq_true za36:0≤x5_1)
   by_cases c8:x5_1≤(wrap64 (x5_1+1))
   rw [if_pos c8] at H
   have c8b0:=eq_true c8
   have c8b1:=zdle c8
   by_cases c9:(wrap64 (x5_1+1))≤3
   rw [if_pos c9] at H
   have c9b0:=eq_true c9
   have c9b1:=zdle c9
   by_cases c10:x3_1.size+((⟨#[88,89,90]⟩:ByteArray).extract (x5_1:Int).toNat ((wrap64 (x5_1+1)):Int).toNat).size≤9223372036854775807
   rw [if_pos c10] at H
   have c10z:=c10
   try simp at c10z
   try replace c10z:=eq_false (Nat.not_lt.2 c10z)
   have c10b0:=eq_true c10
   have c10b1:=zdle c10
   try have c10b2:(9223372036854775807 < x3_1.size+((⟨#[88,89,90]⟩:ByteArray).extract (x5_1:Int).toNat ((wrap64 (x5_1+1)):Int).toNat).size)=False:=eq_false (Nat.not_lt.2 c10)
   have fin0_:=zk trivial
   rotate_left
   · rw [if_neg c10] at H
     exact absurd H (by simp)
   · rw [if_neg c9] at H
     exact absurd H (by simp)
   · rw [if_neg c8] at H
     exact absurd H (by simp)
   rw [if_neg c6] at H
   have c6b0:=zdnle c6
   clear c6
   have fin1_:=zk trivial
   rotate_left
   · rw [if_neg c3] at H
     exact absurd H (by simp)
   · rw [if_neg c2] at H
     have c2b0:=zdnl c2
     clear c2
     obtain rfl:=zi H
     go_wp2
     go_ret
     exact ⟨za23,za20⟩
   all_goals
    have H':=zk H
    clear H
    have p4:0≤(x5_1:Int):=of_decide_eq_true za36
    have q4:x5_1 < (3:Int):=of_decide_eq_true za36
    have hx4:=bt_at (⟨#[88,89,90]⟩:ByteArray) x5_1
    replace p4:=eq_true p4
    replace q4:=eq_true q4
    go_wp2_with (((with_reducible refine gate_callee (f:=56) rfl ?_);refine zg (some 11) Tryz.func56 #[.string a0,.int .u8 (bt (⟨#[88,89,90]⟩:ByteArray) x5_1)] rfl za14 ?_;(with_reducible refine (strings_IndexByte.calls a0 (bt (⟨#[88,89,90]⟩:ByteArray) x5_1) t1 _ A5.out).mono ?_);rintro e w' ⟨rfl,⟨nd,rfl⟩⟩;refine ⟨_,rfl,?_⟩))
    first
    | (
      clear fin0_
      go_roundg k1
      case measure=>have:=HK1.out;omega
      case rel=>exact ⟨(x3_1 ++ ((⟨#[88,89,90]⟩:ByteArray).extract (x5_1:Int).toNat ((wrap64 (x5_1+1)):Int).toNat)),(wrap64 (x5_1+1)),za23,za23,H',⟨za43⟩,za20⟩)
    | (
      clear fin1_
      go_roundg k1
      case measure=>have:=HK1.out;omega
      case rel=>exact ⟨(x3_1),(wrap64 (x5_1+1)),za23,za23,H',⟨za43⟩,za20⟩)
def impl_IsValues.f (k:Nat) (a0_0:ByteArray) (a0_1:ByteArray) (a0_2:ByteArray):Option (Bool):=(impl_IsWord.f k a0_0).bind fun t27002=>(if t27002=true then ((impl_IsWord.f k a0_1).bind fun t27003=>(if t27003=true then ((impl_IsWord.f k a0_2).bind fun t27004=>(some t27004)) else (some false))) else (some false))
theorem impl_IsValues.calls (k:Nat) (a0_0:ByteArray) (a0_1:ByteArray) (a0_2:ByteArray) (r:Bool) (w:World) (h:impl_IsValues.f k a0_0 a0_1 a0_2=some r) :
   Calls Tryz.prog 27 #[.agg #[.string a0_0,.string a0_1,.string a0_2]] w fun e w'=>e = .returned (.bool r)∧Below w.heap.size w w':=by
 have hu32:=Tryz.underlying32
 have HB:=zk (Below.refl w.heap.size w)
 have H:=h
 unfold impl_IsValues.f at H
 clear h
 obtain ⟨t2,A2,H⟩:=zO H
 try dsimp only at H
 by_cases c3:t2=true
 subst c3
 rw [if_pos rfl] at H
 try dsimp only at H
 obtain ⟨t3,A4,H⟩:=zO H
 try dsimp only at H
 by_cases c5:t3=true
 subst c5
 rw [if_pos rfl] at H
 try dsimp only at H
 obtain ⟨t4,A6,H⟩:=zO H
 try dsimp only at H
 rotate_left
 replace c5:=Bool.eq_false_iff.mpr c5
 subst c5
 rw [if_neg zff] at H
 try dsimp only at H
 rotate_left
 replace c3:=Bool.eq_false_iff.mpr c3
 subst c3
 rw [if_neg zff] at H
 try dsimp only at H
 rotate_left
 all_goals
  obtain rfl:=zi H
  go_enter Tryz.func27,Tryz.ntmps27
  go_wp2_with (first|((with_reducible refine gate_dst (N:=1) rfl ?_);refine zE (cs:=#[.string a0_0,.string a0_1,.string a0_2]) (t:=32) ?_;intro gb1 hg w11 hbox hb;have BK1:=zk hbox;have GW1:=zk (zs (w:=w) hg za9);have GE1:=GW1;replace HB:=yB HB hb;clear hb hbox hg;obtain ⟨hcz12_0,hcz12_1,hcz12_2,hfz12_0,hfz12_1,hfz12_2⟩:=blk3 BK1.out)|((with_reducible refine gate_callee (f:=55) rfl ?_);refine zg (some 5) Tryz.func55 #[.string a0_0] rfl za14 ?_;(with_reducible refine (impl_IsWord.calls k a0_0 _ _ A2.out).mono ?_);rintro e w' ⟨rfl,⟨nd,rfl⟩⟩;refine ⟨_,rfl,?_⟩)|(go_at_call 55;(with_reducible refine (impl_IsWord.calls k a0_1 _ _ A4.out).mono ?_);rintro e w' ⟨rfl,⟨nd,rfl⟩⟩)|(go_at_call 55;(with_reducible refine (impl_IsWord.calls k a0_2 t4 _ A6.out).mono ?_);rintro e w' ⟨rfl,⟨nd,rfl⟩⟩))
  go_ret
  exact ⟨za24,za9⟩
def impl_WithValue.f (a0_0:ByteArray) (a0_1:ByteArray) (a0_2:ByteArray) (a1:Int) (a2:ByteArray):Option (ByteArray × ByteArray × ByteArray):=if a1=88 then (some (a2,a0_1,a0_2)) else (if a1=89 then (some (a0_0,a2,a0_2)) else (if a1=90 then (some (a0_0,a0_1,a2)) else (some (a0_0,a0_1,a0_2))))
theorem impl_WithValue.calls (a0_0:ByteArray) (a0_1:ByteArray) (a0_2:ByteArray) (a1:Int) (a2:ByteArray) (r1:ByteArray) (r2:ByteArray) (r3:ByteArray) (w:World) (h:impl_WithValue.f a0_0 a0_1 a0_2 a1 a2=some (r1,r2,r3)) :
   Calls Tryz.prog 21 #[.agg #[.string a0_0,.string a0_1,.string a0_2],.int .u8 a1,.string a2] w fun e w'=>e = .returned (.agg #[.string r1,.string r2,.string r3])∧Below w.heap.size w w':=by
 have hu32:=Tryz.underlying32
 have HB:=zk (Below.refl w.heap.size w)
 have H:=h
 unfold impl_WithValue.f at H
 clear h
 by_cases c4:a1=88
 rw [if_pos c4] at H
 have c4b0:=zbt c4
 have c4b1:=zqn c4
 clear c4
 have fin3_:=zk trivial
 rotate_left
 rw [if_neg c4] at H
 have c4b0:=zbn c4
 have c4b1:=zqt c4
 by_cases c10:a1=89
 rw [if_pos c10] at H
 have c10b0:=zbt c10
 have c10b1:=zqn c10
 clear c10
 have fin0_:=zk trivial
 rotate_left
 rw [if_neg c10] at H
 have c10b0:=zbn c10
 have c10b1:=zqt c10
 by_cases c16:a1=90
 rw [if_pos c16] at H
 have c16b0:=zbt c16
 have c16b1:=zqn c16
 clear c16
 have fin1_:=zk trivial
 rotate_left
 rw [if_neg c16] at H
 have c16b0:=zbn c16
 have c16b1:=zqt c16
 have fin2_:=zk trivial
 rotate_left
 all_goals
  simp only [Option.some.injEq,Prod.mk.injEq] at H
  obtain ⟨rfl,rfl,rfl⟩:=H
  go_enter Tryz.func21,Tryz.ntmps21
  go_wp2_with (first|((with_reducible refine gate_dst (N:=3) rfl ?_);refine zE (cs:=#[.string a0_0,.string a0_1,.string a0_2]) (t:=32) ?_;intro gb1 hg w11 hbox hb;have BK1:=zk hbox;have GW1:=zk (zs (w:=w) hg za9);have GE1:=GW1;replace HB:=yB HB hb;clear hb hbox hg)|((with_reducible refine gate_dst (N:=6) rfl ?_);refine zE (cs:=#[.string ⟨#[]⟩,.string ⟨#[]⟩,.string ⟨#[]⟩]) (t:=32) ?_;intro gb2 hg w12 hbox hb;have BK2:=zk hbox;have GW2:=zk (zs (w:=w) hg za9);have GE2:=GW2;have NB1_2:=yn hg BK1;have NB2_1:=yp hg BK1;replace BK1:=yb BK1 hb;replace HB:=yB HB hb;clear hb hbox hg;have hnb13:=NB1_2.out;have hnc13:=NB2_1.out;obtain ⟨hcz14_0,hcz14_1,hcz14_2,hfz14_0,hfz14_1,hfz14_2⟩:=blk3 BK1.out;obtain ⟨hcz15_0,hcz15_1,hcz15_2,hfz15_0,hfz15_1,hfz15_2⟩:=blk3 BK2.out))
  first
  | (
    clear fin0_
    refine bodyPost_ret (results_cell_row rfl _ _ gb2 32 #[.string a0_0,.string a2,.string a0_2] (0,0) _ rfl (zpw BK2.out) Tryz.underlying32 rfl (by kernel_rfl)) rfl ?_
    exact ⟨za24,za9⟩)
  | (
    clear fin1_
    refine bodyPost_ret (results_cell_row rfl _ _ gb2 32 #[.string a0_0,.string a0_1,.string a2] (0,0) _ rfl (zpw BK2.out) Tryz.underlying32 rfl (by kernel_rfl)) rfl ?_
    exact ⟨za24,za9⟩)
  | (
    clear fin2_
    refine bodyPost_ret (results_cell_row rfl _ _ gb2 32 #[.string a0_0,.string a0_1,.string a0_2] (0,0) _ rfl (zpu BK2.out) Tryz.underlying32 rfl (by kernel_rfl)) rfl ?_
    exact ⟨za24,za9⟩)
  | (
    clear fin3_
    refine bodyPost_ret (results_cell_row rfl _ _ gb2 32 #[.string a2,.string a0_1,.string a0_2] (0,0) _ rfl (zpw BK2.out) Tryz.underlying32 rfl (by kernel_rfl)) rfl ?_
    exact ⟨za24,za9⟩)
def impl_ValueOf.f (a0_0:ByteArray) (a0_1:ByteArray) (a0_2:ByteArray) (a1:Int):Option (ByteArray):=if a1=88 then (some a0_0) else (if a1=89 then (some a0_1) else (if a1=90 then (some a0_2) else (some (⟨#[]⟩:ByteArray))))
theorem impl_ValueOf.calls (a0_0:ByteArray) (a0_1:ByteArray) (a0_2:ByteArray) (a1:Int) (r:ByteArray) (w:World) (h:impl_ValueOf.f a0_0 a0_1 a0_2 a1=some r) :
   Calls Tryz.prog 82 #[.agg #[.string a0_0,.string a0_1,.string a0_2],.int .u8 a1] w fun e w'=>e = .returned (.string r)∧Below w.heap.size w w':=by
 have hu32:=Tryz.underlying32
 have HB:=zk (Below.refl w.heap.size w)
 have H:=h
 unfold impl_ValueOf.f at H
 clear h
 by_cases c3:a1=88
 rw [if_pos c3] at H
 have c3b0:=zbt c3
 have c3b1:=zqn c3
 clear c3
 rotate_left
 rw [if_neg c3] at H
 have c3b0:=zbn c3
 have c3b1:=zqt c3
 by_cases c6:a1=89
 rw [if_pos c6] at H
 have c6b0:=zbt c6
 have c6b1:=zqn c6
 clear c6
 rotate_left
 rw [if_neg c6] at H
 have c6b0:=zbn c6
 have c6b1:=zqt c6
 by_cases c9:a1=90
 rw [if_pos c9] at H
 have c9b0:=zbt c9
 have c9b1:=zqn c9
 clear c9
 rotate_left
 rw [if_neg c9] at H
 have c9b0:=zbn c9
 have c9b1:=zqt c9
 rotate_left
 all_goals
  obtain rfl:=zi H
  go_enter Tryz.func82,Tryz.ntmps82
  go_wp2_with (((with_reducible refine gate_dst (N:=2) rfl ?_);refine zE (cs:=#[.string a0_0,.string a0_1,.string a0_2]) (t:=32) ?_;intro gb1 hg w10 hbox hb;have BK1:=zk hbox;have GW1:=zk (zs (w:=w) hg za9);have GE1:=GW1;replace HB:=yB HB hb;clear hb hbox hg;obtain ⟨hcz11_0,hcz11_1,hcz11_2,hfz11_0,hfz11_1,hfz11_2⟩:=blk3 BK1.out))
  go_ret
  exact ⟨za24,za9⟩
end Go.Proofs.YtcbjhfoeecfcoaaGreat.A
