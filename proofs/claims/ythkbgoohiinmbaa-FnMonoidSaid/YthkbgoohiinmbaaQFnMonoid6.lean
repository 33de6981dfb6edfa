/- FnMonoid: what its proof needs, put together by this session's program wip/merge.py out of the texts that wip/xp.py printed and of this session's own. -/
import Derived.Test.YthkbgoohiinmbaaQFnMonoid5
set_option linter.unusedVariables false
set_option linter.unusedSimpArgs false
set_option linter.unusedSectionVars false
set_option maxHeartbeats 8000000
set_option maxRecDepth 100000
namespace Go.Proofs.Ythkbgoohiinmbaa.A
open Go.RowKit Ythkbgoohiinmbaa.Ext YthkbgoohiinmbaaW.PrintWords YthkbgoohiinmbaaW.PrintLast YthkbgoohiinmbaaW.PrintMore
attribute [local go_sem] max2_int min2_int max_two min_two max_three min_three max_four min_four
mutual
def laws_FnMonoid.j0:Nat→List Int→Bool→Bool→List Bool→List (List Int)→List (List Int)→List Int→List (List Int)→Option (Bool)
 | 0,_,_,_,_,_,_,_,_=>none
 | k+1,x0,x5,x56,x3009000,x3009001,x3020000,x3020001,x3020002=>if x56=true then (some false) else ((spec_WordsUpTo.f k 2).bind fun t3032=>(laws_FnMonoid.l0 k x0 x5 t3032 0 x3009000 x3009001 x3020000 x3020001 x3020002))
def laws_FnMonoid.l0:Nat→List Int→Bool→List ByteArray→Int→List Bool→List (List Int)→List (List Int)→List Int→List (List Int)→Option (Bool)
 | 0,_,_,_,_,_,_,_,_,_=>none
 | k+1,x0,x5,x8,x9,x3009000,x3009001,x3020000,x3020001,x3020002=>if x9 < (x8.length:Int) then (laws_FnMonoid.j2 k x0 x5 x8 x9 x5 x3009000 x3009001 x3020000 x3020001 x3020002) else (laws_FnMonoid.j2 k x0 x5 x8 x9 false x3009000 x3009001 x3020000 x3020001 x3020002)
def laws_FnMonoid.j2:Nat→List Int→Bool→List ByteArray→Int→Bool→List Bool→List (List Int)→List (List Int)→List Int→List (List Int)→Option (Bool)
 | 0,_,_,_,_,_,_,_,_,_,_=>none
 | k+1,x0,x5,x8,x9,x64,x3009000,x3009001,x3020000,x3020001,x3020002=>if x64=true then (if 0≤x9 then (if x9 < (x8.length:Int) then ((impl_MapOf.f k x3020000 x3020001 x3020002 (rdOf ByteArray.empty x8 x9)).bind fun bt3036=>(if bt3036.2=true then (laws_FnMonoid.j3 k x0 x5 x8 x9 bt3036.1 (decide (bt3036.1 ≥ (x3020000.length:Int))) x3009000 x3009001 x3020000 x3020001 x3020002) else (laws_FnMonoid.j3 k x0 x5 x8 x9 bt3036.1 true x3009000 x3009001 x3020000 x3020001 x3020002))) else (none)) else (none)) else ((spec_DrawWordOfMap.f k x0).bind fun bt3052=>((impl_WordOfMap.f bt3052.1 bt3052.2.1 bt3052.2.2.1 bt3052.2.2.2).bind fun bt3063=>((spec_WordOfMap.f k bt3052.1 bt3052.2.1 bt3052.2.2.1 bt3052.2.2.2).bind fun bt3065=>((spec_DrawMapOf.f k x0).bind fun bt3067=>((impl_MapOf.f k bt3067.1 bt3067.2.1 bt3067.2.2.1 bt3067.2.2.2).bind fun bt3078=>((spec_MapOf.f k bt3067.1 bt3067.2.1 bt3067.2.2.1 bt3067.2.2.2).bind fun bt3080=>((impl_MapOf.f k bt3052.1 bt3052.2.1 bt3052.2.2.1 bt3063.1).bind fun bt3082=>(if bt3063.1.toList=bt3065.1.toList then (if (bt3063.2 == bt3065.2)=true then (if bt3078.1=bt3080.1 then (if (bt3078.2 == bt3080.2)=true then (if bt3063.2=true then (if bt3082.2=true then (some (bt3082.1 == bt3052.2.2.2)) else (some false)) else (some true)) else (some false)) else (some false)) else (some false)) else (some false)))))))))
def laws_FnMonoid.j3:Nat→List Int→Bool→List ByteArray→Int→Int→Bool→List Bool→List (List Int)→List (List Int)→List Int→List (List Int)→Option (Bool)
 | 0,_,_,_,_,_,_,_,_,_,_,_=>none
 | k+1,x0,x5,x8,x9,x10,x84,x3009000,x3009001,x3020000,x3020001,x3020002=>if x84=true then (some false) else (laws_FnMonoid.l1 k x0 x5 x8 x9 x10 0 x3009000 x3009001 x3020000 x3020001 x3020002)
def laws_FnMonoid.l1:Nat→List Int→Bool→List ByteArray→Int→Int→Int→List Bool→List (List Int)→List (List Int)→List Int→List (List Int)→Option (Bool)
 | 0,_,_,_,_,_,_,_,_,_,_,_=>none
 | k+1,x0,x5,x8,x9,x10,x12,x3009000,x3009001,x3020000,x3020001,x3020002=>if x12 < (x3009000.length:Int) then (if 0≤x9 then (if x9 < (x8.length:Int) then ((spec_RunDfa.f k x3009000 x3009001 x12 (rdOf ByteArray.empty x8 x9)).bind fun bt3039=>(if 0≤x10 then (if x10 < (x3020000.length:Int) then (if 0≤x12 then (if x12 < ((rd_L3 x3020000 x10).length:Int) then (if (rd (rd_L3 x3020000 x10) x12)=bt3039.1 then (laws_FnMonoid.l1 k x0 x5 x8 x9 x10 (wrap64 (x12+1)) x3009000 x3009001 x3020000 x3020001 x3020002) else (some false)) else (none)) else (none)) else (none)) else (none))) else (none)) else (none)) else (laws_FnMonoid.l2 k x0 x5 x8 x9 x10 0 x3009000 x3009001 x3020000 x3020001 x3020002)
def laws_FnMonoid.l2:Nat→List Int→Bool→List ByteArray→Int→Int→Int→List Bool→List (List Int)→List (List Int)→List Int→List (List Int)→Option (Bool)
 | 0,_,_,_,_,_,_,_,_,_,_,_=>none
 | k+1,x0,x5,x8,x9,x10,x15,x3009000,x3009001,x3020000,x3020001,x3020002=>if x15 < (x8.length:Int) then (if 0≤x15 then ((impl_MapOf.f k x3020000 x3020001 x3020002 (rdOf ByteArray.empty x8 x15)).bind fun bt3044=>(if 0≤x9 then (if x9 < (x8.length:Int) then (if (rdOf ByteArray.empty x8 x9).size+(rdOf ByteArray.empty x8 x15).size≤9223372036854775807 then ((impl_MapOf.f k x3020000 x3020001 x3020002 ((rdOf ByteArray.empty x8 x9) ++ (rdOf ByteArray.empty x8 x15))).bind fun bt3048=>(if 0≤x10 then (if x10 < (x3020002.length:Int) then (if 0≤bt3044.1 then (if bt3044.1 < ((rd_L3 x3020002 x10).length:Int) then (if (rd (rd_L3 x3020002 x10) bt3044.1)=bt3048.1 then (laws_FnMonoid.l2 k x0 x5 x8 x9 x10 (wrap64 (x15+1)) x3009000 x3009001 x3020000 x3020001 x3020002) else (some false)) else (none)) else (none)) else (none)) else (none))) else (none)) else (none)) else (none))) else (none)) else (laws_FnMonoid.l0 k x0 x5 x8 (wrap64 (x9+1)) x3009000 x3009001 x3020000 x3020001 x3020002)
end
def laws_FnMonoid.f (k:Nat) (l0:List Int):Option (Bool):=(laws_big.f l0).bind fun t3001=>(if t3001=true then (some true) else ((spec_DrawBuildMonoid.f k l0).bind fun bt3002=>((impl_BuildMonoid.f k bt3002.1 bt3002.2).bind fun bt3009=>((spec_BuildMonoid.f k bt3002.1 bt3002.2).bind fun bt3020=>(if (bt3009.2.2.2 != bt3020.2.2.2)=true then (laws_FnMonoid.j0 k l0 bt3009.2.2.2 true bt3002.1 bt3002.2 bt3009.1 bt3009.2.1 bt3009.2.2.1) else ((impl_EqualMonoid.f k bt3009.1 bt3009.2.1 bt3009.2.2.1 bt3020.1 bt3020.2.1 bt3020.2.2.1).bind fun t3031=>(laws_FnMonoid.j0 k l0 bt3009.2.2.2 (!t3031) bt3002.1 bt3002.2 bt3009.1 bt3009.2.1 bt3009.2.2.1)))))))
def laws_FnMonoid.T12:Bool × List (List Nat × List Nat):=(true,[([],[]),([],[]),([],[]),([1,2],[1,2]),([3],[3]),([0,4],[0,4]),([5],[5]),([6],[6]),([6],[6]),([7,5,0,1,2,3,4,5,6,7],[7]),([8,9,0,1,2,3,4,5,6,7,8,9],[8])])
def laws_FnMonoid.B12:List Nat:=[0,0,0,6,14,31,63,127,127,255,1023]
theorem laws_FnMonoid.tab12:rtab .any (opsOf Try.f3 12)=laws_FnMonoid.T12:=by kernel_rfl
theorem laws_FnMonoid.bits12:waitsOk laws_FnMonoid.T12.2 laws_FnMonoid.B12=true:=by kernel_rfl
def laws_FnMonoid.T18:Bool × List (List Nat × List Nat):=(true,[([],[]),([],[]),([],[]),([],[]),([2,3],[2,3]),([4],[4]),([0,1,5],[0,1,5]),([6],[6]),([7],[7]),([7],[7]),([8,6,0,1,2,3,4,5,6,7,8],[8]),([9,10,0,1,2,3,4,5,6,7,8,9,10],[9])])
def laws_FnMonoid.B18:List Nat:=[0,0,0,0,12,28,63,127,255,255,511,2047]
theorem laws_FnMonoid.tab18:rtab .any (opsOf Try.f3 18)=laws_FnMonoid.T18:=by kernel_rfl
theorem laws_FnMonoid.bits18:waitsOk laws_FnMonoid.T18.2 laws_FnMonoid.B18=true:=by kernel_rfl
def laws_FnMonoid.T24:Bool × List (List Nat × List Nat):=(true,[([],[]),([],[]),([],[]),([1,2],[1,2]),([3],[3]),([0,4],[0,4]),([5],[5]),([6],[6]),([6],[6]),([7,5,0,1,2,3,4,5,6,7],[7]),([8,9,0,1,2,3,4,5,6,7,8,9],[8])])
def laws_FnMonoid.B24:List Nat:=[0,0,0,6,14,31,63,127,127,255,1023]
theorem laws_FnMonoid.tab24:rtab .any (opsOf Try.f3 24)=laws_FnMonoid.T24:=by kernel_rfl
theorem laws_FnMonoid.bits24:waitsOk laws_FnMonoid.T24.2 laws_FnMonoid.B24=true:=by kernel_rfl
def laws_FnMonoid.T25:Bool × List (List Nat × List Nat):=(true,[([],[]),([],[]),([],[]),([1,2],[1,2]),([3],[3]),([],[]),([],[]),([5,6],[5,6]),([7],[7]),([4,8],[4,8]),([0,9],[0,9]),([10],[10]),([11],[11]),([11],[11]),([12,10,0,1,2,3,4,5,6,7,8,9,10,11,12],[12]),([13,14,0,1,2,3,4,5,6,7,8,9,10,11,12,13,14],[13])])
def laws_FnMonoid.B25:List Nat:=[0,0,0,6,14,0,0,96,224,510,1023,2047,4095,4095,8191,32767]
theorem laws_FnMonoid.tab25:rtab .any (opsOf Try.f3 25)=laws_FnMonoid.T25:=by kernel_rfl
theorem laws_FnMonoid.bits25:waitsOk laws_FnMonoid.T25.2 laws_FnMonoid.B25=true:=by kernel_rfl
theorem laws_FnMonoid.j0_no {k:Nat} {y0:List Int} {y1:Bool} {y3:List Bool} {y4:List (List Int)} {y5:List (List Int)} {y6:List Int} {y7:List (List Int)} {r:Bool} (h:laws_FnMonoid.j0 k y0 y1 true y3 y4 y5 y6 y7=some r):false=r:=by
 cases k with
 | zero=>simp [laws_FnMonoid.j0] at h
 | succ k=>simpa [laws_FnMonoid.j0] using h
theorem laws_FnMonoid.j3_no {k:Nat} {y0:List Int} {y1:Bool} {y2:List ByteArray} {y3:Int} {y4:Int} {y6:List Bool} {y7:List (List Int)} {y8:List (List Int)} {y9:List Int} {y10:List (List Int)} {r:Bool} (h:laws_FnMonoid.j3 k y0 y1 y2 y3 y4 true y6 y7 y8 y9 y10=some r):false=r:=by
 cases k with
 | zero=>simp [laws_FnMonoid.j3] at h
 | succ k=>simpa [laws_FnMonoid.j3] using h
theorem laws_FnMonoid.calls (k:Nat) (A0:Option Addr) (c0:Nat) (l0:List Int) (r:Bool) (w:World) (hr0:Kd.C (Kd.int .u8) w A0 l0.length l0) (hc0:l0.length≤c0) (h:laws_FnMonoid.f k l0=some r) (hr_:r=true) :
  Calls Try.prog 3 #[.slice A0 l0.length c0] w fun e w'=>e = .returned (.bool r)∧Below w.heap.size w w':=by
 have HRT_:=zk hr_
 clear hr_
 have hu27:=Try.underlying27
 have hu31:=Try.underlying31
 have HR0:=zk hr0
 have HC0:=zk hc0
 clear hr0 hc0
 have HB:=zk (Below.refl w.heap.size w)
 have H:=h
 unfold laws_FnMonoid.f at H
 clear h
 obtain ⟨t1,A2,H⟩:=zO H
 try dsimp only at H
 by_cases c3:t1=true
 ·subst c3
  rw [if_pos rfl] at H
  try dsimp only at H
  obtain rfl:=zi H
  go_enter Try.func3,Try.ntmps3
  go_wp2_with (first|((with_reducible refine gate_callee (f:=4) rfl ?_);refine zg (some 35) Try.func4 #[.slice A0 l0.length c0] rfl za4 ?_;(with_reducible refine (laws_big.calls _ _ l0 _ _ ?side1 ?side2 A2.out).mono ?_);(case side1=>repeat (first|exact HR0.out|(with_reducible refine Kd.C_alloc ?_ _)|(with_reducible refine Kd.C_drewN ?_ _)|(with_reducible refine Kd.C_drew ?_)));(case side2=>exact HC0.out);rintro e w' ⟨rfl,⟨nd,rfl⟩⟩;refine ⟨_,rfl,?_⟩))
  go_ret
  exact ⟨za15,za3⟩
 ·replace c3:=Bool.eq_false_iff.mpr c3
  subst c3
  rw [if_neg zff] at H
  try dsimp only at H
  obtain ⟨⟨t2,t5⟩,A4,H⟩:=zO H
  try dsimp only at H
  obtain ⟨⟨t9,t12,t15,t18⟩,A5,H⟩:=zO H
  try dsimp only at H
  obtain ⟨⟨t20,t23,t26,t29⟩,A6,H⟩:=zO H
  try dsimp only at H
  have HC7:=zk H
  clear H
  go_enter Try.func3,Try.ntmps3
  go_upto_region 6 with (first|((with_reducible refine gate_callee (f:=4) rfl ?_);refine zg (some 35) Try.func4 #[.slice A0 l0.length c0] rfl za4 ?_;(with_reducible refine (laws_big.calls _ _ l0 _ _ ?side1 ?side2 A2.out).mono ?_);(case side1=>repeat (first|exact HR0.out|(with_reducible refine Kd.C_alloc ?_ _)|(with_reducible refine Kd.C_drewN ?_ _)|(with_reducible refine Kd.C_drew ?_)));(case side2=>exact HC0.out);rintro e w' ⟨rfl,⟨nd,rfl⟩⟩;refine ⟨_,rfl,?_⟩)|((with_reducible refine gate_callee (f:=5) rfl ?_);refine zg (some 37) Try.func5 #[.slice A0 l0.length c0] rfl za4 ?_;(with_reducible refine (spec_DrawBuildMonoid.calls k _ _ l0 t2 t5 _ ?side1 ?side2 A4.out).mono ?_);(case side1=>repeat (first|exact HR0.out|(with_reducible refine Kd.C_alloc ?_ _)|(with_reducible refine Kd.C_drewN ?_ _)|(with_reducible refine Kd.C_drew ?_)));(case side2=>exact HC0.out);rintro e w8 ⟨v3,v6,rfl,ho0,ho1,hb⟩;refine ⟨_,rfl,?_⟩;have HO4:=zk (Kd.R_lower ho0 (below_size za3));have HO7:=zk (Kd.S_lower ho1 (below_size za3));replace HB:=yB HB hb;(try clear hb ho0 ho1))|((with_reducible refine gate_dst (N:=3) rfl ?_);(try (refine gate_guard (by rfl) ?_;dsimp only));refine zE (cs:=#[.slice none 0 0,.slice none 0 0]) (t:=27) ?_;intro gb8 hg w9 hbox hb;replace HO4:=zk (Kd.R_below (za1 HO4.out) hb);replace HO7:=zk (Kd.S_below (za2 HO7.out) hb);have BK8:=zk hbox;have GW8:=zk (zs (w:=w) hg za3);have GE8:=GW8;replace HB:=yB HB hb;clear hb hbox hg;obtain ⟨Ao10,co10,eo10⟩:=Kd.R_slice HO4.out;subst eo10;obtain ⟨hcz11_0,hcz11_1,hfz11_0,hfz11_1⟩:=blk2 BK8.out;obtain ⟨Ao12,co12,eo12⟩:=Kd.S_slice HO7.out;subst eo12)|((with_reducible refine gate_callee (f:=6) rfl ?_);refine zg (some 40) Try.func6 #[.agg #[.slice Ao10 t2.length co10,.slice Ao12 t5.length co12]] rfl za4 ?_;(with_reducible refine (impl_BuildMonoid.calls k _ _ t2 _ _ t5 t9 t12 t15 t18 _ ?side1 ?side2 ?side3 ?side4 A5.out).mono ?_);(case side1=>refine (Kd.R_reads' (e:=4) (base:=w.heap.size) (ok:=fun k_=>True) (n:=t2.length) (c:=co10) ?_).2.2;exact za105);(case side2=>exact (Kd.R_reads' HO4.out).2.1);(case side3=>refine (Kd.S_reads' (e:=29) (base:=w.heap.size) (ok:=fun k_=>True) (n:=t5.length) (c:=co12) ?_).2.2;exact za52);(case side4=>exact (Kd.S_reads' HO7.out).2.1);rintro e w13 ⟨v10,v13,v16,rfl,ho0,ho1,ho2,hb⟩;refine ⟨_,rfl,?_⟩;replace HO4:=zk (Kd.R_below za105 hb);have HO11:=zk (Kd.S_lower (Kd.S_new' ho0 (Kd.S_lt za52)) (below_size za3));have HO14:=zk (Kd.R_lower ho1 (below_size za3));have HO17:=zk (Kd.S_lower (Kd.S_new' ho2 (Kd.S_lt za52)) (below_size za3));replace HO7:=zk (Kd.S_mono (Kd.S_told (Kd.S_told (Kd.S_told (Kd.S_old za52 hb) (Kd.S_base ho0)) (Kd.R_base ho1)) (Kd.S_base ho2)) (fun _ h_=>h_.1));replace HB:=yB HB hb;replace BK8:=zk (blk_below (g:=gb8) (o:=.cells #[.slice Ao10 t2.length co10,.slice Ao12 t5.length co12] 27 (0,0)) (zpu BK8.out) hb);(try clear hb ho0 ho1 ho2))|((with_reducible refine gate_dst (N:=4) rfl ?_);(try (refine gate_guard (by rfl) ?_;dsimp only));refine zE (cs:=#[.slice none 0 0,.slice none 0 0,.slice none 0 0]) (t:=31) ?_;intro gb19 hg w14 hbox hb;replace HO4:=zk (Kd.R_below (za1 HO4.out) hb);replace HO7:=zk (Kd.S_below (za2 HO7.out) hb);replace HO11:=zk (Kd.S_below (za2 HO11.out) hb);replace HO14:=zk (Kd.R_below (za1 HO14.out) hb);replace HO17:=zk (Kd.S_below (za2 HO17.out) hb);have BK19:=zk hbox;have GW19:=zk (zs (w:=w) hg za3);have GE19:=GW19;have NB8_19:=yn hg BK8;have NB19_8:=yp hg BK8;replace BK8:=yb BK8 hb;replace HB:=yB HB hb;clear hb hbox hg;obtain ⟨Ao15,co15,eo15⟩:=Kd.S_slice HO11.out;subst eo15;have hnb16:=NB19_8.out;have hnc16:=NB8_19.out;obtain ⟨hcz17_0,hcz17_1,hcz17_2,hfz17_0,hfz17_1,hfz17_2⟩:=blk3 BK19.out;obtain ⟨Ao18,co18,eo18⟩:=Kd.R_slice HO14.out;subst eo18;obtain ⟨Ao19,co19,eo19⟩:=Kd.S_slice HO17.out;subst eo19;obtain ⟨hcz20_0,hcz20_1,hfz20_0,hfz20_1⟩:=blk2 BK8.out)|((with_reducible refine gate_callee (f:=7) rfl ?_);refine zg (some 45) Try.func7 #[.agg #[.slice Ao10 t2.length co10,.slice Ao12 t5.length co12]] rfl za4 ?_;(with_reducible refine (spec_BuildMonoid.calls k _ _ t2 _ _ t5 t20 t23 t26 t29 _ ?side1 ?side2 ?side3 ?side4 A6.out).mono ?_);(case side1=>refine (Kd.R_reads' (e:=4) (base:=w.heap.size) (ok:=fun k_=>True) (n:=t2.length) (c:=co10) ?_).2.2;exact za104);(case side2=>exact (Kd.R_reads' HO4.out).2.1);(case side3=>refine (Kd.S_reads' (e:=29) (base:=w.heap.size) (ok:=fun k_=>(((True∧some k_ ≠ (.slice Ao15 t9.length co15:Value).ownBlock)∧some k_ ≠ (.slice Ao18 t12.length co18:Value).ownBlock)∧some k_ ≠ (.slice Ao19 t15.length co19:Value).ownBlock)) (n:=t5.length) (c:=co12) ?_).2.2;exact za47);(case side4=>exact (Kd.S_reads' HO7.out).2.1);rintro e w21 ⟨v21,v24,v27,rfl,ho0,ho1,ho2,hb⟩;refine ⟨_,rfl,?_⟩;replace HO4:=zk (Kd.R_below za104 hb);have HO22:=zk (Kd.S_lower (Kd.S_new' (Kd.S_new' (Kd.S_new' (Kd.S_new' ho0 (Kd.S_lt za47)) (Kd.S_lt za55)) (Kd.R_lt za46)) (Kd.S_lt za54)) (below_size za3));have HO25:=zk (Kd.R_lower (Kd.R_new' ho1 (Kd.R_lt za46)) (below_size za3));have HO28:=zk (Kd.S_lower (Kd.S_new' (Kd.S_new' (Kd.S_new' (Kd.S_new' ho2 (Kd.S_lt za47)) (Kd.S_lt za55)) (Kd.R_lt za46)) (Kd.S_lt za54)) (below_size za3));replace BK8:=zk (blk_below (g:=gb8) (o:=.cells #[.slice Ao10 t2.length co10,.slice Ao12 t5.length co12] 27 (0,0)) (zpw BK8.out) hb);replace HO7:=zk (Kd.S_mono (Kd.S_told (Kd.S_told (Kd.S_told (Kd.S_old za47 hb) (Kd.S_base ho0)) (Kd.R_base ho1)) (Kd.S_base ho2)) (fun _ h_=>h_.1));replace HO11:=zk (Kd.S_mono (Kd.S_told (Kd.S_told (Kd.S_told (Kd.S_old za55 hb) (Kd.S_base ho0)) (Kd.R_base ho1)) (Kd.S_base ho2)) (fun _ h_=>h_.1));replace HO14:=zk (Kd.R_elder' za46 (Kd.R_base ho1) hb);replace HO17:=zk (Kd.S_mono (Kd.S_told (Kd.S_told (Kd.S_told (Kd.S_old za54 hb) (Kd.S_base ho0)) (Kd.R_base ho1)) (Kd.S_base ho2)) (fun _ h_=>h_.1));replace HB:=yB HB hb;replace BK19:=zk (blk_below (g:=gb19) (o:=.cells #[.slice Ao15 t9.length co15,.slice Ao18 t12.length co18,.slice Ao19 t15.length co19] 31 (0,0)) (zpu BK19.out) hb);(try clear hb ho0 ho1 ho2))|((with_reducible refine gate_dst (N:=6) rfl ?_);(try (refine gate_guard (by rfl) ?_;dsimp only));refine zE (cs:=#[.slice none 0 0,.slice none 0 0,.slice none 0 0]) (t:=31) ?_;intro gb30 hg w22 hbox hb;replace HO4:=zk (Kd.R_below (za1 HO4.out) hb);replace HO7:=zk (Kd.S_below (za2 HO7.out) hb);replace HO11:=zk (Kd.S_below (za2 HO11.out) hb);replace HO14:=zk (Kd.R_below (za1 HO14.out) hb);replace HO17:=zk (Kd.S_below (za2 HO17.out) hb);replace HO22:=zk (Kd.S_below (za2 HO22.out) hb);replace HO25:=zk (Kd.R_below (za1 HO25.out) hb);replace HO28:=zk (Kd.S_below (za2 HO28.out) hb);have BK30:=zk hbox;have GW30:=zk (zs (w:=w) hg za3);have GE30:=GW30;have NB8_30:=yn hg BK8;have NB30_8:=yp hg BK8;have NB19_30:=yn hg BK19;have NB30_19:=yp hg BK19;replace BK8:=yb BK8 hb;replace BK19:=yb BK19 hb;replace HB:=yB HB hb;clear hb hbox hg;obtain ⟨Ao23,co23,eo23⟩:=Kd.S_slice HO22.out;subst eo23;have hnb24:=NB30_8.out;have hnc24:=NB8_30.out;have hnb25:=NB30_19.out;have hnc25:=NB19_30.out;obtain ⟨hcz26_0,hcz26_1,hcz26_2,hfz26_0,hfz26_1,hfz26_2⟩:=blk3 BK30.out;obtain ⟨Ao27,co27,eo27⟩:=Kd.R_slice HO25.out;subst eo27;obtain ⟨Ao28,co28,eo28⟩:=Kd.S_slice HO28.out;subst eo28))
  (try simp only [Act.put,zt,zu,zv])
  go_cut [56] (fun v56 wc=>∃ (kq:Nat) (x56_6:Bool),v56 = .bool x56_6∧Aside0 (laws_FnMonoid.j0 kq l0 t18 x56_6 t2 t5 t9 t12 t15=some r)∧Aside0 (kq≤k)∧Aside0 (Kd.R Kd.bool 4 wc w.heap.size (fun _=>True) (.slice Ao10 t2.length co10) t2)∧Aside0 (Kd.S (Kd.slice 3 (Kd.int .i64)) 29 wc w.heap.size (fun k_=>some k_ ≠ ((.slice Ao15 t9.length co15):Value).ownBlock∧some k_ ≠ ((.slice Ao18 t12.length co18):Value).ownBlock∧some k_ ≠ ((.slice Ao19 t15.length co19):Value).ownBlock∧some k_ ≠ ((.slice Ao23 t20.length co23):Value).ownBlock∧some k_ ≠ ((.slice Ao27 t23.length co27):Value).ownBlock∧some k_ ≠ ((.slice Ao28 t26.length co28):Value).ownBlock) (.slice Ao12 t5.length co12) t5)∧Aside0 (Kd.S (Kd.slice 3 (Kd.int .i64)) 29 wc w.heap.size (fun k_=>some k_ ≠ ((.slice Ao12 t5.length co12):Value).ownBlock∧some k_ ≠ ((.slice Ao18 t12.length co18):Value).ownBlock∧some k_ ≠ ((.slice Ao19 t15.length co19):Value).ownBlock∧some k_ ≠ ((.slice Ao23 t20.length co23):Value).ownBlock∧some k_ ≠ ((.slice Ao27 t23.length co27):Value).ownBlock∧some k_ ≠ ((.slice Ao28 t26.length co28):Value).ownBlock) (.slice Ao15 t9.length co15) t9)∧Aside0 (Kd.R (Kd.int .i64) 3 wc w.heap.size (fun k_=>some k_ ≠ ((.slice Ao27 t23.length co27):Value).ownBlock) (.slice Ao18 t12.length co18) t12)∧Aside0 (Kd.S (Kd.slice 3 (Kd.int .i64)) 29 wc w.heap.size (fun k_=>some k_ ≠ ((.slice Ao12 t5.length co12):Value).ownBlock∧some k_ ≠ ((.slice Ao15 t9.length co15):Value).ownBlock∧some k_ ≠ ((.slice Ao18 t12.length co18):Value).ownBlock∧some k_ ≠ ((.slice Ao23 t20.length co23):Value).ownBlock∧some k_ ≠ ((.slice Ao27 t23.length co27):Value).ownBlock∧some k_ ≠ ((.slice Ao28 t26.length co28):Value).ownBlock) (.slice Ao19 t15.length co19) t15)∧Aside0 (Kd.S (Kd.slice 3 (Kd.int .i64)) 29 wc w.heap.size (fun k_=>some k_ ≠ ((.slice Ao12 t5.length co12):Value).ownBlock∧some k_ ≠ ((.slice Ao15 t9.length co15):Value).ownBlock∧some k_ ≠ ((.slice Ao18 t12.length co18):Value).ownBlock∧some k_ ≠ ((.slice Ao19 t15.length co19):Value).ownBlock∧some k_ ≠ ((.slice Ao27 t23.length co27):Value).ownBlock∧some k_ ≠ ((.slice Ao28 t26.length co28):Value).ownBlock) (.slice Ao23 t20.length co23) t20)∧Aside0 (Kd.R (Kd.int .i64) 3 wc w.heap.size (fun k_=>some k_ ≠ ((.slice Ao18 t12.length co18):Value).ownBlock) (.slice Ao27 t23.length co27) t23)∧Aside0 (Kd.S (Kd.slice 3 (Kd.int .i64)) 29 wc w.heap.size (fun k_=>some k_ ≠ ((.slice Ao12 t5.length co12):Value).ownBlock∧some k_ ≠ ((.slice Ao15 t9.length co15):Value).ownBlock∧some k_ ≠ ((.slice Ao18 t12.length co18):Value).ownBlock∧some k_ ≠ ((.slice Ao19 t15.length co19):Value).ownBlock∧some k_ ≠ ((.slice Ao23 t20.length co23):Value).ownBlock∧some k_ ≠ ((.slice Ao27 t23.length co27):Value).ownBlock) (.slice Ao28 t26.length co28) t26)∧Aside0 (wc.heap[gb8]? = some (.cells #[(.slice Ao10 t2.length co10),(.slice Ao12 t5.length co12)] 27 (0,0)))∧Aside0 (wc.heap[gb19]? = some (.cells #[(.slice Ao15 t9.length co15),(.slice Ao18 t12.length co18),(.slice Ao19 t15.length co19)] 31 (0,0)))∧Aside0 (wc.heap[gb30]? = some (.cells #[(.slice Ao23 t20.length co23),(.slice Ao27 t23.length co27),(.slice Ao28 t26.length co28)] 31 (0,0)))∧Aside0 (Below w.heap.size w wc))
  case first =>
   have H:=HC7.out
   clear HC7
   by_cases c29:(t18 != t29)=true
   · rw [if_pos c29] at H
     exact absurd ((laws_FnMonoid.j0_no H).trans HRT_.out) (by decide)
   · rw [if_neg c29] at H
     have c29b0:(t18 != t29)=false:=by simpa using c29
     (try (have c29b1:decide (t18=t29)=true:=by simpa using c29))
     (try (have c29b2:(t18 == t29)=true:=by simpa using c29))
     clear c29
     (first|rw [c29b0]|(simp only [i64_w,i32_w];rw [c29b0])|skip)
     obtain ⟨t31,A30,H⟩:=zO H
     try dsimp only at H
     have H':=zk H
     clear H
     have hnb31:=NB19_8.out
     have hnc31:=NB8_19.out
     have hnb32:=NB19_30.out
     have hnc32:=NB30_19.out
     obtain ⟨hcz33_0,hcz33_1,hcz33_2,hfz33_0,hfz33_1,hfz33_2⟩:=blk3 BK19.out
     have hnb34:=NB30_8.out
     have hnc34:=NB8_30.out
     obtain ⟨hcz35_0,hcz35_1,hcz35_2,hfz35_0,hfz35_1,hfz35_2⟩:=blk3 BK30.out
     go_wp2_with (first|(go_at_call 8;(with_reducible refine (impl_EqualMonoid.calls k _ _ t9 _ _ t12 _ _ t15 _ _ t20 _ _ t23 _ _ t26 t31 _ ?side1 ?side2 ?side3 ?side4 ?side5 ?side6 ?side7 ?side8 ?side9 ?side10 ?side11 ?side12 A30.out).mono ?_);(case side1=>refine (Kd.S_reads' (e:=29) (base:=w.heap.size) (ok:=fun k_=>(((((some k_ ≠ (.slice Ao18 t12.length co18:Value).ownBlock∧some k_ ≠ (.slice Ao19 t15.length co19:Value).ownBlock)∧some k_ ≠ (.slice Ao12 t5.length co12:Value).ownBlock)∧some k_ ≠ (.slice Ao23 t20.length co23:Value).ownBlock)∧some k_ ≠ (.slice Ao27 t23.length co27:Value).ownBlock)∧some k_ ≠ (.slice Ao28 t26.length co28:Value).ownBlock)) (n:=t9.length) (c:=co15) ?_).2.2;exact za96);(case side2=>exact (Kd.S_reads' HO11.out).2.1);(case side3=>refine (Kd.R_reads' (e:=3) (base:=w.heap.size) (ok:=fun k_=>(True∧some k_ ≠ (.slice Ao27 t23.length co27:Value).ownBlock)) (n:=t12.length) (c:=co18) ?_).2.2;exact za102);(case side4=>exact (Kd.R_reads' HO14.out).2.1);(case side5=>refine (Kd.S_reads' (e:=29) (base:=w.heap.size) (ok:=fun k_=>(((((some k_ ≠ (.slice Ao15 t9.length co15:Value).ownBlock∧some k_ ≠ (.slice Ao18 t12.length co18:Value).ownBlock)∧some k_ ≠ (.slice Ao12 t5.length co12:Value).ownBlock)∧some k_ ≠ (.slice Ao23 t20.length co23:Value).ownBlock)∧some k_ ≠ (.slice Ao27 t23.length co27:Value).ownBlock)∧some k_ ≠ (.slice Ao28 t26.length co28:Value).ownBlock)) (n:=t15.length) (c:=co19) ?_).2.2;exact za94);(case side6=>exact (Kd.S_reads' HO17.out).2.1);(case side7=>refine (Kd.S_reads' (e:=29) (base:=w.heap.size) (ok:=fun k_=>(((((some k_ ≠ (.slice Ao27 t23.length co27:Value).ownBlock∧some k_ ≠ (.slice Ao28 t26.length co28:Value).ownBlock)∧some k_ ≠ (.slice Ao12 t5.length co12:Value).ownBlock)∧some k_ ≠ (.slice Ao15 t9.length co15:Value).ownBlock)∧some k_ ≠ (.slice Ao18 t12.length co18:Value).ownBlock)∧some k_ ≠ (.slice Ao19 t15.length co19:Value).ownBlock)) (n:=t20.length) (c:=co23) ?_).2.2;exact za93);(case side8=>exact (Kd.S_reads' HO22.out).2.1);(case side9=>refine (Kd.R_reads' (e:=3) (base:=w.heap.size) (ok:=fun k_=>(True∧some k_ ≠ (.slice Ao18 t12.length co18:Value).ownBlock)) (n:=t23.length) (c:=co27) ?_).2.2;exact za101);(case side10=>exact (Kd.R_reads' HO25.out).2.1);(case side11=>refine (Kd.S_reads' (e:=29) (base:=w.heap.size) (ok:=fun k_=>(((((some k_ ≠ (.slice Ao23 t20.length co23:Value).ownBlock∧some k_ ≠ (.slice Ao27 t23.length co27:Value).ownBlock)∧some k_ ≠ (.slice Ao12 t5.length co12:Value).ownBlock)∧some k_ ≠ (.slice Ao15 t9.length co15:Value).ownBlock)∧some k_ ≠ (.slice Ao18 t12.length co18:Value).ownBlock)∧some k_ ≠ (.slice Ao19 t15.length co19:Value).ownBlock)) (n:=t26.length) (c:=co28) ?_).2.2;exact za92);(case side12=>exact (Kd.S_reads' HO28.out).2.1);rintro e w36 ⟨rfl,hb⟩;replace HO4:=zk (Kd.R_below (by (with_reducible repeat (first|apply Kd.R_alloc|apply Kd.R_drewN|apply Kd.R_drew));exact (Kd.R_mono (zfR (zfR (zfR (Kd.R_types HO4.out BK30.out (by decide))))) (fun _ h_=>h_.1))) hb);replace HO7:=zk (Kd.S_below (by (with_reducible repeat (first|apply Kd.S_alloc|apply Kd.S_drewN|apply Kd.S_drew));exact (Kd.S_mono (zfS (zfS (zfS (Kd.S_types HO7.out BK30.out (by decide))))) (fun _ h_=>h_.1))) hb);replace HO11:=zk (Kd.S_below za96 hb);replace HO14:=zk (Kd.R_below za102 hb);replace HO17:=zk (Kd.S_below za94 hb);replace HO22:=zk (Kd.S_below za93 hb);replace HO25:=zk (Kd.R_below za101 hb);replace HO28:=zk (Kd.S_below za92 hb);replace BK8:=zk (blk_below (g:=gb8) (o:=.cells #[.slice Ao10 t2.length co10,.slice Ao12 t5.length co12] 27 (0,0)) (zpw BK8.out) hb);replace BK19:=zk (blk_below (g:=gb19) (o:=.cells #[.slice Ao15 t9.length co15,.slice Ao18 t12.length co18,.slice Ao19 t15.length co19] 31 (0,0)) (zpw BK19.out) hb);replace HB:=yB HB hb;replace BK30:=zk (blk_below (g:=gb30) (o:=.cells #[.slice Ao23 t20.length co23,.slice Ao27 t23.length co27,.slice Ao28 t26.length co28] 31 (0,0)) (zpu BK30.out) hb);(try clear hb)))
     go_meet
     case rel=>exact ⟨_,(!t31),za13,H',⟨za62⟩,⟨za1 HO4.out⟩,⟨by (with_reducible repeat (first|apply Kd.S_alloc|apply Kd.S_drewN|apply Kd.S_drew));exact Kd.S_mono HO7.out (fun _ hk=>⟨hk.1.1.1.1.1.2,⟨hk.1.1.1.1.2,⟨hk.1.1.1.2,⟨hk.1.1.2,⟨hk.1.2,hk.2⟩⟩⟩⟩⟩)⟩,⟨by (with_reducible repeat (first|apply Kd.S_alloc|apply Kd.S_drewN|apply Kd.S_drew));exact Kd.S_mono HO11.out (fun _ hk=>⟨hk.1.1.1.2,⟨hk.1.1.1.1.1,⟨hk.1.1.1.1.2,⟨hk.1.1.2,⟨hk.1.2,hk.2⟩⟩⟩⟩⟩)⟩,⟨by (with_reducible repeat (first|apply Kd.R_alloc|apply Kd.R_drewN|apply Kd.R_drew));exact Kd.R_mono HO14.out (fun _ hk=>hk.2)⟩,⟨by (with_reducible repeat (first|apply Kd.S_alloc|apply Kd.S_drewN|apply Kd.S_drew));exact Kd.S_mono HO17.out (fun _ hk=>⟨hk.1.1.1.2,⟨hk.1.1.1.1.1,⟨hk.1.1.1.1.2,⟨hk.1.1.2,⟨hk.1.2,hk.2⟩⟩⟩⟩⟩)⟩,⟨by (with_reducible repeat (first|apply Kd.S_alloc|apply Kd.S_drewN|apply Kd.S_drew));exact Kd.S_mono HO22.out (fun _ hk=>⟨hk.1.1.1.2,⟨hk.1.1.2,⟨hk.1.2,⟨hk.2,⟨hk.1.1.1.1.1,hk.1.1.1.1.2⟩⟩⟩⟩⟩)⟩,⟨by (with_reducible repeat (first|apply Kd.R_alloc|apply Kd.R_drewN|apply Kd.R_drew));exact Kd.R_mono HO25.out (fun _ hk=>hk.2)⟩,⟨by (with_reducible repeat (first|apply Kd.S_alloc|apply Kd.S_drewN|apply Kd.S_drew));exact Kd.S_mono HO28.out (fun _ hk=>⟨hk.1.1.1.2,⟨hk.1.1.2,⟨hk.1.2,⟨hk.2,⟨hk.1.1.1.1.1,hk.1.1.1.1.2⟩⟩⟩⟩⟩)⟩,⟨za0 BK8.out⟩,⟨za0 BK19.out⟩,⟨za0 BK30.out⟩,⟨za3⟩⟩
  case rest =>
   clear HC7
   try clear c3
   try clear hcz11_0
   try clear hcz11_1
   try clear hcz17_0
   try clear hcz17_1
   try clear hcz17_2
   try clear hcz20_0
   try clear hcz20_1
   try clear hcz26_0
   try clear hcz26_1
   try clear hcz26_2
   try clear hfz11_0
   try clear hfz11_1
   try clear hfz17_0
   try clear hfz17_1
   try clear hfz17_2
   try clear hfz20_0
   try clear hfz20_1
   try clear hfz26_0
   try clear hfz26_1
   try clear hfz26_2
   obtain ⟨kq,x56_6,rfl,HA,HJ6,HO_3009000,HO_3009001,HO_3020000,HO_3020001,HO_3020002,HO_3031000,HO_3031001,HO_3031002,BK8,BK19,BK30,HB⟩:=hcut
   cases kq with
   | zero=>exact absurd HA.out (by simp [laws_FnMonoid.j0])
   | succ kj6 =>
    have H:=HA.out
    clear HA
    simp only [laws_FnMonoid.j0] at H
    by_cases c37:x56_6=true
    · subst c37
      have H1:(some false)=some r:=by rw [if_pos rfl] at H;exact H
      exact absurd ((zi H1).trans HRT_.out) (by decide)
    · replace c37:=Bool.eq_false_iff.mpr c37
      subst c37
      rw [if_neg zff] at H
      try dsimp only at H
      obtain ⟨t32,A38,H⟩:=zO H
      try dsimp only at H
      have H':=zk H
      clear H
      go_wp2_with (first|((with_reducible refine gate_callee (f:=9) rfl ?_);refine zg (some 57) Try.func9 #[.int .i64 2] rfl za4 ?_;(with_reducible refine (spec_WordsUpTo.calls kj6 2 t32 _ A38.out).mono ?_);rintro e w39 ⟨v33,rfl,ho0,hb⟩;refine ⟨_,rfl,?_⟩;replace HO_3009000:=zk (Kd.R_below (za1 HO_3009000.out) hb);replace HO_3009001:=zk (Kd.S_below (za2 HO_3009001.out) hb);replace HO_3020000:=zk (Kd.S_below (za2 HO_3020000.out) hb);replace HO_3020001:=zk (Kd.R_below (za1 HO_3020001.out) hb);replace HO_3020002:=zk (Kd.S_below (za2 HO_3020002.out) hb);replace HO_3031000:=zk (Kd.S_below (za2 HO_3031000.out) hb);replace HO_3031001:=zk (Kd.R_below (za1 HO_3031001.out) hb);replace HO_3031002:=zk (Kd.S_below (za2 HO_3031002.out) hb);have HO34:=zk (Kd.R_lower ho0 (below_size za3));replace BK8:=yb BK8 hb;replace BK19:=yb BK19 hb;replace BK30:=yb BK30 hb;replace HB:=yB HB hb;(try clear hb ho0)))
      try simp only [Act.put,zt,zv,zu]
      go_loopg [9] kj6 (fun kq v9 w'=>∃ (x9_2:Int),v9 = .int .i64 x9_2∧Aside0 (laws_FnMonoid.l0 kq l0 t18 t32 x9_2 t2 t5 t9 t12 t15=some r)∧Aside0 (kq≤kj6)∧Aside0 (Kd.R Kd.string 9 w' w.heap.size (fun _=>True) v33 t32)∧Aside0 (Kd.R Kd.bool 4 w' w.heap.size (fun _=>True) (.slice Ao10 t2.length co10) t2)∧Aside0 (Kd.S (Kd.slice 3 (Kd.int .i64)) 29 w' w.heap.size (fun k_=>some k_ ≠ ((.slice Ao15 t9.length co15):Value).ownBlock∧some k_ ≠ ((.slice Ao18 t12.length co18):Value).ownBlock∧some k_ ≠ ((.slice Ao19 t15.length co19):Value).ownBlock∧some k_ ≠ ((.slice Ao23 t20.length co23):Value).ownBlock∧some k_ ≠ ((.slice Ao27 t23.length co27):Value).ownBlock∧some k_ ≠ ((.slice Ao28 t26.length co28):Value).ownBlock) (.slice Ao12 t5.length co12) t5)∧Aside0 (Kd.S (Kd.slice 3 (Kd.int .i64)) 29 w' w.heap.size (fun k_=>some k_ ≠ ((.slice Ao12 t5.length co12):Value).ownBlock∧some k_ ≠ ((.slice Ao18 t12.length co18):Value).ownBlock∧some k_ ≠ ((.slice Ao19 t15.length co19):Value).ownBlock∧some k_ ≠ ((.slice Ao23 t20.length co23):Value).ownBlock∧some k_ ≠ ((.slice Ao27 t23.length co27):Value).ownBlock∧some k_ ≠ ((.slice Ao28 t26.length co28):Value).ownBlock) (.slice Ao15 t9.length co15) t9)∧Aside0 (Kd.R (Kd.int .i64) 3 w' w.heap.size (fun k_=>some k_ ≠ ((.slice Ao27 t23.length co27):Value).ownBlock) (.slice Ao18 t12.length co18) t12)∧Aside0 (Kd.S (Kd.slice 3 (Kd.int .i64)) 29 w' w.heap.size (fun k_=>some k_ ≠ ((.slice Ao12 t5.length co12):Value).ownBlock∧some k_ ≠ ((.slice Ao15 t9.length co15):Value).ownBlock∧some k_ ≠ ((.slice Ao18 t12.length co18):Value).ownBlock∧some k_ ≠ ((.slice Ao23 t20.length co23):Value).ownBlock∧some k_ ≠ ((.slice Ao27 t23.length co27):Value).ownBlock∧some k_ ≠ ((.slice Ao28 t26.length co28):Value).ownBlock) (.slice Ao19 t15.length co19) t15)∧Aside0 (Kd.S (Kd.slice 3 (Kd.int .i64)) 29 w' w.heap.size (fun k_=>some k_ ≠ ((.slice Ao12 t5.length co12):Value).ownBlock∧some k_ ≠ ((.slice Ao15 t9.length co15):Value).ownBlock∧some k_ ≠ ((.slice Ao18 t12.length co18):Value).ownBlock∧some k_ ≠ ((.slice Ao19 t15.length co19):Value).ownBlock∧some k_ ≠ ((.slice Ao27 t23.length co27):Value).ownBlock∧some k_ ≠ ((.slice Ao28 t26.length co28):Value).ownBlock) (.slice Ao23 t20.length co23) t20)∧Aside0 (Kd.R (Kd.int .i64) 3 w' w.heap.size (fun k_=>some k_ ≠ ((.slice Ao18 t12.length co18):Value).ownBlock) (.slice Ao27 t23.length co27) t23)∧Aside0 (Kd.S (Kd.slice 3 (Kd.int .i64)) 29 w' w.heap.size (fun k_=>some k_ ≠ ((.slice Ao12 t5.length co12):Value).ownBlock∧some k_ ≠ ((.slice Ao15 t9.length co15):Value).ownBlock∧some k_ ≠ ((.slice Ao18 t12.length co18):Value).ownBlock∧some k_ ≠ ((.slice Ao19 t15.length co19):Value).ownBlock∧some k_ ≠ ((.slice Ao23 t20.length co23):Value).ownBlock∧some k_ ≠ ((.slice Ao27 t23.length co27):Value).ownBlock) (.slice Ao28 t26.length co28) t26)∧Aside0 (w'.heap[gb8]? = some (.cells #[(.slice Ao10 t2.length co10),(.slice Ao12 t5.length co12)] 27 (0,0)))∧Aside0 (w'.heap[gb19]? = some (.cells #[(.slice Ao15 t9.length co15),(.slice Ao18 t12.length co18),(.slice Ao19 t15.length co19)] 31 (0,0)))∧Aside0 (w'.heap[gb30]? = some (.cells #[(.slice Ao23 t20.length co23),(.slice Ao27 t23.length co27),(.slice Ao28 t26.length co28)] 31 (0,0)))∧Aside0 (Below w.heap.size w w'))
      case atStart=>exact ⟨(0),za13,H',⟨Nat.le_refl _⟩,⟨za1 HO34.out⟩,⟨za1 HO_3009000.out⟩,⟨za2 HO_3009001.out⟩,⟨za2 HO_3020000.out⟩,⟨za1 HO_3020001.out⟩,⟨za2 HO_3020002.out⟩,⟨za2 HO_3031000.out⟩,⟨za1 HO_3031001.out⟩,⟨za2 HO_3031002.out⟩,⟨za0 BK8.out⟩,⟨za0 BK19.out⟩,⟨za0 BK30.out⟩,⟨za3⟩⟩
      case round =>
       clear H'
       try clear c3
       try clear c37
       try clear hcz11_0
       try clear hcz11_1
       try clear hcz17_0
       try clear hcz17_1
       try clear hcz17_2
       try clear hcz20_0
       try clear hcz20_1
       try clear hcz26_0
       try clear hcz26_1
       try clear hcz26_2
       try clear hfz11_0
       try clear hfz11_1
       try clear hfz17_0
       try clear hfz17_1
       try clear hfz17_2
       try clear hfz20_0
       try clear hfz20_1
       try clear hfz26_0
       try clear hfz26_1
       try clear hfz26_2
       obtain ⟨x9_2,rfl,HA,HK2,HO_8,HO_3009000,HO_3009001,HO_3020000,HO_3020001,HO_3020002,HO_3031000,HO_3031001,HO_3031002,BK8,BK19,BK30,HB⟩:=hrel
       cases gk with
       | zero=>exact absurd HA.out (by simp [laws_FnMonoid.l0])
       | succ k2 =>
        have H:=HA.out
        clear HA
        simp only [laws_FnMonoid.l0] at H
        have HC40:=zk H
        clear H
        go_upto_region 10 with (fail)
        go_cut [64] (fun v64 wc=>∃ (kq:Nat) (x64_39:Bool),v64 = .bool x64_39∧Aside0 (laws_FnMonoid.j2 kq l0 t18 t32 x9_2 x64_39 t2 t5 t9 t12 t15=some r)∧Aside0 (kq≤k2)∧Aside0 (Kd.R Kd.string 9 wc w.heap.size (fun _=>True) v33 t32)∧Aside0 (Kd.R Kd.bool 4 wc w.heap.size (fun _=>True) (.slice Ao10 t2.length co10) t2)∧Aside0 (Kd.S (Kd.slice 3 (Kd.int .i64)) 29 wc w.heap.size (fun k_=>some k_ ≠ ((.slice Ao15 t9.length co15):Value).ownBlock∧some k_ ≠ ((.slice Ao18 t12.length co18):Value).ownBlock∧some k_ ≠ ((.slice Ao19 t15.length co19):Value).ownBlock∧some k_ ≠ ((.slice Ao23 t20.length co23):Value).ownBlock∧some k_ ≠ ((.slice Ao27 t23.length co27):Value).ownBlock∧some k_ ≠ ((.slice Ao28 t26.length co28):Value).ownBlock) (.slice Ao12 t5.length co12) t5)∧Aside0 (Kd.S (Kd.slice 3 (Kd.int .i64)) 29 wc w.heap.size (fun k_=>some k_ ≠ ((.slice Ao12 t5.length co12):Value).ownBlock∧some k_ ≠ ((.slice Ao18 t12.length co18):Value).ownBlock∧some k_ ≠ ((.slice Ao19 t15.length co19):Value).ownBlock∧some k_ ≠ ((.slice Ao23 t20.length co23):Value).ownBlock∧some k_ ≠ ((.slice Ao27 t23.length co27):Value).ownBlock∧some k_ ≠ ((.slice Ao28 t26.length co28):Value).ownBlock) (.slice Ao15 t9.length co15) t9)∧Aside0 (Kd.R (Kd.int .i64) 3 wc w.heap.size (fun k_=>some k_ ≠ ((.slice Ao27 t23.length co27):Value).ownBlock) (.slice Ao18 t12.length co18) t12)∧Aside0 (Kd.S (Kd.slice 3 (Kd.int .i64)) 29 wc w.heap.size (fun k_=>some k_ ≠ ((.slice Ao12 t5.length co12):Value).ownBlock∧some k_ ≠ ((.slice Ao15 t9.length co15):Value).ownBlock∧some k_ ≠ ((.slice Ao18 t12.length co18):Value).ownBlock∧some k_ ≠ ((.slice Ao23 t20.length co23):Value).ownBlock∧some k_ ≠ ((.slice Ao27 t23.length co27):Value).ownBlock∧some k_ ≠ ((.slice Ao28 t26.length co28):Value).ownBlock) (.slice Ao19 t15.length co19) t15)∧Aside0 (Kd.S (Kd.slice 3 (Kd.int .i64)) 29 wc w.heap.size (fun k_=>some k_ ≠ ((.slice Ao12 t5.length co12):Value).ownBlock∧some k_ ≠ ((.slice Ao15 t9.length co15):Value).ownBlock∧some k_ ≠ ((.slice Ao18 t12.length co18):Value).ownBlock∧some k_ ≠ ((.slice Ao19 t15.length co19):Value).ownBlock∧some k_ ≠ ((.slice Ao27 t23.length co27):Value).ownBlock∧some k_ ≠ ((.slice Ao28 t26.length co28):Value).ownBlock) (.slice Ao23 t20.length co23) t20)∧Aside0 (Kd.R (Kd.int .i64) 3 wc w.heap.size (fun k_=>some k_ ≠ ((.slice Ao18 t12.length co18):Value).ownBlock) (.slice Ao27 t23.length co27) t23)∧Aside0 (Kd.S (Kd.slice 3 (Kd.int .i64)) 29 wc w.heap.size (fun k_=>some k_ ≠ ((.slice Ao12 t5.length co12):Value).ownBlock∧some k_ ≠ ((.slice Ao15 t9.length co15):Value).ownBlock∧some k_ ≠ ((.slice Ao18 t12.length co18):Value).ownBlock∧some k_ ≠ ((.slice Ao19 t15.length co19):Value).ownBlock∧some k_ ≠ ((.slice Ao23 t20.length co23):Value).ownBlock∧some k_ ≠ ((.slice Ao27 t23.length co27):Value).ownBlock) (.slice Ao28 t26.length co28) t26)∧Aside0 (wc.heap[gb8]? = some (.cells #[(.slice Ao10 t2.length co10),(.slice Ao12 t5.length co12)] 27 (0,0)))∧Aside0 (wc.heap[gb19]? = some (.cells #[(.slice Ao15 t9.length co15),(.slice Ao18 t12.length co18),(.slice Ao19 t15.length co19)] 31 (0,0)))∧Aside0 (wc.heap[gb30]? = some (.cells #[(.slice Ao23 t20.length co23),(.slice Ao27 t23.length co27),(.slice Ao28 t26.length co28)] 31 (0,0)))∧Aside0 (Below w.heap.size w wc))
        case first =>
         have H:=HC40.out
         clear HC40
         by_cases c41:x9_2 < (t32.length:Int)
         · rw [if_pos c41] at H
           have c41b0:=zdl c41
           clear c41
           (first|rw [c41b0]|(simp only [i64_w,i32_w];rw [c41b0])|skip)
           have H':=zk H
           clear H
           obtain ⟨Ao42,co42,eo42⟩:=Kd.R_slice HO_8.out
           subst eo42
           go_wp2
           go_meet
           case rel=>exact ⟨_,(t18),za13,H',⟨by have:=HJ6.out;have:=HK2.out;first|omega|exact Nat.le_refl _⟩,⟨za1 HO_8.out⟩,⟨za1 HO_3009000.out⟩,⟨za2 HO_3009001.out⟩,⟨za2 HO_3020000.out⟩,⟨za1 HO_3020001.out⟩,⟨za2 HO_3020002.out⟩,⟨za2 HO_3031000.out⟩,⟨za1 HO_3031001.out⟩,⟨za2 HO_3031002.out⟩,⟨za0 BK8.out⟩,⟨za0 BK19.out⟩,⟨za0 BK30.out⟩,⟨za3⟩⟩
         · rw [if_neg c41] at H
           have c41b0:=zdnl c41
           clear c41
           (first|rw [c41b0]|(simp only [i64_w,i32_w];rw [c41b0])|skip)
           have H':=zk H
           clear H
           obtain ⟨Ao43,co43,eo43⟩:=Kd.R_slice HO_8.out
           subst eo43
           go_wp2
           go_meet
           case rel=>exact ⟨_,(false),za13,H',⟨by have:=HJ6.out;have:=HK2.out;first|omega|exact Nat.le_refl _⟩,⟨za1 HO_8.out⟩,⟨za1 HO_3009000.out⟩,⟨za2 HO_3009001.out⟩,⟨za2 HO_3020000.out⟩,⟨za1 HO_3020001.out⟩,⟨za2 HO_3020002.out⟩,⟨za2 HO_3031000.out⟩,⟨za1 HO_3031001.out⟩,⟨za2 HO_3031002.out⟩,⟨za0 BK8.out⟩,⟨za0 BK19.out⟩,⟨za0 BK30.out⟩,⟨za3⟩⟩
        case rest =>
         clear HC40
         try clear c3
         try clear c37
         try clear hcz11_0
         try clear hcz11_1
         try clear hcz17_0
         try clear hcz17_1
         try clear hcz17_2
         try clear hcz20_0
         try clear hcz20_1
         try clear hcz26_0
         try clear hcz26_1
         try clear hcz26_2
         try clear hfz11_0
         try clear hfz11_1
         try clear hfz17_0
         try clear hfz17_1
         try clear hfz17_2
         try clear hfz20_0
         try clear hfz20_1
         try clear hfz26_0
         try clear hfz26_1
         try clear hfz26_2
         obtain ⟨kq,x64_39,rfl,HA,HJ39,HO_8,HO_3009000,HO_3009001,HO_3020000,HO_3020001,HO_3020002,HO_3031000,HO_3031001,HO_3031002,BK8,BK19,BK30,HB⟩:=hcut
         cases kq with
         | zero=>exact absurd HA.out (by simp [laws_FnMonoid.j2])
         | succ kj39 =>
          have H:=HA.out
          clear HA
          simp only [laws_FnMonoid.j2] at H
          by_cases c44:x64_39=true
          subst c44
          rw [if_pos rfl] at H
          try dsimp only at H
          by_cases c45:0≤x9_2
          rw [if_pos c45] at H
          have c45b0:=zdle c45
          clear c45
          by_cases c46:x9_2 < (t32.length:Int)
          · rw [if_pos c46] at H
            have c46b0:=zdl c46
            clear c46
            obtain ⟨⟨t36,t37⟩,A47,H⟩:=zO H
            try dsimp only at H
            have HC48:=zk H
            clear H
            try go_wp2
            replace HO_8:=zk (Kd.R_drew HO_8.out)
            replace HO_3009000:=zk (Kd.R_drew HO_3009000.out)
            replace HO_3009001:=zk (Kd.S_drew HO_3009001.out)
            replace HO_3020000:=zk (Kd.S_drew HO_3020000.out)
            replace HO_3020001:=zk (Kd.R_drew HO_3020001.out)
            replace HO_3020002:=zk (Kd.S_drew HO_3020002.out)
            replace HO_3031000:=zk (Kd.S_drew HO_3031000.out)
            replace HO_3031001:=zk (Kd.R_drew HO_3031001.out)
            replace HO_3031002:=zk (Kd.S_drew HO_3031002.out)
            replace BK8:=zk (blk_drew BK8.out)
            replace BK19:=zk (blk_drew BK19.out)
            replace BK30:=zk (blk_drew BK30.out)
            replace HB:=zk (below_drew1 HB.out)
            obtain ⟨Ao50,co50,eo50⟩:=Kd.R_slice HO_8.out
            (first|subst eo50|(injection eo50 with f1_ f2_ f3_;have f4_:=f1_.symm;have f5_:=f3_.symm;clear f1_ f2_ f3_;subst f4_;subst f5_))
            have p3035:0≤(x9_2:Int):=of_decide_eq_true za7
            have q3035:x9_2 < (t32.length:Int):=of_decide_eq_true za7
            obtain ⟨ad3035,e3035,hx3035_0⟩:=Kd.at_string (Kd.R_reads' HO_8.out).2.2 x9_2 p3035 q3035
            cases e3035
            replace p3035:=eq_true p3035
            replace q3035:=eq_true q3035
            refine start_ (n:=11) (S:=fun w'=>w'.cell? ⟨gb19,0,none⟩=some (.slice Ao15 t9.length co15)∧w'.cell? ⟨gb19,1,none⟩=some (.slice Ao18 t12.length co18)∧w'.cell? ⟨gb19,2,none⟩=some (.slice Ao19 t15.length co19)∧w'.cell? (ad3035.add (x9_2).toNat)=some (.string (rdOf ByteArray.empty t32 x9_2))) (ds:=[]) #[false,false,false,false,false,false,false,false,false,false,false] (by kernel_rfl) rfl rfl ⟨(blk_cell BK19.out 0).trans rfl,(blk_cell BK19.out 1).trans rfl,(blk_cell BK19.out 2).trans rfl,hx3035_0⟩ (fun hHeld=>?_);refine with_tabW laws_FnMonoid.tab12 laws_FnMonoid.bits12 (fun HT_ HW_=>?_)
            generalize wc.drew=w49 at HO_8 HO_3009000 HO_3009001 HO_3020000 HO_3020001 HO_3020002 HO_3031000 HO_3031001 HO_3031002 BK8 BK19 BK30 HB hx3035_0 hHeld ⊢
            refine zy 1 (some 69) HT_.out ?_
            refine zy 2 (some 70) HT_.out ?_
            refine zy 3 (some 71) HT_.out ?_
            refine ztk 0 (some 68) HT_.out HW_.out hHeld ?_
            refine ztk 4 (some 72) HT_.out HW_.out hHeld ?_
            refine zon 5 (some 73) HT_.out (fun K hK=>?_)
            refine goes_ Try.func10 (by kernel_rfl) rfl #[.agg #[.slice Ao15 t9.length co15,.slice Ao18 t12.length co18,.slice Ao19 t15.length co19],.string (rdOf ByteArray.empty t32 x9_2)] (by rfl) rfl rfl za4 ?_
            with_reducible refine (impl_MapOf.calls kj39 _ _ t9 _ _ t12 _ _ t15 (rdOf ByteArray.empty t32 x9_2) t36 t37 _ ?side1 ?side2 ?side3 ?side4 ?side5 ?side6 A47.out).mono ?_
            (case side1=>repeat (first|exact (Kd.S_reads' HO_3020000.out).2.2|(with_reducible refine Kd.C_alloc ?_ _)|(with_reducible refine Kd.C_drewN ?_ _)|(with_reducible refine Kd.C_drew ?_)))
            (case side2=>exact (Kd.S_reads' HO_3020000.out).2.1)
            (case side3=>repeat (first|exact (Kd.R_reads' HO_3020001.out).2.2|(with_reducible refine Kd.C_alloc ?_ _)|(with_reducible refine Kd.C_drewN ?_ _)|(with_reducible refine Kd.C_drew ?_)))
            (case side4=>exact (Kd.R_reads' HO_3020001.out).2.1)
            (case side5=>repeat (first|exact (Kd.S_reads' HO_3020002.out).2.2|(with_reducible refine Kd.C_alloc ?_ _)|(with_reducible refine Kd.C_drewN ?_ _)|(with_reducible refine Kd.C_drew ?_)))
            (case side6=>exact (Kd.S_reads' HO_3020002.out).2.1)
            rintro e w51 ⟨rfl,hb⟩
            have HS3_:=(hb.cell (World.block_lt_of_cell? _ _ (hHeld.2.2.2))).trans (hHeld.2.2.2)
            refine ⟨_,rfl,?_⟩
            replace HO_8:=zk (Kd.R_below (za1 HO_8.out) hb)
            replace HO_3009000:=zk (Kd.R_below (za1 HO_3009000.out) hb)
            replace HO_3009001:=zk (Kd.S_below (za2 HO_3009001.out) hb)
            replace HO_3020000:=zk (Kd.S_below (za2 HO_3020000.out) hb)
            replace HO_3020001:=zk (Kd.R_below (za1 HO_3020001.out) hb)
            replace HO_3020002:=zk (Kd.S_below (za2 HO_3020002.out) hb)
            replace HO_3031000:=zk (Kd.S_below (za2 HO_3031000.out) hb)
            replace HO_3031001:=zk (Kd.R_below (za1 HO_3031001.out) hb)
            replace HO_3031002:=zk (Kd.S_below (za2 HO_3031002.out) hb)
            replace BK8:=yb BK8 hb
            replace BK19:=yb BK19 hb
            replace BK30:=yb BK30 hb
            replace HB:=yB HB hb
            (try clear hb)
            (try clear hb2)
            (try clear hk)
            (try clear hi)
            refine hK.out _ _ ⟨(blk_cell BK19.out 0).trans rfl,(blk_cell BK19.out 1).trans rfl,(blk_cell BK19.out 2).trans rfl,HS3_⟩ (fun hHeld=>?_)
            clear hK K
            refine zno (some 73) ?_
            refine zy 6 (some 67) HT_.out ?_
            refine zy 7 (some 74) HT_.out ?_
            refine zy 8 (some 75) HT_.out ?_
            refine zy 9 (some 10) HT_.out ?_
            refine zy 10 (some 11) HT_.out ?_
            refine done_ (done_of HT_.out (by kernel_rfl)) ?_
            go_upto_region 13 with (fail)
            go_cut [84] (fun v84 wc=>∃ (kq:Nat) (x84_47:Bool),v84 = .bool x84_47∧Aside0 (laws_FnMonoid.j3 kq l0 t18 t32 x9_2 t36 x84_47 t2 t5 t9 t12 t15=some r)∧Aside0 (kq≤kj39)∧Aside0 (Kd.R Kd.string 9 wc w.heap.size (fun _=>True) (.slice (some ad3035) t32.length co50) t32)∧Aside0 (Kd.R Kd.bool 4 wc w.heap.size (fun _=>True) (.slice Ao10 t2.length co10) t2)∧Aside0 (Kd.S (Kd.slice 3 (Kd.int .i64)) 29 wc w.heap.size (fun k_=>some k_ ≠ ((.slice Ao15 t9.length co15):Value).ownBlock∧some k_ ≠ ((.slice Ao18 t12.length co18):Value).ownBlock∧some k_ ≠ ((.slice Ao19 t15.length co19):Value).ownBlock∧some k_ ≠ ((.slice Ao23 t20.length co23):Value).ownBlock∧some k_ ≠ ((.slice Ao27 t23.length co27):Value).ownBlock∧some k_ ≠ ((.slice Ao28 t26.length co28):Value).ownBlock) (.slice Ao12 t5.length co12) t5)∧Aside0 (Kd.S (Kd.slice 3 (Kd.int .i64)) 29 wc w.heap.size (fun k_=>some k_ ≠ ((.slice Ao12 t5.length co12):Value).ownBlock∧some k_ ≠ ((.slice Ao18 t12.length co18):Value).ownBlock∧some k_ ≠ ((.slice Ao19 t15.length co19):Value).ownBlock∧some k_ ≠ ((.slice Ao23 t20.length co23):Value).ownBlock∧some k_ ≠ ((.slice Ao27 t23.length co27):Value).ownBlock∧some k_ ≠ ((.slice Ao28 t26.length co28):Value).ownBlock) (.slice Ao15 t9.length co15) t9)∧Aside0 (Kd.R (Kd.int .i64) 3 wc w.heap.size (fun k_=>some k_ ≠ ((.slice Ao27 t23.length co27):Value).ownBlock) (.slice Ao18 t12.length co18) t12)∧Aside0 (Kd.S (Kd.slice 3 (Kd.int .i64)) 29 wc w.heap.size (fun k_=>some k_ ≠ ((.slice Ao12 t5.length co12):Value).ownBlock∧some k_ ≠ ((.slice Ao15 t9.length co15):Value).ownBlock∧some k_ ≠ ((.slice Ao18 t12.length co18):Value).ownBlock∧some k_ ≠ ((.slice Ao23 t20.length co23):Value).ownBlock∧some k_ ≠ ((.slice Ao27 t23.length co27):Value).ownBlock∧some k_ ≠ ((.slice Ao28 t26.length co28):Value).ownBlock) (.slice Ao19 t15.length co19) t15)∧Aside0 (Kd.S (Kd.slice 3 (Kd.int .i64)) 29 wc w.heap.size (fun k_=>some k_ ≠ ((.slice Ao12 t5.length co12):Value).ownBlock∧some k_ ≠ ((.slice Ao15 t9.length co15):Value).ownBlock∧some k_ ≠ ((.slice Ao18 t12.length co18):Value).ownBlock∧some k_ ≠ ((.slice Ao19 t15.length co19):Value).ownBlock∧some k_ ≠ ((.slice Ao27 t23.length co27):Value).ownBlock∧some k_ ≠ ((.slice Ao28 t26.length co28):Value).ownBlock) (.slice Ao23 t20.length co23) t20)∧Aside0 (Kd.R (Kd.int .i64) 3 wc w.heap.size (fun k_=>some k_ ≠ ((.slice Ao18 t12.length co18):Value).ownBlock) (.slice Ao27 t23.length co27) t23)∧Aside0 (Kd.S (Kd.slice 3 (Kd.int .i64)) 29 wc w.heap.size (fun k_=>some k_ ≠ ((.slice Ao12 t5.length co12):Value).ownBlock∧some k_ ≠ ((.slice Ao15 t9.length co15):Value).ownBlock∧some k_ ≠ ((.slice Ao18 t12.length co18):Value).ownBlock∧some k_ ≠ ((.slice Ao19 t15.length co19):Value).ownBlock∧some k_ ≠ ((.slice Ao23 t20.length co23):Value).ownBlock∧some k_ ≠ ((.slice Ao27 t23.length co27):Value).ownBlock) (.slice Ao28 t26.length co28) t26)∧Aside0 (wc.heap[gb8]? = some (.cells #[(.slice Ao10 t2.length co10),(.slice Ao12 t5.length co12)] 27 (0,0)))∧Aside0 (wc.heap[gb19]? = some (.cells #[(.slice Ao15 t9.length co15),(.slice Ao18 t12.length co18),(.slice Ao19 t15.length co19)] 31 (0,0)))∧Aside0 (wc.heap[gb30]? = some (.cells #[(.slice Ao23 t20.length co23),(.slice Ao27 t23.length co27),(.slice Ao28 t26.length co28)] 31 (0,0)))∧Aside0 (Below w.heap.size w wc))
            case first =>
             have H:=HC48.out
             clear HC48
             by_cases c52:t37=true
             · subst c52
               rw [if_pos rfl] at H
               try dsimp only at H
               have H':=zk H
               clear H
               have hnb53:=NB19_8.out
               have hnc53:=NB8_19.out
               have hnb54:=NB19_30.out
               have hnc54:=NB30_19.out
               obtain ⟨hcz55_0,hcz55_1,hcz55_2,hfz55_0,hfz55_1,hfz55_2⟩:=blk3 BK19.out
               go_wp2
               go_meet
               case rel=>exact ⟨_,(decide (t36 ≥ (t9.length:Int))),za13,H',⟨by have:=HJ6.out;have:=HK2.out;have:=HJ39.out;first|omega|exact Nat.le_refl _⟩,⟨za1 HO_8.out⟩,⟨za1 HO_3009000.out⟩,⟨za2 HO_3009001.out⟩,⟨za2 HO_3020000.out⟩,⟨za1 HO_3020001.out⟩,⟨za2 HO_3020002.out⟩,⟨za2 HO_3031000.out⟩,⟨za1 HO_3031001.out⟩,⟨za2 HO_3031002.out⟩,⟨za0 BK8.out⟩,⟨za0 BK19.out⟩,⟨za0 BK30.out⟩,⟨za3⟩⟩
             · replace c52:=Bool.eq_false_iff.mpr c52
               subst c52
               have H1:(laws_FnMonoid.j3 kj39 l0 t18 t32 x9_2 t36 true t2 t5 t9 t12 t15)=some r:=by rw [if_neg zff] at H;exact H
               exact absurd ((laws_FnMonoid.j3_no H1).trans HRT_.out) (by decide)
            case rest =>
             clear HC48
             try clear c3
             try clear c37
             try clear hcz11_0
             try clear hcz11_1
             try clear hcz17_0
             try clear hcz17_1
             try clear hcz17_2
             try clear hcz20_0
             try clear hcz20_1
             try clear hcz26_0
             try clear hcz26_1
             try clear hcz26_2
             try clear hfz11_0
             try clear hfz11_1
             try clear hfz17_0
             try clear hfz17_1
             try clear hfz17_2
             try clear hfz20_0
             try clear hfz20_1
             try clear hfz26_0
             try clear hfz26_1
             try clear hfz26_2
             obtain ⟨kq,x84_47,rfl,HA,HJ47,HO_8,HO_3009000,HO_3009001,HO_3020000,HO_3020001,HO_3020002,HO_3031000,HO_3031001,HO_3031002,BK8,BK19,BK30,HB⟩:=hcut
             cases kq with
             | zero=>exact absurd HA.out (by simp [laws_FnMonoid.j3])
             | succ kj47 =>
              have H:=HA.out
              clear HA
              simp only [laws_FnMonoid.j3] at H
              by_cases c56:x84_47=true
              · subst c56
                have H1:(some false)=some r:=by rw [if_pos rfl] at H;exact H
                exact absurd ((zi H1).trans HRT_.out) (by decide)
              · replace c56:=Bool.eq_false_iff.mpr c56
                subst c56
                rw [if_neg zff] at H
                try dsimp only at H
                have H':=zk H
                clear H
                go_wp2
                try simp only [Act.put,zt,zv,zu]
                go_loopg [12] kj47 (fun kq v12 w'=>∃ (x12_5:Int),v12 = .int .i64 x12_5∧Aside0 (laws_FnMonoid.l1 kq l0 t18 t32 x9_2 t36 x12_5 t2 t5 t9 t12 t15=some r)∧Aside0 (kq≤kj47)∧Aside0 (Kd.R Kd.string 9 w' w.heap.size (fun _=>True) (.slice (some ad3035) t32.length co50) t32)∧Aside0 (Kd.R Kd.bool 4 w' w.heap.size (fun _=>True) (.slice Ao10 t2.length co10) t2)∧Aside0 (Kd.S (Kd.slice 3 (Kd.int .i64)) 29 w' w.heap.size (fun k_=>some k_ ≠ ((.slice Ao15 t9.length co15):Value).ownBlock∧some k_ ≠ ((.slice Ao18 t12.length co18):Value).ownBlock∧some k_ ≠ ((.slice Ao19 t15.length co19):Value).ownBlock∧some k_ ≠ ((.slice Ao23 t20.length co23):Value).ownBlock∧some k_ ≠ ((.slice Ao27 t23.length co27):Value).ownBlock∧some k_ ≠ ((.slice Ao28 t26.length co28):Value).ownBlock) (.slice Ao12 t5.length co12) t5)∧Aside0 (Kd.S (Kd.slice 3 (Kd.int .i64)) 29 w' w.heap.size (fun k_=>some k_ ≠ ((.slice Ao12 t5.length co12):Value).ownBlock∧some k_ ≠ ((.slice Ao18 t12.length co18):Value).ownBlock∧some k_ ≠ ((.slice Ao19 t15.length co19):Value).ownBlock∧some k_ ≠ ((.slice Ao23 t20.length co23):Value).ownBlock∧some k_ ≠ ((.slice Ao27 t23.length co27):Value).ownBlock∧some k_ ≠ ((.slice Ao28 t26.length co28):Value).ownBlock) (.slice Ao15 t9.length co15) t9)∧Aside0 (Kd.R (Kd.int .i64) 3 w' w.heap.size (fun k_=>some k_ ≠ ((.slice Ao27 t23.length co27):Value).ownBlock) (.slice Ao18 t12.length co18) t12)∧Aside0 (Kd.S (Kd.slice 3 (Kd.int .i64)) 29 w' w.heap.size (fun k_=>some k_ ≠ ((.slice Ao12 t5.length co12):Value).ownBlock∧some k_ ≠ ((.slice Ao15 t9.length co15):Value).ownBlock∧some k_ ≠ ((.slice Ao18 t12.length co18):Value).ownBlock∧some k_ ≠ ((.slice Ao23 t20.length co23):Value).ownBlock∧some k_ ≠ ((.slice Ao27 t23.length co27):Value).ownBlock∧some k_ ≠ ((.slice Ao28 t26.length co28):Value).ownBlock) (.slice Ao19 t15.length co19) t15)∧Aside0 (Kd.S (Kd.slice 3 (Kd.int .i64)) 29 w' w.heap.size (fun k_=>some k_ ≠ ((.slice Ao12 t5.length co12):Value).ownBlock∧some k_ ≠ ((.slice Ao15 t9.length co15):Value).ownBlock∧some k_ ≠ ((.slice Ao18 t12.length co18):Value).ownBlock∧some k_ ≠ ((.slice Ao19 t15.length co19):Value).ownBlock∧some k_ ≠ ((.slice Ao27 t23.length co27):Value).ownBlock∧some k_ ≠ ((.slice Ao28 t26.length co28):Value).ownBlock) (.slice Ao23 t20.length co23) t20)∧Aside0 (Kd.R (Kd.int .i64) 3 w' w.heap.size (fun k_=>some k_ ≠ ((.slice Ao18 t12.length co18):Value).ownBlock) (.slice Ao27 t23.length co27) t23)∧Aside0 (Kd.S (Kd.slice 3 (Kd.int .i64)) 29 w' w.heap.size (fun k_=>some k_ ≠ ((.slice Ao12 t5.length co12):Value).ownBlock∧some k_ ≠ ((.slice Ao15 t9.length co15):Value).ownBlock∧some k_ ≠ ((.slice Ao18 t12.length co18):Value).ownBlock∧some k_ ≠ ((.slice Ao19 t15.length co19):Value).ownBlock∧some k_ ≠ ((.slice Ao23 t20.length co23):Value).ownBlock∧some k_ ≠ ((.slice Ao27 t23.length co27):Value).ownBlock) (.slice Ao28 t26.length co28) t26)∧Aside0 (w'.heap[gb8]? = some (.cells #[(.slice Ao10 t2.length co10),(.slice Ao12 t5.length co12)] 27 (0,0)))∧Aside0 (w'.heap[gb19]? = some (.cells #[(.slice Ao15 t9.length co15),(.slice Ao18 t12.length co18),(.slice Ao19 t15.length co19)] 31 (0,0)))∧Aside0 (w'.heap[gb30]? = some (.cells #[(.slice Ao23 t20.length co23),(.slice Ao27 t23.length co27),(.slice Ao28 t26.length co28)] 31 (0,0)))∧Aside0 (Below w.heap.size w w'))
                case atStart=>exact ⟨(0),za13,H',⟨Nat.le_refl _⟩,⟨za1 HO_8.out⟩,⟨za1 HO_3009000.out⟩,⟨za2 HO_3009001.out⟩,⟨za2 HO_3020000.out⟩,⟨za1 HO_3020001.out⟩,⟨za2 HO_3020002.out⟩,⟨za2 HO_3031000.out⟩,⟨za1 HO_3031001.out⟩,⟨za2 HO_3031002.out⟩,⟨za0 BK8.out⟩,⟨za0 BK19.out⟩,⟨za0 BK30.out⟩,⟨za3⟩⟩
                case round =>
                 clear H'
                 try clear c3
                 try clear c37
                 try clear c56
                 try clear hcz11_0
                 try clear hcz11_1
                 try clear hcz17_0
                 try clear hcz17_1
                 try clear hcz17_2
                 try clear hcz20_0
                 try clear hcz20_1
                 try clear hcz26_0
                 try clear hcz26_1
                 try clear hcz26_2
                 try clear hfz11_0
                 try clear hfz11_1
                 try clear hfz17_0
                 try clear hfz17_1
                 try clear hfz17_2
                 try clear hfz20_0
                 try clear hfz20_1
                 try clear hfz26_0
                 try clear hfz26_1
                 try clear hfz26_2
                 obtain ⟨x12_5,rfl,HA,HK5,HO_8,HO_3009000,HO_3009001,HO_3020000,HO_3020001,HO_3020002,HO_3031000,HO_3031001,HO_3031002,BK8,BK19,BK30,HB⟩:=hrel
                 cases gk with
                 | zero=>exact absurd HA.out (by simp [laws_FnMonoid.l1])
                 | succ k5 =>
                  have H:=HA.out
                  clear HA
                  simp only [laws_FnMonoid.l1] at H
                  by_cases c57:x12_5 < (t2.length:Int)
                  rw [if_pos c57] at H
                  have c57b0:=zdl c57
                  clear c57
                  by_cases c58:0≤x9_2
                  rw [if_pos c58] at H
                  have c58b0:=zdle c58
                  clear c58
                  by_cases c59:x9_2 < (t32.length:Int)
                  rw [if_pos c59] at H
                  have c59b0:=zdl c59
                  clear c59
                  obtain ⟨⟨t39,t40⟩,A60,H⟩:=zO H
                  try dsimp only at H
                  by_cases c61:0≤t36
                  rw [if_pos c61] at H
                  have c61b0:=zdle c61
                  clear c61
                  by_cases c62:t36 < (t9.length:Int)
                  rw [if_pos c62] at H
                  have c62b0:=zdl c62
                  clear c62
                  by_cases c63:0≤x12_5
                  rw [if_pos c63] at H
                  have c63b0:=zdle c63
                  clear c63
                  by_cases c64:x12_5 < ((rd_L3 t9 t36).length:Int)
                  rw [if_pos c64] at H
                  have c64b0:=zdl c64
                  clear c64
                  by_cases c65:(rd (rd_L3 t9 t36) x12_5)=t39
                  ·rw [if_pos c65] at H
                   have c65b0:=zbt c65
                   have c65b1:=zqn c65
                   clear c65
                   have H':=zk H
                   clear H
                   have hnb66:=NB8_19.out
                   have hnc66:=NB19_8.out
                   have hnb67:=NB8_30.out
                   have hnc67:=NB30_8.out
                   obtain ⟨hcz68_0,hcz68_1,hfz68_0,hfz68_1⟩:=blk2 BK8.out
                   try go_wp2
                   replace HO_8:=zk (Kd.R_drew HO_8.out)
                   replace HO_3009000:=zk (Kd.R_drew HO_3009000.out)
                   replace HO_3009001:=zk (Kd.S_drew HO_3009001.out)
                   replace HO_3020000:=zk (Kd.S_drew HO_3020000.out)
                   replace HO_3020001:=zk (Kd.R_drew HO_3020001.out)
                   replace HO_3020002:=zk (Kd.S_drew HO_3020002.out)
                   replace HO_3031000:=zk (Kd.S_drew HO_3031000.out)
                   replace HO_3031001:=zk (Kd.R_drew HO_3031001.out)
                   replace HO_3031002:=zk (Kd.S_drew HO_3031002.out)
                   replace BK8:=zk (blk_drew BK8.out)
                   replace BK19:=zk (blk_drew BK19.out)
                   replace BK30:=zk (blk_drew BK30.out)
                   replace HB:=zk (below_drew1 HB.out)
                   have p3038:0≤(x9_2:Int):=of_decide_eq_true za7
                   have q3038:x9_2 < (t32.length:Int):=of_decide_eq_true za7
                   obtain ⟨ad3038,e3038,hx3038_0⟩:=Kd.at_string (Kd.R_reads' HO_8.out).2.2 x9_2 p3038 q3038
                   obtain rfl:ad3035=ad3038:=(by injection e3038)
                   replace p3038:=eq_true p3038
                   replace q3038:=eq_true q3038
                   refine start_ (n:=12) (S:=fun w'=>w'.cell? ⟨gb8,0,none⟩=some (.slice Ao10 t2.length co10)∧w'.cell? ⟨gb8,1,none⟩=some (.slice Ao12 t5.length co12)∧w'.cell? (ad3035.add (x9_2).toNat)=some (.string (rdOf ByteArray.empty t32 x9_2))) (ds:=[]) #[false,false,false,false,false,false,false,false,false,false,false,false] (by kernel_rfl) rfl rfl ⟨(blk_cell BK8.out 0).trans rfl,(blk_cell BK8.out 1).trans rfl,hx3038_0⟩ (fun hHeld=>?_);refine with_tabW laws_FnMonoid.tab18 laws_FnMonoid.bits18 (fun HT_ HW_=>?_)
                   generalize wr.drew=w69 at HO_8 HO_3009000 HO_3009001 HO_3020000 HO_3020001 HO_3020002 HO_3031000 HO_3031001 HO_3031002 BK8 BK19 BK30 HB hx3038_0 hHeld ⊢
                   refine zy 1 (some 94) HT_.out ?_
                   refine zy 2 (some 95) HT_.out ?_
                   refine zy 3 (some 96) HT_.out ?_
                   refine zy 4 (some 97) HT_.out ?_
                   refine ztk 0 (some 93) HT_.out HW_.out hHeld ?_
                   refine ztk 5 (some 98) HT_.out HW_.out hHeld ?_
                   refine zon 6 (some 99) HT_.out (fun K hK=>?_)
                   refine goes_ Try.func11 (by kernel_rfl) rfl #[.agg #[.slice Ao10 t2.length co10,.slice Ao12 t5.length co12],.int .i64 x12_5,.string (rdOf ByteArray.empty t32 x9_2)] (by rfl) rfl rfl za4 ?_
                   with_reducible refine (spec_RunDfa.calls k5 _ _ t2 _ _ t5 x12_5 (rdOf ByteArray.empty t32 x9_2) t39 t40 _ ?side1 ?side2 ?side3 ?side4 A60.out).mono ?_
                   (case side1=>repeat (first|exact (Kd.R_reads' HO_3009000.out).2.2|(with_reducible refine Kd.C_alloc ?_ _)|(with_reducible refine Kd.C_drewN ?_ _)|(with_reducible refine Kd.C_drew ?_)))
                   (case side2=>exact (Kd.R_reads' HO_3009000.out).2.1)
                   (case side3=>repeat (first|exact (Kd.S_reads' HO_3009001.out).2.2|(with_reducible refine Kd.C_alloc ?_ _)|(with_reducible refine Kd.C_drewN ?_ _)|(with_reducible refine Kd.C_drew ?_)))
                   (case side4=>exact (Kd.S_reads' HO_3009001.out).2.1)
                   rintro e w70 ⟨rfl,hb⟩
                   have HS2_:=(hb.cell (World.block_lt_of_cell? _ _ (hHeld.2.2))).trans (hHeld.2.2)
                   refine ⟨_,rfl,?_⟩
                   replace HO_8:=zk (Kd.R_below (za1 HO_8.out) hb)
                   replace HO_3009000:=zk (Kd.R_below (za1 HO_3009000.out) hb)
                   replace HO_3009001:=zk (Kd.S_below (za2 HO_3009001.out) hb)
                   replace HO_3020000:=zk (Kd.S_below (za2 HO_3020000.out) hb)
                   replace HO_3020001:=zk (Kd.R_below (za1 HO_3020001.out) hb)
                   replace HO_3020002:=zk (Kd.S_below (za2 HO_3020002.out) hb)
                   replace HO_3031000:=zk (Kd.S_below (za2 HO_3031000.out) hb)
                   replace HO_3031001:=zk (Kd.R_below (za1 HO_3031001.out) hb)
                   replace HO_3031002:=zk (Kd.S_below (za2 HO_3031002.out) hb)
                   replace BK8:=yb BK8 hb
                   replace BK19:=yb BK19 hb
                   replace BK30:=yb BK30 hb
                   replace HB:=yB HB hb
                   (try clear hb)
                   (try clear hb2)
                   (try clear hk)
                   (try clear hi)
                   refine hK.out _ _ ⟨(blk_cell BK8.out 0).trans rfl,(blk_cell BK8.out 1).trans rfl,HS2_⟩ (fun hHeld=>?_)
                   clear hK K
                   refine zno (some 99) ?_
                   refine zy 7 (some 92) HT_.out ?_
                   refine zy 8 (some 100) HT_.out ?_
                   refine zy 9 (some 101) HT_.out ?_
                   refine zy 10 (some 13) HT_.out ?_
                   refine zy 11 (some 14) HT_.out ?_
                   refine done_ (done_of HT_.out (by kernel_rfl)) ?_
                   have hnb71:=NB19_30.out
                   have hnc71:=NB30_19.out
                   obtain ⟨hcz72_0,hcz72_1,hcz72_2,hfz72_0,hfz72_1,hfz72_2⟩:=blk3 BK19.out
                   have p3041:0≤(t36:Int):=of_decide_eq_true za7
                   have q3041:t36 < (t9.length:Int):=of_decide_eq_true za7
                   obtain ⟨ad3041,A3041_0,c3041_0,e3041,hx3041_0,hl3041_0,hi3041_0⟩:=at_L3 (Kd.S_reads' HO_3020000.out).2.2 t36 p3041 q3041
                   cases e3041
                   obtain ⟨ce3041,hce3041,hMe3041,hcc3041⟩:=Kd.S_get HO_3020000.out [] t36 p3041 (by first|exact q3041|exact of_decide_eq_true za7|(have e_:=(Kd.S_reads' HO_3020000.out).1;omega))
                   obtain ⟨ve3041_0,rfl,ge3041_0⟩:=hMe3041
                   have hv3041_0:=hcc3041 0 _ rfl
                   rw [Nat.add_zero,show ((Kd.slice 3 (Kd.int .i64))).sz=1 from rfl,Nat.mul_one] at hv3041_0
                   replace hv3041_0:=zi (hv3041_0.symm.trans hx3041_0)
                   rw [hv3041_0] at ge3041_0
                   have HL3041_0:=zk (show Kd.R (Kd.int .i64) 3 _ _ _ _ (rd_L3 t9 t36) from ge3041_0)
                   clear hv3041_0 ge3041_0
                   clear hcc3041 hce3041
                   have HR3041_0:=zk hi3041_0
                   have HC3041_0:=zk hl3041_0
                   clear hi3041_0 hl3041_0
                   replace p3041:=eq_true p3041
                   replace q3041:=eq_true q3041
                   have p3042:0≤(x12_5:Int):=of_decide_eq_true za7
                   have q3042:x12_5 < ((rd_L3 t9 t36).length:Int):=of_decide_eq_true za7
                   obtain ⟨ad3042,e3042,hx3042_0⟩:=Kd.at_int (by repeat (first|(with_reducible exact HR3041_0.out)|(with_reducible refine Kd.C_alloc ?_ _)|(with_reducible refine Kd.C_drewN ?_ _)|(with_reducible refine Kd.C_drew ?_)|exact HR3041_0.out)) x12_5 p3042 q3042
                   cases e3042
                   replace p3042:=eq_true p3042
                   replace q3042:=eq_true q3042
                   try go_wp2
                   go_roundg k5
                   case measure=>have:=HJ6.out;have:=HK2.out;have:=HJ39.out;have:=HJ47.out;have:=HK5.out;omega
                   case rel=>exact ⟨(wrap64 (x12_5+1)),za13,H',⟨by have:=HJ6.out;have:=HK2.out;have:=HJ39.out;have:=HJ47.out;have:=HK5.out;omega⟩,⟨za1 HO_8.out⟩,⟨za1 HO_3009000.out⟩,⟨za2 HO_3009001.out⟩,⟨za2 HO_3020000.out⟩,⟨za1 HO_3020001.out⟩,⟨za2 HO_3020002.out⟩,⟨za2 HO_3031000.out⟩,⟨za1 HO_3031001.out⟩,⟨za2 HO_3031002.out⟩,⟨za0 BK8.out⟩,⟨za0 BK19.out⟩,⟨za0 BK30.out⟩,⟨za3⟩⟩
                  ·rw [if_neg c65] at H
                   exact absurd ((zi H).trans HRT_.out) (by decide)
                  ·rw [if_neg c64] at H
                   exact absurd H (by simp)
                  ·rw [if_neg c63] at H
                   exact absurd H (by simp)
                  ·rw [if_neg c62] at H
                   exact absurd H (by simp)
                  ·rw [if_neg c61] at H
                   exact absurd H (by simp)
                  ·rw [if_neg c59] at H
                   exact absurd H (by simp)
                  ·rw [if_neg c58] at H
                   exact absurd H (by simp)
                  ·rw [if_neg c57] at H
                   have c57b0:=zdnl c57
                   clear c57
                   have H':=zk H
                   clear H
                   have hnb80:=NB8_19.out
                   have hnc80:=NB19_8.out
                   have hnb81:=NB8_30.out
                   have hnc81:=NB30_8.out
                   obtain ⟨hcz82_0,hcz82_1,hfz82_0,hfz82_1⟩:=blk2 BK8.out
                   go_wp2
                   try simp only [Act.put,zt,zv,zu]
                   go_loopg [15] k5 (fun kq v15 w'=>∃ (x15_6:Int),v15 = .int .i64 x15_6∧Aside0 (laws_FnMonoid.l2 kq l0 t18 t32 x9_2 t36 x15_6 t2 t5 t9 t12 t15=some r)∧Aside0 (kq≤k5)∧Aside0 (Kd.R Kd.string 9 w' w.heap.size (fun _=>True) (.slice (some ad3035) t32.length co50) t32)∧Aside0 (Kd.R Kd.bool 4 w' w.heap.size (fun _=>True) (.slice Ao10 t2.length co10) t2)∧Aside0 (Kd.S (Kd.slice 3 (Kd.int .i64)) 29 w' w.heap.size (fun k_=>some k_ ≠ ((.slice Ao15 t9.length co15):Value).ownBlock∧some k_ ≠ ((.slice Ao18 t12.length co18):Value).ownBlock∧some k_ ≠ ((.slice Ao19 t15.length co19):Value).ownBlock∧some k_ ≠ ((.slice Ao23 t20.length co23):Value).ownBlock∧some k_ ≠ ((.slice Ao27 t23.length co27):Value).ownBlock∧some k_ ≠ ((.slice Ao28 t26.length co28):Value).ownBlock) (.slice Ao12 t5.length co12) t5)∧Aside0 (Kd.S (Kd.slice 3 (Kd.int .i64)) 29 w' w.heap.size (fun k_=>some k_ ≠ ((.slice Ao12 t5.length co12):Value).ownBlock∧some k_ ≠ ((.slice Ao18 t12.length co18):Value).ownBlock∧some k_ ≠ ((.slice Ao19 t15.length co19):Value).ownBlock∧some k_ ≠ ((.slice Ao23 t20.length co23):Value).ownBlock∧some k_ ≠ ((.slice Ao27 t23.length co27):Value).ownBlock∧some k_ ≠ ((.slice Ao28 t26.length co28):Value).ownBlock) (.slice Ao15 t9.length co15) t9)∧Aside0 (Kd.R (Kd.int .i64) 3 w' w.heap.size (fun k_=>some k_ ≠ ((.slice Ao27 t23.length co27):Value).ownBlock) (.slice Ao18 t12.length co18) t12)∧Aside0 (Kd.S (Kd.slice 3 (Kd.int .i64)) 29 w' w.heap.size (fun k_=>some k_ ≠ ((.slice Ao12 t5.length co12):Value).ownBlock∧some k_ ≠ ((.slice Ao15 t9.length co15):Value).ownBlock∧some k_ ≠ ((.slice Ao18 t12.length co18):Value).ownBlock∧some k_ ≠ ((.slice Ao23 t20.length co23):Value).ownBlock∧some k_ ≠ ((.slice Ao27 t23.length co27):Value).ownBlock∧some k_ ≠ ((.slice Ao28 t26.length co28):Value).ownBlock) (.slice Ao19 t15.length co19) t15)∧Aside0 (Kd.S (Kd.slice 3 (Kd.int .i64)) 29 w' w.heap.size (fun k_=>some k_ ≠ ((.slice Ao12 t5.length co12):Value).ownBlock∧some k_ ≠ ((.slice Ao15 t9.length co15):Value).ownBlock∧some k_ ≠ ((.slice Ao18 t12.length co18):Value).ownBlock∧some k_ ≠ ((.slice Ao19 t15.length co19):Value).ownBlock∧some k_ ≠ ((.slice Ao27 t23.length co27):Value).ownBlock∧some k_ ≠ ((.slice Ao28 t26.length co28):Value).ownBlock) (.slice Ao23 t20.length co23) t20)∧Aside0 (Kd.R (Kd.int .i64) 3 w' w.heap.size (fun k_=>some k_ ≠ ((.slice Ao18 t12.length co18):Value).ownBlock) (.slice Ao27 t23.length co27) t23)∧Aside0 (Kd.S (Kd.slice 3 (Kd.int .i64)) 29 w' w.heap.size (fun k_=>some k_ ≠ ((.slice Ao12 t5.length co12):Value).ownBlock∧some k_ ≠ ((.slice Ao15 t9.length co15):Value).ownBlock∧some k_ ≠ ((.slice Ao18 t12.length co18):Value).ownBlock∧some k_ ≠ ((.slice Ao19 t15.length co19):Value).ownBlock∧some k_ ≠ ((.slice Ao23 t20.length co23):Value).ownBlock∧some k_ ≠ ((.slice Ao27 t23.length co27):Value).ownBlock) (.slice Ao28 t26.length co28) t26)∧Aside0 (w'.heap[gb8]? = some (.cells #[(.slice Ao10 t2.length co10),(.slice Ao12 t5.length co12)] 27 (0,0)))∧Aside0 (w'.heap[gb19]? = some (.cells #[(.slice Ao15 t9.length co15),(.slice Ao18 t12.length co18),(.slice Ao19 t15.length co19)] 31 (0,0)))∧Aside0 (w'.heap[gb30]? = some (.cells #[(.slice Ao23 t20.length co23),(.slice Ao27 t23.length co27),(.slice Ao28 t26.length co28)] 31 (0,0)))∧Aside0 (Below w.heap.size w w'))
                   case atStart=>exact ⟨(0),za13,H',⟨Nat.le_refl _⟩,⟨za1 HO_8.out⟩,⟨za1 HO_3009000.out⟩,⟨za2 HO_3009001.out⟩,⟨za2 HO_3020000.out⟩,⟨za1 HO_3020001.out⟩,⟨za2 HO_3020002.out⟩,⟨za2 HO_3031000.out⟩,⟨za1 HO_3031001.out⟩,⟨za2 HO_3031002.out⟩,⟨za0 BK8.out⟩,⟨za0 BK19.out⟩,⟨za0 BK30.out⟩,⟨za3⟩⟩
                   case round =>
                    clear H'
                    try clear c3
                    try clear c57
                    try clear c57b0
                    try clear hcz82_0
                    try clear hcz82_1
                    try clear hfz11_0
                    try clear hfz11_1
                    try clear hfz17_0
                    try clear hfz17_1
                    try clear hfz17_2
                    try clear hfz20_0
                    try clear hfz20_1
                    try clear hfz26_0
                    try clear hfz26_1
                    try clear hfz26_2
                    try clear hfz82_0
                    try clear hfz82_1
                    obtain ⟨x15_6,rfl,HA,HK6,HO_8,HO_3009000,HO_3009001,HO_3020000,HO_3020001,HO_3020002,HO_3031000,HO_3031001,HO_3031002,BK8,BK19,BK30,HB⟩:=hrel
                    cases gk with
                    | zero=>exact absurd HA.out (by simp [laws_FnMonoid.l2])
                    | succ k6 =>
                     have H:=HA.out
                     clear HA
                     simp only [laws_FnMonoid.l2] at H
                     by_cases c83:x15_6 < (t32.length:Int)
                     rw [if_pos c83] at H
                     have c83b0:=zdl c83
                     clear c83
                     by_cases c84:0≤x15_6
                     rw [if_pos c84] at H
                     have c84b0:=zdle c84
                     clear c84
                     obtain ⟨⟨t44,t45⟩,A85,H⟩:=zO H
                     try dsimp only at H
                     by_cases c86:0≤x9_2
                     rw [if_pos c86] at H
                     have c86b0:=zdle c86
                     clear c86
                     by_cases c87:x9_2 < (t32.length:Int)
                     rw [if_pos c87] at H
                     have c87b0:=zdl c87
                     clear c87
                     by_cases c88:(rdOf ByteArray.empty t32 x9_2).size+(rdOf ByteArray.empty t32 x15_6).size≤9223372036854775807
                     rw [if_pos c88] at H
                     have c88z:=c88
                     try simp at c88z
                     try replace c88z:=eq_false (Nat.not_lt.2 c88z)
                     have c88b0:=eq_true c88
                     have c88b1:=zdle c88
                     try have c88b2:(9223372036854775807 < (rdOf ByteArray.empty t32 x9_2).size+(rdOf ByteArray.empty t32 x15_6).size)=False:=eq_false (Nat.not_lt.2 c88)
                     obtain ⟨⟨t48,t49⟩,A89,H⟩:=zO H
                     try dsimp only at H
                     by_cases c90:0≤t36
                     rw [if_pos c90] at H
                     have c90b0:=zdle c90
                     clear c90
                     by_cases c91:t36 < (t15.length:Int)
                     rw [if_pos c91] at H
                     have c91b0:=zdl c91
                     clear c91
                     by_cases c92:0≤t44
                     rw [if_pos c92] at H
                     have c92b0:=zdle c92
                     clear c92
                     by_cases c93:t44 < ((rd_L3 t15 t36).length:Int)
                     rw [if_pos c93] at H
                     have c93b0:=zdl c93
                     clear c93
                     by_cases c94:(rd (rd_L3 t15 t36) t44)=t48
                     ·rw [if_pos c94] at H
                      have c94b0:=zbt c94
                      have c94b1:=zqn c94
                      clear c94
                      have H':=zk H
                      clear H
                      try go_wp2
                      replace HO_8:=zk (Kd.R_drew HO_8.out)
                      replace HO_3009000:=zk (Kd.R_drew HO_3009000.out)
                      replace HO_3009001:=zk (Kd.S_drew HO_3009001.out)
                      replace HO_3020000:=zk (Kd.S_drew HO_3020000.out)
                      replace HO_3020001:=zk (Kd.R_drew HO_3020001.out)
                      replace HO_3020002:=zk (Kd.S_drew HO_3020002.out)
                      replace HO_3031000:=zk (Kd.S_drew HO_3031000.out)
                      replace HO_3031001:=zk (Kd.R_drew HO_3031001.out)
                      replace HO_3031002:=zk (Kd.S_drew HO_3031002.out)
                      replace BK8:=zk (blk_drew BK8.out)
                      replace BK19:=zk (blk_drew BK19.out)
                      replace BK30:=zk (blk_drew BK30.out)
                      replace HB:=zk (below_drew1 HB.out)
                      have p3043:0≤(x15_6:Int):=of_decide_eq_true za7
                      have q3043:x15_6 < (t32.length:Int):=of_decide_eq_true za7
                      obtain ⟨ad3043,e3043,hx3043_0⟩:=Kd.at_string (Kd.R_reads' HO_8.out).2.2 x15_6 p3043 q3043
                      obtain rfl:ad3035=ad3043:=(by injection e3043)
                      replace p3043:=eq_true p3043
                      replace q3043:=eq_true q3043
                      refine start_ (n:=11) (S:=fun w'=>w'.cell? ⟨gb19,0,none⟩=some (.slice Ao15 t9.length co15)∧w'.cell? ⟨gb19,1,none⟩=some (.slice Ao18 t12.length co18)∧w'.cell? ⟨gb19,2,none⟩=some (.slice Ao19 t15.length co19)∧w'.cell? (ad3035.add (x15_6).toNat)=some (.string (rdOf ByteArray.empty t32 x15_6))) (ds:=[]) #[false,false,false,false,false,false,false,false,false,false,false] (by kernel_rfl) rfl rfl ⟨(blk_cell BK19.out 0).trans rfl,(blk_cell BK19.out 1).trans rfl,(blk_cell BK19.out 2).trans rfl,hx3043_0⟩ (fun hHeld=>?_);refine with_tabW laws_FnMonoid.tab24 laws_FnMonoid.bits24 (fun HT_ HW_=>?_)
                      generalize wr.drew=w95 at HO_8 HO_3009000 HO_3009001 HO_3020000 HO_3020001 HO_3020002 HO_3031000 HO_3031001 HO_3031002 BK8 BK19 BK30 HB hx3043_0 hHeld ⊢
                      refine zy 1 (some 120) HT_.out ?_
                      refine zy 2 (some 121) HT_.out ?_
                      refine zy 3 (some 122) HT_.out ?_
                      refine ztk 0 (some 119) HT_.out HW_.out hHeld ?_
                      refine ztk 4 (some 123) HT_.out HW_.out hHeld ?_
                      refine zon 5 (some 124) HT_.out (fun K hK=>?_)
                      refine goes_ Try.func10 (by kernel_rfl) rfl #[.agg #[.slice Ao15 t9.length co15,.slice Ao18 t12.length co18,.slice Ao19 t15.length co19],.string (rdOf ByteArray.empty t32 x15_6)] (by rfl) rfl rfl za4 ?_
                      with_reducible refine (impl_MapOf.calls k6 _ _ t9 _ _ t12 _ _ t15 (rdOf ByteArray.empty t32 x15_6) t44 t45 _ ?side1 ?side2 ?side3 ?side4 ?side5 ?side6 A85.out).mono ?_
                      (case side1=>repeat (first|exact (Kd.S_reads' HO_3020000.out).2.2|(with_reducible refine Kd.C_alloc ?_ _)|(with_reducible refine Kd.C_drewN ?_ _)|(with_reducible refine Kd.C_drew ?_)))
                      (case side2=>exact (Kd.S_reads' HO_3020000.out).2.1)
                      (case side3=>repeat (first|exact (Kd.R_reads' HO_3020001.out).2.2|(with_reducible refine Kd.C_alloc ?_ _)|(with_reducible refine Kd.C_drewN ?_ _)|(with_reducible refine Kd.C_drew ?_)))
                      (case side4=>exact (Kd.R_reads' HO_3020001.out).2.1)
                      (case side5=>repeat (first|exact (Kd.S_reads' HO_3020002.out).2.2|(with_reducible refine Kd.C_alloc ?_ _)|(with_reducible refine Kd.C_drewN ?_ _)|(with_reducible refine Kd.C_drew ?_)))
                      (case side6=>exact (Kd.S_reads' HO_3020002.out).2.1)
                      rintro e w96 ⟨rfl,hb⟩
                      have HS3_:=(hb.cell (World.block_lt_of_cell? _ _ (hHeld.2.2.2))).trans (hHeld.2.2.2)
                      refine ⟨_,rfl,?_⟩
                      replace HO_8:=zk (Kd.R_below (za1 HO_8.out) hb)
                      replace HO_3009000:=zk (Kd.R_below (za1 HO_3009000.out) hb)
                      replace HO_3009001:=zk (Kd.S_below (za2 HO_3009001.out) hb)
                      replace HO_3020000:=zk (Kd.S_below (za2 HO_3020000.out) hb)
                      replace HO_3020001:=zk (Kd.R_below (za1 HO_3020001.out) hb)
                      replace HO_3020002:=zk (Kd.S_below (za2 HO_3020002.out) hb)
                      replace HO_3031000:=zk (Kd.S_below (za2 HO_3031000.out) hb)
                      replace HO_3031001:=zk (Kd.R_below (za1 HO_3031001.out) hb)
                      replace HO_3031002:=zk (Kd.S_below (za2 HO_3031002.out) hb)
                      replace BK8:=yb BK8 hb
                      replace BK19:=yb BK19 hb
                      replace BK30:=yb BK30 hb
                      replace HB:=yB HB hb
                      (try clear hb)
                      (try clear hb2)
                      (try clear hk)
                      (try clear hi)
                      refine hK.out _ _ ⟨(blk_cell BK19.out 0).trans rfl,(blk_cell BK19.out 1).trans rfl,(blk_cell BK19.out 2).trans rfl,HS3_⟩ (fun hHeld=>?_)
                      clear hK K
                      refine zno (some 124) ?_
                      refine zy 6 (some 118) HT_.out ?_
                      refine zy 7 (some 125) HT_.out ?_
                      refine zy 8 (some 126) HT_.out ?_
                      refine zy 9 (some 16) HT_.out ?_
                      refine zy 10 (some 17) HT_.out ?_
                      refine done_ (done_of HT_.out (by kernel_rfl)) ?_
                      try go_wp2
                      replace HO_8:=zk (Kd.R_drew HO_8.out)
                      replace HO_3009000:=zk (Kd.R_drew HO_3009000.out)
                      replace HO_3009001:=zk (Kd.S_drew HO_3009001.out)
                      replace HO_3020000:=zk (Kd.S_drew HO_3020000.out)
                      replace HO_3020001:=zk (Kd.R_drew HO_3020001.out)
                      replace HO_3020002:=zk (Kd.S_drew HO_3020002.out)
                      replace HO_3031000:=zk (Kd.S_drew HO_3031000.out)
                      replace HO_3031001:=zk (Kd.R_drew HO_3031001.out)
                      replace HO_3031002:=zk (Kd.S_drew HO_3031002.out)
                      replace BK8:=zk (blk_drew BK8.out)
                      replace BK19:=zk (blk_drew BK19.out)
                      replace BK30:=zk (blk_drew BK30.out)
                      replace HB:=zk (below_drew1 HB.out)
                      have p3046:0≤(x9_2:Int):=of_decide_eq_true za7
                      have q3046:x9_2 < (t32.length:Int):=of_decide_eq_true za7
                      obtain ⟨ad3046,e3046,hx3046_0⟩:=Kd.at_string (Kd.R_reads' HO_8.out).2.2 x9_2 p3046 q3046
                      obtain rfl:ad3035=ad3046:=(by injection e3046)
                      replace p3046:=eq_true p3046
                      replace q3046:=eq_true q3046
                      have p3047:0≤(x15_6:Int):=of_decide_eq_true za7
                      have q3047:x15_6 < (t32.length:Int):=of_decide_eq_true za7
                      obtain ⟨ad3047,e3047,hx3047_0⟩:=Kd.at_string (Kd.R_reads' HO_8.out).2.2 x15_6 p3047 q3047
                      obtain rfl:ad3035=ad3047:=(by injection e3047)
                      replace p3047:=eq_true p3047
                      replace q3047:=eq_true q3047
                      refine start_ (n:=16) (S:=fun w'=>w'.cell? ⟨gb19,0,none⟩=some (.slice Ao15 t9.length co15)∧w'.cell? ⟨gb19,1,none⟩=some (.slice Ao18 t12.length co18)∧w'.cell? ⟨gb19,2,none⟩=some (.slice Ao19 t15.length co19)∧w'.cell? (ad3035.add (x9_2).toNat)=some (.string (rdOf ByteArray.empty t32 x9_2))∧w'.cell? (ad3035.add (x15_6).toNat)=some (.string (rdOf ByteArray.empty t32 x15_6))) (ds:=[]) #[false,false,false,false,false,false,false,false,false,false,false,false,false,false,false,false] (by kernel_rfl) rfl rfl ⟨(blk_cell BK19.out 0).trans rfl,(blk_cell BK19.out 1).trans rfl,(blk_cell BK19.out 2).trans rfl,hx3046_0,hx3047_0⟩ (fun hHeld=>?_);refine with_tabW laws_FnMonoid.tab25 laws_FnMonoid.bits25 (fun HT_ HW_=>?_)
                      generalize w96.drew=w97 at HO_8 HO_3009000 HO_3009001 HO_3020000 HO_3020001 HO_3020002 HO_3031000 HO_3031001 HO_3031002 BK8 BK19 BK30 HB hx3046_0 hx3047_0 hHeld ⊢
                      refine zy 1 (some 129) HT_.out ?_
                      refine zy 2 (some 130) HT_.out ?_
                      refine zy 3 (some 131) HT_.out ?_
                      refine zy 5 (some 133) HT_.out ?_
                      refine zy 6 (some 134) HT_.out ?_
                      refine zy 7 (some 135) HT_.out ?_
                      refine ztk 0 (some 128) HT_.out HW_.out hHeld ?_
                      refine ztk 4 (some 132) HT_.out HW_.out hHeld ?_
                      refine ztk 8 (some 136) HT_.out HW_.out hHeld ?_
                      refine zy 9 (some 137) HT_.out ?_
                      refine zon 10 (some 138) HT_.out (fun K hK=>?_)
                      refine goes_ Try.func10 (by kernel_rfl) rfl #[.agg #[.slice Ao15 t9.length co15,.slice Ao18 t12.length co18,.slice Ao19 t15.length co19],.string ((rdOf ByteArray.empty t32 x9_2) ++ (rdOf ByteArray.empty t32 x15_6))] (by rfl) rfl rfl za4 ?_
                      with_reducible refine (impl_MapOf.calls k6 _ _ t9 _ _ t12 _ _ t15 ((rdOf ByteArray.empty t32 x9_2) ++ (rdOf ByteArray.empty t32 x15_6)) t48 t49 _ ?side1 ?side2 ?side3 ?side4 ?side5 ?side6 A89.out).mono ?_
                      (case side1=>repeat (first|exact (Kd.S_reads' HO_3020000.out).2.2|(with_reducible refine Kd.C_alloc ?_ _)|(with_reducible refine Kd.C_drewN ?_ _)|(with_reducible refine Kd.C_drew ?_)))
                      (case side2=>exact (Kd.S_reads' HO_3020000.out).2.1)
                      (case side3=>repeat (first|exact (Kd.R_reads' HO_3020001.out).2.2|(with_reducible refine Kd.C_alloc ?_ _)|(with_reducible refine Kd.C_drewN ?_ _)|(with_reducible refine Kd.C_drew ?_)))
                      (case side4=>exact (Kd.R_reads' HO_3020001.out).2.1)
                      (case side5=>repeat (first|exact (Kd.S_reads' HO_3020002.out).2.2|(with_reducible refine Kd.C_alloc ?_ _)|(with_reducible refine Kd.C_drewN ?_ _)|(with_reducible refine Kd.C_drew ?_)))
                      (case side6=>exact (Kd.S_reads' HO_3020002.out).2.1)
                      rintro e w98 ⟨rfl,hb⟩
                      have HS3_:=(hb.cell (World.block_lt_of_cell? _ _ (hHeld.2.2.2.1))).trans (hHeld.2.2.2.1)
                      have HS4_:=(hb.cell (World.block_lt_of_cell? _ _ (hHeld.2.2.2.2))).trans (hHeld.2.2.2.2)
                      refine ⟨_,rfl,?_⟩
                      replace HO_8:=zk (Kd.R_below (za1 HO_8.out) hb)
                      replace HO_3009000:=zk (Kd.R_below (za1 HO_3009000.out) hb)
                      replace HO_3009001:=zk (Kd.S_below (za2 HO_3009001.out) hb)
                      replace HO_3020000:=zk (Kd.S_below (za2 HO_3020000.out) hb)
                      replace HO_3020001:=zk (Kd.R_below (za1 HO_3020001.out) hb)
                      replace HO_3020002:=zk (Kd.S_below (za2 HO_3020002.out) hb)
                      replace HO_3031000:=zk (Kd.S_below (za2 HO_3031000.out) hb)
                      replace HO_3031001:=zk (Kd.R_below (za1 HO_3031001.out) hb)
                      replace HO_3031002:=zk (Kd.S_below (za2 HO_3031002.out) hb)
                      replace BK8:=yb BK8 hb
                      replace BK19:=yb BK19 hb
                      replace BK30:=yb BK30 hb
                      replace HB:=yB HB hb
                      (try clear hb)
                      (try clear hb2)
                      (try clear hk)
                      (try clear hi)
                      refine hK.out _ _ ⟨(blk_cell BK19.out 0).trans rfl,(blk_cell BK19.out 1).trans rfl,(blk_cell BK19.out 2).trans rfl,HS3_,HS4_⟩ (fun hHeld=>?_)
                      clear hK K
                      refine zno (some 138) ?_
                      refine zy 11 (some 127) HT_.out ?_
                      refine zy 12 (some 139) HT_.out ?_
                      refine zy 13 (some 140) HT_.out ?_
                      refine zy 14 (some 18) HT_.out ?_
                      refine zy 15 (some 19) HT_.out ?_
                      refine done_ (done_of HT_.out (by kernel_rfl)) ?_
                      have hnb99:=NB19_8.out
                      have hnc99:=NB8_19.out
                      have hnb100:=NB19_30.out
                      have hnc100:=NB30_19.out
                      obtain ⟨hcz101_0,hcz101_1,hcz101_2,hfz101_0,hfz101_1,hfz101_2⟩:=blk3 BK19.out
                      have p3050:0≤(t36:Int):=of_decide_eq_true za7
                      have q3050:t36 < (t15.length:Int):=of_decide_eq_true za7
                      obtain ⟨ad3050,A3050_0,c3050_0,e3050,hx3050_0,hl3050_0,hi3050_0⟩:=at_L3 (Kd.S_reads' HO_3020002.out).2.2 t36 p3050 q3050
                      cases e3050
                      obtain ⟨ce3050,hce3050,hMe3050,hcc3050⟩:=Kd.S_get HO_3020002.out [] t36 p3050 (by first|exact q3050|exact of_decide_eq_true za7|(have e_:=(Kd.S_reads' HO_3020002.out).1;omega))
                      obtain ⟨ve3050_0,rfl,ge3050_0⟩:=hMe3050
                      have hv3050_0:=hcc3050 0 _ rfl
                      rw [Nat.add_zero,show ((Kd.slice 3 (Kd.int .i64))).sz=1 from rfl,Nat.mul_one] at hv3050_0
                      replace hv3050_0:=zi (hv3050_0.symm.trans hx3050_0)
                      rw [hv3050_0] at ge3050_0
                      have HL3050_0:=zk (show Kd.R (Kd.int .i64) 3 _ _ _ _ (rd_L3 t15 t36) from ge3050_0)
                      clear hv3050_0 ge3050_0
                      clear hcc3050 hce3050
                      have HR3050_0:=zk hi3050_0
                      have HC3050_0:=zk hl3050_0
                      clear hi3050_0 hl3050_0
                      replace p3050:=eq_true p3050
                      replace q3050:=eq_true q3050
                      have p3051:0≤(t44:Int):=of_decide_eq_true za7
                      have q3051:t44 < ((rd_L3 t15 t36).length:Int):=of_decide_eq_true za7
                      obtain ⟨ad3051,e3051,hx3051_0⟩:=Kd.at_int (by repeat (first|(with_reducible exact HR3050_0.out)|(with_reducible refine Kd.C_alloc ?_ _)|(with_reducible refine Kd.C_drewN ?_ _)|(with_reducible refine Kd.C_drew ?_)|exact HR3050_0.out)) t44 p3051 q3051
                      cases e3051
                      replace p3051:=eq_true p3051
                      replace q3051:=eq_true q3051
                      try go_wp2
                      go_roundg k6
                      case measure=>have:=HJ6.out;have:=HK2.out;have:=HJ39.out;have:=HJ47.out;have:=HK5.out;have:=HK6.out;omega
                      case rel=>exact ⟨(wrap64 (x15_6+1)),za13,H',⟨by have:=HJ6.out;have:=HK2.out;have:=HJ39.out;have:=HJ47.out;have:=HK5.out;have:=HK6.out;omega⟩,⟨za1 HO_8.out⟩,⟨za1 HO_3009000.out⟩,⟨za2 HO_3009001.out⟩,⟨za2 HO_3020000.out⟩,⟨za1 HO_3020001.out⟩,⟨za2 HO_3020002.out⟩,⟨za2 HO_3031000.out⟩,⟨za1 HO_3031001.out⟩,⟨za2 HO_3031002.out⟩,⟨za0 BK8.out⟩,⟨za0 BK19.out⟩,⟨za0 BK30.out⟩,⟨za3⟩⟩
                     ·rw [if_neg c94] at H
                      exact absurd ((zi H).trans HRT_.out) (by decide)
                     ·rw [if_neg c93] at H
                      exact absurd H (by simp)
                     ·rw [if_neg c92] at H
                      exact absurd H (by simp)
                     ·rw [if_neg c91] at H
                      exact absurd H (by simp)
                     ·rw [if_neg c90] at H
                      exact absurd H (by simp)
                     ·rw [if_neg c88] at H
                      exact absurd H (by simp)
                     ·rw [if_neg c87] at H
                      exact absurd H (by simp)
                     ·rw [if_neg c86] at H
                      exact absurd H (by simp)
                     ·rw [if_neg c84] at H
                      exact absurd H (by simp)
                     ·rw [if_neg c83] at H
                      have c83b0:=zdnl c83
                      clear c83
                      have H':=zk H
                      clear H
                      go_wp2
                      go_roundg k6
                      case measure=>have:=HJ6.out;have:=HK2.out;have:=HJ39.out;have:=HJ47.out;have:=HK5.out;have:=HK6.out;omega
                      case rel=>exact ⟨(wrap64 (x9_2+1)),za13,H',⟨by have:=HJ6.out;have:=HK2.out;have:=HJ39.out;have:=HJ47.out;have:=HK5.out;have:=HK6.out;omega⟩,⟨za1 HO_8.out⟩,⟨za1 HO_3009000.out⟩,⟨za2 HO_3009001.out⟩,⟨za2 HO_3020000.out⟩,⟨za1 HO_3020001.out⟩,⟨za2 HO_3020002.out⟩,⟨za2 HO_3031000.out⟩,⟨za1 HO_3031001.out⟩,⟨za2 HO_3031002.out⟩,⟨za0 BK8.out⟩,⟨za0 BK19.out⟩,⟨za0 BK30.out⟩,⟨za3⟩⟩
          · rw [if_neg c46] at H
            exact absurd H (by simp)
          · rw [if_neg c45] at H
            exact absurd H (by simp)
          replace c44:=Bool.eq_false_iff.mpr c44
          subst c44
          rw [if_neg zff] at H
          try dsimp only at H
          obtain ⟨⟨t52,t55,t58,t61⟩,A109,H⟩:=zO H
          try dsimp only at H
          obtain ⟨⟨t63,t64⟩,A110,H⟩:=zO H
          try dsimp only at H
          obtain ⟨⟨t65,t66⟩,A111,H⟩:=zO H
          try dsimp only at H
          obtain ⟨⟨t67,t70,t73,t76⟩,A112,H⟩:=zO H
          try dsimp only at H
          obtain ⟨⟨t78,t79⟩,A113,H⟩:=zO H
          try dsimp only at H
          obtain ⟨⟨t80,t81⟩,A114,H⟩:=zO H
          try dsimp only at H
          obtain ⟨⟨t82,t83⟩,A115,H⟩:=zO H
          try dsimp only at H
          by_cases c116:t63.toList=t65.toList
          rw [if_pos c116] at H
          have c116b0:=zbt c116
          have c116b1:=zqn c116
          clear c116
          by_cases c117:(t64 == t66)=true
          rw [if_pos c117] at H
          have c117b0:(t64 == t66)=true:=c117
          (try (have c117b1:decide (t64=t66)=true:=by simpa using c117))
          (try (have c117b2:(t64 == t66)=true:=by simpa using c117))
          clear c117
          by_cases c118:t78=t80
          rw [if_pos c118] at H
          have c118b0:=zbt c118
          have c118b1:=zqn c118
          clear c118
          by_cases c119:(t79 == t81)=true
          rw [if_pos c119] at H
          have c119b0:(t79 == t81)=true:=c119
          (try (have c119b1:decide (t79=t81)=true:=by simpa using c119))
          (try (have c119b2:(t79 == t81)=true:=by simpa using c119))
          clear c119
          by_cases c120:t64=true
          subst c120
          rw [if_pos rfl] at H
          try dsimp only at H
          by_cases c121:t83=true
          · subst c121
            rw [if_pos rfl] at H
            try dsimp only at H
            obtain rfl:=zi H
            go_wp2_with (first|((with_reducible refine gate_callee (f:=12) rfl ?_);refine zg (some 153) Try.func12 #[.slice A0 l0.length c0] rfl za4 ?_;(with_reducible refine (spec_DrawWordOfMap.calls kj39 _ _ l0 t52 t55 t58 t61 _ ?side1 ?side2 A109.out).mono ?_);(case side1=>repeat (first|exact (Kd.C_below HR0.out HB.out)|(with_reducible refine Kd.C_alloc ?_ _)|(with_reducible refine Kd.C_drewN ?_ _)|(with_reducible refine Kd.C_drew ?_)));(case side2=>exact HC0.out);rintro e w122 ⟨v53,v3056,v59,rfl,ho0,ho1,ho2,hb⟩;refine ⟨_,rfl,?_⟩;replace HO_8:=zk (Kd.R_below (za1 HO_8.out) hb);replace HO_3009000:=zk (Kd.R_below (za1 HO_3009000.out) hb);have HO54:=zk (Kd.S_lower (Kd.S_new' (Kd.S_new' (Kd.S_new' (Kd.S_new' (Kd.S_new' (Kd.S_new' (Kd.S_new' ho0 (Kd.S_lt (za2 HO_3009001.out))) (Kd.S_lt (za2 HO_3020000.out))) (Kd.R_lt (za1 HO_3020001.out))) (Kd.S_lt (za2 HO_3020002.out))) (Kd.S_lt (za2 HO_3031000.out))) (Kd.R_lt (za1 HO_3031001.out))) (Kd.S_lt (za2 HO_3031002.out))) (below_size za3));have HO57:=zk (Kd.R_lower (Kd.R_new' (Kd.R_new' ho1 (Kd.R_lt (za1 HO_3020001.out))) (Kd.R_lt (za1 HO_3031001.out))) (below_size za3));have HO60:=zk (Kd.S_lower (Kd.S_new' (Kd.S_new' (Kd.S_new' (Kd.S_new' (Kd.S_new' (Kd.S_new' (Kd.S_new' ho2 (Kd.S_lt (za2 HO_3009001.out))) (Kd.S_lt (za2 HO_3020000.out))) (Kd.R_lt (za1 HO_3020001.out))) (Kd.S_lt (za2 HO_3020002.out))) (Kd.S_lt (za2 HO_3031000.out))) (Kd.R_lt (za1 HO_3031001.out))) (Kd.S_lt (za2 HO_3031002.out))) (below_size za3));replace BK8:=yb BK8 hb;replace BK19:=yb BK19 hb;replace BK30:=yb BK30 hb;replace HO_3009001:=zk (Kd.S_mono (Kd.S_told (Kd.S_told (Kd.S_told (Kd.S_old (za2 HO_3009001.out) hb) (Kd.S_base ho0)) (Kd.R_base ho1)) (Kd.S_base ho2)) (fun _ h_=>h_.1));replace HO_3020000:=zk (Kd.S_mono (Kd.S_told (Kd.S_told (Kd.S_told (Kd.S_old (za2 HO_3020000.out) hb) (Kd.S_base ho0)) (Kd.R_base ho1)) (Kd.S_base ho2)) (fun _ h_=>h_.1));replace HO_3020001:=zk (Kd.R_elder' (za1 HO_3020001.out) (Kd.R_base ho1) hb);replace HO_3020002:=zk (Kd.S_mono (Kd.S_told (Kd.S_told (Kd.S_told (Kd.S_old (za2 HO_3020002.out) hb) (Kd.S_base ho0)) (Kd.R_base ho1)) (Kd.S_base ho2)) (fun _ h_=>h_.1));replace HO_3031000:=zk (Kd.S_mono (Kd.S_told (Kd.S_told (Kd.S_told (Kd.S_old (za2 HO_3031000.out) hb) (Kd.S_base ho0)) (Kd.R_base ho1)) (Kd.S_base ho2)) (fun _ h_=>h_.1));replace HO_3031001:=zk (Kd.R_elder' (za1 HO_3031001.out) (Kd.R_base ho1) hb);replace HO_3031002:=zk (Kd.S_mono (Kd.S_told (Kd.S_told (Kd.S_told (Kd.S_old (za2 HO_3031002.out) hb) (Kd.S_base ho0)) (Kd.R_base ho1)) (Kd.S_base ho2)) (fun _ h_=>h_.1));replace HB:=yB HB hb;(try clear hb ho0 ho1 ho2))|((with_reducible refine gate_dst (N:=20) rfl ?_);(try (refine gate_guard (by rfl) ?_;dsimp only));refine zE (cs:=#[.slice none 0 0,.slice none 0 0,.slice none 0 0]) (t:=31) ?_;intro gb62 hg w123 hbox hb;replace HO_8:=zk (Kd.R_below (za1 HO_8.out) hb);replace HO_3009000:=zk (Kd.R_below (za1 HO_3009000.out) hb);replace HO_3009001:=zk (Kd.S_below (za2 HO_3009001.out) hb);replace HO_3020000:=zk (Kd.S_below (za2 HO_3020000.out) hb);replace HO_3020001:=zk (Kd.R_below (za1 HO_3020001.out) hb);replace HO_3020002:=zk (Kd.S_below (za2 HO_3020002.out) hb);replace HO_3031000:=zk (Kd.S_below (za2 HO_3031000.out) hb);replace HO_3031001:=zk (Kd.R_below (za1 HO_3031001.out) hb);replace HO_3031002:=zk (Kd.S_below (za2 HO_3031002.out) hb);replace HO54:=zk (Kd.S_below (za2 HO54.out) hb);replace HO57:=zk (Kd.R_below (za1 HO57.out) hb);replace HO60:=zk (Kd.S_below (za2 HO60.out) hb);have BK62:=zk hbox;have GW62:=zk (zs (w:=w) hg za3);have GE62:=GW62;have NB8_62:=yn hg BK8;have NB62_8:=yp hg BK8;have NB19_62:=yn hg BK19;have NB62_19:=yp hg BK19;have NB30_62:=yn hg BK30;have NB62_30:=yp hg BK30;replace BK8:=yb BK8 hb;replace BK19:=yb BK19 hb;replace BK30:=yb BK30 hb;replace HB:=yB HB hb;clear hb hbox hg;obtain ⟨Ao124,co124,eo124⟩:=Kd.S_slice HO54.out;subst eo124;have hnb125:=NB62_8.out;have hnc125:=NB8_62.out;have hnb126:=NB62_19.out;have hnc126:=NB19_62.out;have hnb127:=NB62_30.out;have hnc127:=NB30_62.out;obtain ⟨hcz128_0,hcz128_1,hcz128_2,hfz128_0,hfz128_1,hfz128_2⟩:=blk3 BK62.out;obtain ⟨Ao129,co129,eo129⟩:=Kd.R_slice HO57.out;subst eo129;obtain ⟨Ao130,co130,eo130⟩:=Kd.S_slice HO60.out;subst eo130)|((with_reducible refine gate_callee (f:=13) rfl ?_);refine zg (some 159) Try.func13 #[.agg #[.slice Ao124 t52.length co124,.slice Ao129 t55.length co129,.slice Ao130 t58.length co130],.int .i64 t61] rfl za4 ?_;(with_reducible refine (impl_WordOfMap.calls _ _ t52 _ _ t55 _ _ t58 t61 t63 _ _ ?side1 ?side2 ?side3 ?side4 ?side5 ?side6 A110.out).mono ?_);(case side1=>refine (Kd.S_reads' (e:=29) (base:=w.heap.size) (ok:=fun k_=>((((((((some k_ ≠ (.slice Ao129 t55.length co129:Value).ownBlock∧some k_ ≠ (.slice Ao130 t58.length co130:Value).ownBlock)∧some k_ ≠ (.slice Ao12 t5.length co12:Value).ownBlock)∧some k_ ≠ (.slice Ao15 t9.length co15:Value).ownBlock)∧some k_ ≠ (.slice Ao18 t12.length co18:Value).ownBlock)∧some k_ ≠ (.slice Ao19 t15.length co19:Value).ownBlock)∧some k_ ≠ (.slice Ao23 t20.length co23:Value).ownBlock)∧some k_ ≠ (.slice Ao27 t23.length co27:Value).ownBlock)∧some k_ ≠ (.slice Ao28 t26.length co28:Value).ownBlock)) (n:=t52.length) (c:=co124) ?_).2.2;exact za42);(case side2=>exact (Kd.S_reads' HO54.out).2.1);(case side3=>refine (Kd.R_reads' (e:=3) (base:=w.heap.size) (ok:=fun k_=>((True∧some k_ ≠ (.slice Ao18 t12.length co18:Value).ownBlock)∧some k_ ≠ (.slice Ao27 t23.length co27:Value).ownBlock)) (n:=t55.length) (c:=co129) ?_).2.2;exact za45);(case side4=>exact (Kd.R_reads' HO57.out).2.1);(case side5=>refine (Kd.S_reads' (e:=29) (base:=w.heap.size) (ok:=fun k_=>((((((((some k_ ≠ (.slice Ao124 t52.length co124:Value).ownBlock∧some k_ ≠ (.slice Ao129 t55.length co129:Value).ownBlock)∧some k_ ≠ (.slice Ao12 t5.length co12:Value).ownBlock)∧some k_ ≠ (.slice Ao15 t9.length co15:Value).ownBlock)∧some k_ ≠ (.slice Ao18 t12.length co18:Value).ownBlock)∧some k_ ≠ (.slice Ao19 t15.length co19:Value).ownBlock)∧some k_ ≠ (.slice Ao23 t20.length co23:Value).ownBlock)∧some k_ ≠ (.slice Ao27 t23.length co27:Value).ownBlock)∧some k_ ≠ (.slice Ao28 t26.length co28:Value).ownBlock)) (n:=t58.length) (c:=co130) ?_).2.2;exact za41);(case side6=>exact (Kd.S_reads' HO60.out).2.1);rintro e w131 ⟨rfl,hb⟩;refine ⟨_,rfl,?_⟩;replace HO_8:=zk (Kd.R_below za99 hb);replace HO_3009000:=zk (Kd.R_below za88 hb);replace HO_3009001:=zk (Kd.S_below za82 hb);replace HO_3020000:=zk (Kd.S_below za80 hb);replace HO_3020001:=zk (Kd.R_below za86 hb);replace HO_3020002:=zk (Kd.S_below za78 hb);replace HO_3031000:=zk (Kd.S_below za76 hb);replace HO_3031001:=zk (Kd.R_below za84 hb);replace HO_3031002:=zk (Kd.S_below za74 hb);replace HO54:=zk (Kd.S_below za42 hb);replace HO57:=zk (Kd.R_below za45 hb);replace HO60:=zk (Kd.S_below za41 hb);replace BK8:=zk (blk_below (g:=gb8) (o:=.cells #[.slice Ao10 t2.length co10,.slice Ao12 t5.length co12] 27 (0,0)) (zpw BK8.out) hb);replace BK19:=zk (blk_below (g:=gb19) (o:=.cells #[.slice Ao15 t9.length co15,.slice Ao18 t12.length co18,.slice Ao19 t15.length co19] 31 (0,0)) (zpw BK19.out) hb);replace BK30:=zk (blk_below (g:=gb30) (o:=.cells #[.slice Ao23 t20.length co23,.slice Ao27 t23.length co27,.slice Ao28 t26.length co28] 31 (0,0)) (zpw BK30.out) hb);replace HB:=yB HB hb;replace BK62:=zk (blk_below (g:=gb62) (o:=.cells #[.slice Ao124 t52.length co124,.slice Ao129 t55.length co129,.slice Ao130 t58.length co130] 31 (0,0)) (zpu BK62.out) hb);(try clear hb);obtain ⟨hcz132_0,hcz132_1,hcz132_2,hfz132_0,hfz132_1,hfz132_2⟩:=blk3 BK62.out)|((with_reducible refine gate_callee (f:=14) rfl ?_);refine zg (some 165) Try.func14 #[.agg #[.slice Ao124 t52.length co124,.slice Ao129 t55.length co129,.slice Ao130 t58.length co130],.int .i64 t61] rfl za4 ?_;(with_reducible refine (spec_WordOfMap.calls kj39 _ _ t52 _ _ t55 _ _ t58 t61 t65 t66 _ ?side1 ?side2 ?side3 ?side4 ?side5 ?side6 A111.out).mono ?_);(case side1=>repeat (first|exact (Kd.S_reads' HO54.out).2.2|(with_reducible refine Kd.C_alloc ?_ _)|(with_reducible refine Kd.C_drewN ?_ _)|(with_reducible refine Kd.C_drew ?_)));(case side2=>exact (Kd.S_reads' HO54.out).2.1);(case side3=>repeat (first|exact (Kd.R_reads' HO57.out).2.2|(with_reducible refine Kd.C_alloc ?_ _)|(with_reducible refine Kd.C_drewN ?_ _)|(with_reducible refine Kd.C_drew ?_)));(case side4=>exact (Kd.R_reads' HO57.out).2.1);(case side5=>repeat (first|exact (Kd.S_reads' HO60.out).2.2|(with_reducible refine Kd.C_alloc ?_ _)|(with_reducible refine Kd.C_drewN ?_ _)|(with_reducible refine Kd.C_drew ?_)));(case side6=>exact (Kd.S_reads' HO60.out).2.1);rintro e w133 ⟨rfl,hb⟩;refine ⟨_,rfl,?_⟩;replace HO_8:=zk (Kd.R_below (za1 HO_8.out) hb);replace HO_3009000:=zk (Kd.R_below (za1 HO_3009000.out) hb);replace HO_3009001:=zk (Kd.S_below (za2 HO_3009001.out) hb);replace HO_3020000:=zk (Kd.S_below (za2 HO_3020000.out) hb);replace HO_3020001:=zk (Kd.R_below (za1 HO_3020001.out) hb);replace HO_3020002:=zk (Kd.S_below (za2 HO_3020002.out) hb);replace HO_3031000:=zk (Kd.S_below (za2 HO_3031000.out) hb);replace HO_3031001:=zk (Kd.R_below (za1 HO_3031001.out) hb);replace HO_3031002:=zk (Kd.S_below (za2 HO_3031002.out) hb);replace HO54:=zk (Kd.S_below (za2 HO54.out) hb);replace HO57:=zk (Kd.R_below (za1 HO57.out) hb);replace HO60:=zk (Kd.S_below (za2 HO60.out) hb);replace BK8:=yb BK8 hb;replace BK19:=yb BK19 hb;replace BK30:=yb BK30 hb;replace BK62:=yb BK62 hb;replace HB:=yB HB hb;(try clear hb))|((with_reducible refine gate_callee (f:=15) rfl ?_);refine zg (some 170) Try.func15 #[.slice A0 l0.length c0] rfl za4 ?_;(with_reducible refine (spec_DrawMapOf.calls kj39 _ _ l0 t67 t70 t73 t76 _ ?side1 ?side2 A112.out).mono ?_);(case side1=>repeat (first|exact (Kd.C_below HR0.out HB.out)|(with_reducible refine Kd.C_alloc ?_ _)|(with_reducible refine Kd.C_drewN ?_ _)|(with_reducible refine Kd.C_drew ?_)));(case side2=>exact HC0.out);rintro e w134 ⟨v68,v71,v74,rfl,ho0,ho1,ho2,hb⟩;refine ⟨_,rfl,?_⟩;replace HO_8:=zk (Kd.R_below (za1 HO_8.out) hb);replace HO_3009000:=zk (Kd.R_below (za1 HO_3009000.out) hb);have HO69:=zk (Kd.S_lower (Kd.S_new' (Kd.S_new' (Kd.S_new' (Kd.S_new' (Kd.S_new' (Kd.S_new' (Kd.S_new' (Kd.S_new' (Kd.S_new' (Kd.S_new' ho0 (Kd.S_lt (za2 HO_3009001.out))) (Kd.S_lt (za2 HO_3020000.out))) (Kd.R_lt (za1 HO_3020001.out))) (Kd.S_lt (za2 HO_3020002.out))) (Kd.S_lt (za2 HO_3031000.out))) (Kd.R_lt (za1 HO_3031001.out))) (Kd.S_lt (za2 HO_3031002.out))) (Kd.S_lt (za2 HO54.out))) (Kd.R_lt (za1 HO57.out))) (Kd.S_lt (za2 HO60.out))) (below_size za3));have HO72:=zk (Kd.R_lower (Kd.R_new' (Kd.R_new' (Kd.R_new' ho1 (Kd.R_lt (za1 HO_3020001.out))) (Kd.R_lt (za1 HO_3031001.out))) (Kd.R_lt (za1 HO57.out))) (below_size za3));have HO75:=zk (Kd.S_lower (Kd.S_new' (Kd.S_new' (Kd.S_new' (Kd.S_new' (Kd.S_new' (Kd.S_new' (Kd.S_new' (Kd.S_new' (Kd.S_new' (Kd.S_new' ho2 (Kd.S_lt (za2 HO_3009001.out))) (Kd.S_lt (za2 HO_3020000.out))) (Kd.R_lt (za1 HO_3020001.out))) (Kd.S_lt (za2 HO_3020002.out))) (Kd.S_lt (za2 HO_3031000.out))) (Kd.R_lt (za1 HO_3031001.out))) (Kd.S_lt (za2 HO_3031002.out))) (Kd.S_lt (za2 HO54.out))) (Kd.R_lt (za1 HO57.out))) (Kd.S_lt (za2 HO60.out))) (below_size za3));replace BK8:=yb BK8 hb;replace BK19:=yb BK19 hb;replace BK30:=yb BK30 hb;replace BK62:=yb BK62 hb;replace HO_3009001:=zk (Kd.S_mono (Kd.S_told (Kd.S_told (Kd.S_told (Kd.S_old (za2 HO_3009001.out) hb) (Kd.S_base ho0)) (Kd.R_base ho1)) (Kd.S_base ho2)) (fun _ h_=>h_.1));replace HO_3020000:=zk (Kd.S_mono (Kd.S_told (Kd.S_told (Kd.S_told (Kd.S_old (za2 HO_3020000.out) hb) (Kd.S_base ho0)) (Kd.R_base ho1)) (Kd.S_base ho2)) (fun _ h_=>h_.1));replace HO_3020001:=zk (Kd.R_elder' (za1 HO_3020001.out) (Kd.R_base ho1) hb);replace HO_3020002:=zk (Kd.S_mono (Kd.S_told (Kd.S_told (Kd.S_told (Kd.S_old (za2 HO_3020002.out) hb) (Kd.S_base ho0)) (Kd.R_base ho1)) (Kd.S_base ho2)) (fun _ h_=>h_.1));replace HO_3031000:=zk (Kd.S_mono (Kd.S_told (Kd.S_told (Kd.S_told (Kd.S_old (za2 HO_3031000.out) hb) (Kd.S_base ho0)) (Kd.R_base ho1)) (Kd.S_base ho2)) (fun _ h_=>h_.1));replace HO_3031001:=zk (Kd.R_elder' (za1 HO_3031001.out) (Kd.R_base ho1) hb);replace HO_3031002:=zk (Kd.S_mono (Kd.S_told (Kd.S_told (Kd.S_told (Kd.S_old (za2 HO_3031002.out) hb) (Kd.S_base ho0)) (Kd.R_base ho1)) (Kd.S_base ho2)) (fun _ h_=>h_.1));replace HO54:=zk (Kd.S_mono (Kd.S_told (Kd.S_told (Kd.S_told (Kd.S_old (za2 HO54.out) hb) (Kd.S_base ho0)) (Kd.R_base ho1)) (Kd.S_base ho2)) (fun _ h_=>h_.1));replace HO57:=zk (Kd.R_elder' (za1 HO57.out) (Kd.R_base ho1) hb);replace HO60:=zk (Kd.S_mono (Kd.S_told (Kd.S_told (Kd.S_told (Kd.S_old (za2 HO60.out) hb) (Kd.S_base ho0)) (Kd.R_base ho1)) (Kd.S_base ho2)) (fun _ h_=>h_.1));replace HB:=yB HB hb;(try clear hb ho0 ho1 ho2))|((with_reducible refine gate_dst (N:=26) rfl ?_);(try (refine gate_guard (by rfl) ?_;dsimp only));refine zE (cs:=#[.slice none 0 0,.slice none 0 0,.slice none 0 0]) (t:=31) ?_;intro gb77 hg w135 hbox hb;replace HO_8:=zk (Kd.R_below (za1 HO_8.out) hb);replace HO_3009000:=zk (Kd.R_below (za1 HO_3009000.out) hb);replace HO_3009001:=zk (Kd.S_below (za2 HO_3009001.out) hb);replace HO_3020000:=zk (Kd.S_below (za2 HO_3020000.out) hb);replace HO_3020001:=zk (Kd.R_below (za1 HO_3020001.out) hb);replace HO_3020002:=zk (Kd.S_below (za2 HO_3020002.out) hb);replace HO_3031000:=zk (Kd.S_below (za2 HO_3031000.out) hb);replace HO_3031001:=zk (Kd.R_below (za1 HO_3031001.out) hb);replace HO_3031002:=zk (Kd.S_below (za2 HO_3031002.out) hb);replace HO54:=zk (Kd.S_below (za2 HO54.out) hb);replace HO57:=zk (Kd.R_below (za1 HO57.out) hb);replace HO60:=zk (Kd.S_below (za2 HO60.out) hb);replace HO69:=zk (Kd.S_below (za2 HO69.out) hb);replace HO72:=zk (Kd.R_below (za1 HO72.out) hb);replace HO75:=zk (Kd.S_below (za2 HO75.out) hb);have BK77:=zk hbox;have GW77:=zk (zs (w:=w) hg za3);have GE77:=GW77;have NB8_77:=yn hg BK8;have NB77_8:=yp hg BK8;have NB19_77:=yn hg BK19;have NB77_19:=yp hg BK19;have NB30_77:=yn hg BK30;have NB77_30:=yp hg BK30;have NB62_77:=yn hg BK62;have NB77_62:=yp hg BK62;replace BK8:=yb BK8 hb;replace BK19:=yb BK19 hb;replace BK30:=yb BK30 hb;replace BK62:=yb BK62 hb;replace HB:=yB HB hb;clear hb hbox hg;obtain ⟨Ao136,co136,eo136⟩:=Kd.S_slice HO69.out;subst eo136;have hnb137:=NB77_8.out;have hnc137:=NB8_77.out;have hnb138:=NB77_19.out;have hnc138:=NB19_77.out;have hnb139:=NB77_30.out;have hnc139:=NB30_77.out;have hnb140:=NB77_62.out;have hnc140:=NB62_77.out;obtain ⟨hcz141_0,hcz141_1,hcz141_2,hfz141_0,hfz141_1,hfz141_2⟩:=blk3 BK77.out;obtain ⟨Ao142,co142,eo142⟩:=Kd.R_slice HO72.out;subst eo142;obtain ⟨Ao143,co143,eo143⟩:=Kd.S_slice HO75.out;subst eo143)|((with_reducible refine gate_callee (f:=10) rfl ?_);refine zg (some 176) Try.func10 #[.agg #[.slice Ao136 t67.length co136,.slice Ao142 t70.length co142,.slice Ao143 t73.length co143],.string t76] rfl za4 ?_;(with_reducible refine (impl_MapOf.calls kj39 _ _ t67 _ _ t70 _ _ t73 t76 t78 t79 _ ?side1 ?side2 ?side3 ?side4 ?side5 ?side6 A113.out).mono ?_);(case side1=>refine (Kd.S_reads' (e:=29) (base:=w.heap.size) (ok:=fun k_=>(((((((((((some k_ ≠ (.slice Ao142 t70.length co142:Value).ownBlock∧some k_ ≠ (.slice Ao143 t73.length co143:Value).ownBlock)∧some k_ ≠ (.slice Ao12 t5.length co12:Value).ownBlock)∧some k_ ≠ (.slice Ao15 t9.length co15:Value).ownBlock)∧some k_ ≠ (.slice Ao18 t12.length co18:Value).ownBlock)∧some k_ ≠ (.slice Ao19 t15.length co19:Value).ownBlock)∧some k_ ≠ (.slice Ao23 t20.length co23:Value).ownBlock)∧some k_ ≠ (.slice Ao27 t23.length co27:Value).ownBlock)∧some k_ ≠ (.slice Ao28 t26.length co28:Value).ownBlock)∧some k_ ≠ (.slice Ao124 t52.length co124:Value).ownBlock)∧some k_ ≠ (.slice Ao129 t55.length co129:Value).ownBlock)∧some k_ ≠ (.slice Ao130 t58.length co130:Value).ownBlock)) (n:=t67.length) (c:=co136) ?_).2.2;exact za40);(case side2=>exact (Kd.S_reads' HO69.out).2.1);(case side3=>refine (Kd.R_reads' (e:=3) (base:=w.heap.size) (ok:=fun k_=>(((True∧some k_ ≠ (.slice Ao18 t12.length co18:Value).ownBlock)∧some k_ ≠ (.slice Ao27 t23.length co27:Value).ownBlock)∧some k_ ≠ (.slice Ao129 t55.length co129:Value).ownBlock)) (n:=t70.length) (c:=co142) ?_).2.2;exact za44);(case side4=>exact (Kd.R_reads' HO72.out).2.1);(case side5=>refine (Kd.S_reads' (e:=29) (base:=w.heap.size) (ok:=fun k_=>(((((((((((some k_ ≠ (.slice Ao136 t67.length co136:Value).ownBlock∧some k_ ≠ (.slice Ao142 t70.length co142:Value).ownBlock)∧some k_ ≠ (.slice Ao12 t5.length co12:Value).ownBlock)∧some k_ ≠ (.slice Ao15 t9.length co15:Value).ownBlock)∧some k_ ≠ (.slice Ao18 t12.length co18:Value).ownBlock)∧some k_ ≠ (.slice Ao19 t15.length co19:Value).ownBlock)∧some k_ ≠ (.slice Ao23 t20.length co23:Value).ownBlock)∧some k_ ≠ (.slice Ao27 t23.length co27:Value).ownBlock)∧some k_ ≠ (.slice Ao28 t26.length co28:Value).ownBlock)∧some k_ ≠ (.slice Ao124 t52.length co124:Value).ownBlock)∧some k_ ≠ (.slice Ao129 t55.length co129:Value).ownBlock)∧some k_ ≠ (.slice Ao130 t58.length co130:Value).ownBlock)) (n:=t73.length) (c:=co143) ?_).2.2;exact za39);(case side6=>exact (Kd.S_reads' HO75.out).2.1);rintro e w144 ⟨rfl,hb⟩;refine ⟨_,rfl,?_⟩;replace HO_8:=zk (Kd.R_below za98 hb);replace HO_3009000:=zk (Kd.R_below za87 hb);replace HO_3009001:=zk (Kd.S_below za81 hb);replace HO_3020000:=zk (Kd.S_below za79 hb);replace HO_3020001:=zk (Kd.R_below za85 hb);replace HO_3020002:=zk (Kd.S_below za77 hb);replace HO_3031000:=zk (Kd.S_below za75 hb);replace HO_3031001:=zk (Kd.R_below za83 hb);replace HO_3031002:=zk (Kd.S_below za73 hb);replace HO54:=zk (Kd.S_below za91 hb);replace HO57:=zk (Kd.R_below za100 hb);replace HO60:=zk (Kd.S_below za90 hb);replace HO69:=zk (Kd.S_below za40 hb);replace HO72:=zk (Kd.R_below za44 hb);replace HO75:=zk (Kd.S_below za39 hb);replace BK8:=zk (blk_below (g:=gb8) (o:=.cells #[.slice Ao10 t2.length co10,.slice Ao12 t5.length co12] 27 (0,0)) (zpw BK8.out) hb);replace BK19:=zk (blk_below (g:=gb19) (o:=.cells #[.slice Ao15 t9.length co15,.slice Ao18 t12.length co18,.slice Ao19 t15.length co19] 31 (0,0)) (zpw BK19.out) hb);replace BK30:=zk (blk_below (g:=gb30) (o:=.cells #[.slice Ao23 t20.length co23,.slice Ao27 t23.length co27,.slice Ao28 t26.length co28] 31 (0,0)) (zpw BK30.out) hb);replace BK62:=zk (blk_below (g:=gb62) (o:=.cells #[.slice Ao124 t52.length co124,.slice Ao129 t55.length co129,.slice Ao130 t58.length co130] 31 (0,0)) (zpw BK62.out) hb);replace HB:=yB HB hb;replace BK77:=zk (blk_below (g:=gb77) (o:=.cells #[.slice Ao136 t67.length co136,.slice Ao142 t70.length co142,.slice Ao143 t73.length co143] 31 (0,0)) (zpu BK77.out) hb);(try clear hb);obtain ⟨hcz145_0,hcz145_1,hcz145_2,hfz145_0,hfz145_1,hfz145_2⟩:=blk3 BK77.out)|((with_reducible refine gate_callee (f:=16) rfl ?_);refine zg (some 182) Try.func16 #[.agg #[.slice Ao136 t67.length co136,.slice Ao142 t70.length co142,.slice Ao143 t73.length co143],.string t76] rfl za4 ?_;(with_reducible refine (spec_MapOf.calls kj39 _ _ t67 _ _ t70 _ _ t73 t76 t80 t81 _ ?side1 ?side2 ?side3 ?side4 ?side5 ?side6 A114.out).mono ?_);(case side1=>repeat (first|exact (Kd.S_reads' HO69.out).2.2|(with_reducible refine Kd.C_alloc ?_ _)|(with_reducible refine Kd.C_drewN ?_ _)|(with_reducible refine Kd.C_drew ?_)));(case side2=>exact (Kd.S_reads' HO69.out).2.1);(case side3=>repeat (first|exact (Kd.R_reads' HO72.out).2.2|(with_reducible refine Kd.C_alloc ?_ _)|(with_reducible refine Kd.C_drewN ?_ _)|(with_reducible refine Kd.C_drew ?_)));(case side4=>exact (Kd.R_reads' HO72.out).2.1);(case side5=>repeat (first|exact (Kd.S_reads' HO75.out).2.2|(with_reducible refine Kd.C_alloc ?_ _)|(with_reducible refine Kd.C_drewN ?_ _)|(with_reducible refine Kd.C_drew ?_)));(case side6=>exact (Kd.S_reads' HO75.out).2.1);rintro e w146 ⟨rfl,hb⟩;refine ⟨_,rfl,?_⟩;replace HO_8:=zk (Kd.R_below (za1 HO_8.out) hb);replace HO_3009000:=zk (Kd.R_below (za1 HO_3009000.out) hb);replace HO_3009001:=zk (Kd.S_below (za2 HO_3009001.out) hb);replace HO_3020000:=zk (Kd.S_below (za2 HO_3020000.out) hb);replace HO_3020001:=zk (Kd.R_below (za1 HO_3020001.out) hb);replace HO_3020002:=zk (Kd.S_below (za2 HO_3020002.out) hb);replace HO_3031000:=zk (Kd.S_below (za2 HO_3031000.out) hb);replace HO_3031001:=zk (Kd.R_below (za1 HO_3031001.out) hb);replace HO_3031002:=zk (Kd.S_below (za2 HO_3031002.out) hb);replace HO54:=zk (Kd.S_below (za2 HO54.out) hb);replace HO57:=zk (Kd.R_below (za1 HO57.out) hb);replace HO60:=zk (Kd.S_below (za2 HO60.out) hb);replace HO69:=zk (Kd.S_below (za2 HO69.out) hb);replace HO72:=zk (Kd.R_below (za1 HO72.out) hb);replace HO75:=zk (Kd.S_below (za2 HO75.out) hb);replace BK8:=yb BK8 hb;replace BK19:=yb BK19 hb;replace BK30:=yb BK30 hb;replace BK62:=yb BK62 hb;replace BK77:=yb BK77 hb;replace HB:=yB HB hb;(try clear hb);obtain ⟨hcz147_0,hcz147_1,hcz147_2,hfz147_0,hfz147_1,hfz147_2⟩:=blk3 BK62.out)|((with_reducible refine gate_callee (f:=10) rfl ?_);refine zg (some 188) Try.func10 #[.agg #[.slice Ao124 t52.length co124,.slice Ao129 t55.length co129,.slice Ao130 t58.length co130],.string t63] rfl za4 ?_;(with_reducible refine (impl_MapOf.calls kj39 _ _ t52 _ _ t55 _ _ t58 t63 t82 _ _ ?side1 ?side2 ?side3 ?side4 ?side5 ?side6 A115.out).mono ?_);(case side1=>repeat (first|exact (Kd.S_reads' HO54.out).2.2|(with_reducible refine Kd.C_alloc ?_ _)|(with_reducible refine Kd.C_drewN ?_ _)|(with_reducible refine Kd.C_drew ?_)));(case side2=>exact (Kd.S_reads' HO54.out).2.1);(case side3=>repeat (first|exact (Kd.R_reads' HO57.out).2.2|(with_reducible refine Kd.C_alloc ?_ _)|(with_reducible refine Kd.C_drewN ?_ _)|(with_reducible refine Kd.C_drew ?_)));(case side4=>exact (Kd.R_reads' HO57.out).2.1);(case side5=>repeat (first|exact (Kd.S_reads' HO60.out).2.2|(with_reducible refine Kd.C_alloc ?_ _)|(with_reducible refine Kd.C_drewN ?_ _)|(with_reducible refine Kd.C_drew ?_)));(case side6=>exact (Kd.S_reads' HO60.out).2.1);rintro e w148 ⟨rfl,hb⟩;refine ⟨_,rfl,?_⟩;replace HO_8:=zk (Kd.R_below (za1 HO_8.out) hb);replace HO_3009000:=zk (Kd.R_below (za1 HO_3009000.out) hb);replace HO_3009001:=zk (Kd.S_below (za2 HO_3009001.out) hb);replace HO_3020000:=zk (Kd.S_below (za2 HO_3020000.out) hb);replace HO_3020001:=zk (Kd.R_below (za1 HO_3020001.out) hb);replace HO_3020002:=zk (Kd.S_below (za2 HO_3020002.out) hb);replace HO_3031000:=zk (Kd.S_below (za2 HO_3031000.out) hb);replace HO_3031001:=zk (Kd.R_below (za1 HO_3031001.out) hb);replace HO_3031002:=zk (Kd.S_below (za2 HO_3031002.out) hb);replace HO54:=zk (Kd.S_below (za2 HO54.out) hb);replace HO57:=zk (Kd.R_below (za1 HO57.out) hb);replace HO60:=zk (Kd.S_below (za2 HO60.out) hb);replace HO69:=zk (Kd.S_below (za2 HO69.out) hb);replace HO72:=zk (Kd.R_below (za1 HO72.out) hb);replace HO75:=zk (Kd.S_below (za2 HO75.out) hb);replace BK8:=yb BK8 hb;replace BK19:=yb BK19 hb;replace BK30:=yb BK30 hb;replace BK62:=yb BK62 hb;replace BK77:=yb BK77 hb;replace HB:=yB HB hb;(try clear hb)))
            go_ret
            exact ⟨za15,za3⟩
          · replace c121:=Bool.eq_false_iff.mpr c121
            subst c121
            have H1:(some false)=some r:=by rw [if_neg zff] at H;exact H
            exact absurd ((zi H1).trans HRT_.out) (by decide)
          · replace c120:=Bool.eq_false_iff.mpr c120
            subst c120
            rw [if_neg zff] at H
            try dsimp only at H
            obtain rfl:=zi H
            go_wp2_with (first|((with_reducible refine gate_callee (f:=12) rfl ?_);refine zg (some 153) Try.func12 #[.slice A0 l0.length c0] rfl za4 ?_;(with_reducible refine (spec_DrawWordOfMap.calls kj39 _ _ l0 t52 t55 t58 t61 _ ?side1 ?side2 A109.out).mono ?_);(case side1=>repeat (first|exact (Kd.C_below HR0.out HB.out)|(with_reducible refine Kd.C_alloc ?_ _)|(with_reducible refine Kd.C_drewN ?_ _)|(with_reducible refine Kd.C_drew ?_)));(case side2=>exact HC0.out);rintro e w176 ⟨v53,v3056,v59,rfl,ho0,ho1,ho2,hb⟩;refine ⟨_,rfl,?_⟩;replace HO_8:=zk (Kd.R_below (za1 HO_8.out) hb);replace HO_3009000:=zk (Kd.R_below (za1 HO_3009000.out) hb);have HO54:=zk (Kd.S_lower (Kd.S_new' (Kd.S_new' (Kd.S_new' (Kd.S_new' (Kd.S_new' (Kd.S_new' (Kd.S_new' ho0 (Kd.S_lt (za2 HO_3009001.out))) (Kd.S_lt (za2 HO_3020000.out))) (Kd.R_lt (za1 HO_3020001.out))) (Kd.S_lt (za2 HO_3020002.out))) (Kd.S_lt (za2 HO_3031000.out))) (Kd.R_lt (za1 HO_3031001.out))) (Kd.S_lt (za2 HO_3031002.out))) (below_size za3));have HO57:=zk (Kd.R_lower (Kd.R_new' (Kd.R_new' ho1 (Kd.R_lt (za1 HO_3020001.out))) (Kd.R_lt (za1 HO_3031001.out))) (below_size za3));have HO60:=zk (Kd.S_lower (Kd.S_new' (Kd.S_new' (Kd.S_new' (Kd.S_new' (Kd.S_new' (Kd.S_new' (Kd.S_new' ho2 (Kd.S_lt (za2 HO_3009001.out))) (Kd.S_lt (za2 HO_3020000.out))) (Kd.R_lt (za1 HO_3020001.out))) (Kd.S_lt (za2 HO_3020002.out))) (Kd.S_lt (za2 HO_3031000.out))) (Kd.R_lt (za1 HO_3031001.out))) (Kd.S_lt (za2 HO_3031002.out))) (below_size za3));replace BK8:=yb BK8 hb;replace BK19:=yb BK19 hb;replace BK30:=yb BK30 hb;replace HO_3009001:=zk (Kd.S_mono (Kd.S_told (Kd.S_told (Kd.S_told (Kd.S_old (za2 HO_3009001.out) hb) (Kd.S_base ho0)) (Kd.R_base ho1)) (Kd.S_base ho2)) (fun _ h_=>h_.1));replace HO_3020000:=zk (Kd.S_mono (Kd.S_told (Kd.S_told (Kd.S_told (Kd.S_old (za2 HO_3020000.out) hb) (Kd.S_base ho0)) (Kd.R_base ho1)) (Kd.S_base ho2)) (fun _ h_=>h_.1));replace HO_3020001:=zk (Kd.R_elder' (za1 HO_3020001.out) (Kd.R_base ho1) hb);replace HO_3020002:=zk (Kd.S_mono (Kd.S_told (Kd.S_told (Kd.S_told (Kd.S_old (za2 HO_3020002.out) hb) (Kd.S_base ho0)) (Kd.R_base ho1)) (Kd.S_base ho2)) (fun _ h_=>h_.1));replace HO_3031000:=zk (Kd.S_mono (Kd.S_told (Kd.S_told (Kd.S_told (Kd.S_old (za2 HO_3031000.out) hb) (Kd.S_base ho0)) (Kd.R_base ho1)) (Kd.S_base ho2)) (fun _ h_=>h_.1));replace HO_3031001:=zk (Kd.R_elder' (za1 HO_3031001.out) (Kd.R_base ho1) hb);replace HO_3031002:=zk (Kd.S_mono (Kd.S_told (Kd.S_told (Kd.S_told (Kd.S_old (za2 HO_3031002.out) hb) (Kd.S_base ho0)) (Kd.R_base ho1)) (Kd.S_base ho2)) (fun _ h_=>h_.1));replace HB:=yB HB hb;(try clear hb ho0 ho1 ho2))|((with_reducible refine gate_dst (N:=20) rfl ?_);(try (refine gate_guard (by rfl) ?_;dsimp only));refine zE (cs:=#[.slice none 0 0,.slice none 0 0,.slice none 0 0]) (t:=31) ?_;intro gb62 hg w177 hbox hb;replace HO_8:=zk (Kd.R_below (za1 HO_8.out) hb);replace HO_3009000:=zk (Kd.R_below (za1 HO_3009000.out) hb);replace HO_3009001:=zk (Kd.S_below (za2 HO_3009001.out) hb);replace HO_3020000:=zk (Kd.S_below (za2 HO_3020000.out) hb);replace HO_3020001:=zk (Kd.R_below (za1 HO_3020001.out) hb);replace HO_3020002:=zk (Kd.S_below (za2 HO_3020002.out) hb);replace HO_3031000:=zk (Kd.S_below (za2 HO_3031000.out) hb);replace HO_3031001:=zk (Kd.R_below (za1 HO_3031001.out) hb);replace HO_3031002:=zk (Kd.S_below (za2 HO_3031002.out) hb);replace HO54:=zk (Kd.S_below (za2 HO54.out) hb);replace HO57:=zk (Kd.R_below (za1 HO57.out) hb);replace HO60:=zk (Kd.S_below (za2 HO60.out) hb);have BK62:=zk hbox;have GW62:=zk (zs (w:=w) hg za3);have GE62:=GW62;have NB8_62:=yn hg BK8;have NB62_8:=yp hg BK8;have NB19_62:=yn hg BK19;have NB62_19:=yp hg BK19;have NB30_62:=yn hg BK30;have NB62_30:=yp hg BK30;replace BK8:=yb BK8 hb;replace BK19:=yb BK19 hb;replace BK30:=yb BK30 hb;replace HB:=yB HB hb;clear hb hbox hg;obtain ⟨Ao178,co178,eo178⟩:=Kd.S_slice HO54.out;subst eo178;have hnb179:=NB62_8.out;have hnc179:=NB8_62.out;have hnb180:=NB62_19.out;have hnc180:=NB19_62.out;have hnb181:=NB62_30.out;have hnc181:=NB30_62.out;obtain ⟨hcz182_0,hcz182_1,hcz182_2,hfz182_0,hfz182_1,hfz182_2⟩:=blk3 BK62.out;obtain ⟨Ao183,co183,eo183⟩:=Kd.R_slice HO57.out;subst eo183;obtain ⟨Ao184,co184,eo184⟩:=Kd.S_slice HO60.out;subst eo184)|((with_reducible refine gate_callee (f:=13) rfl ?_);refine zg (some 159) Try.func13 #[.agg #[.slice Ao178 t52.length co178,.slice Ao183 t55.length co183,.slice Ao184 t58.length co184],.int .i64 t61] rfl za4 ?_;(with_reducible refine (impl_WordOfMap.calls _ _ t52 _ _ t55 _ _ t58 t61 t63 _ _ ?side1 ?side2 ?side3 ?side4 ?side5 ?side6 A110.out).mono ?_);(case side1=>refine (Kd.S_reads' (e:=29) (base:=w.heap.size) (ok:=fun k_=>((((((((some k_ ≠ (.slice Ao183 t55.length co183:Value).ownBlock∧some k_ ≠ (.slice Ao184 t58.length co184:Value).ownBlock)∧some k_ ≠ (.slice Ao12 t5.length co12:Value).ownBlock)∧some k_ ≠ (.slice Ao15 t9.length co15:Value).ownBlock)∧some k_ ≠ (.slice Ao18 t12.length co18:Value).ownBlock)∧some k_ ≠ (.slice Ao19 t15.length co19:Value).ownBlock)∧some k_ ≠ (.slice Ao23 t20.length co23:Value).ownBlock)∧some k_ ≠ (.slice Ao27 t23.length co27:Value).ownBlock)∧some k_ ≠ (.slice Ao28 t26.length co28:Value).ownBlock)) (n:=t52.length) (c:=co178) ?_).2.2;exact za42);(case side2=>exact (Kd.S_reads' HO54.out).2.1);(case side3=>refine (Kd.R_reads' (e:=3) (base:=w.heap.size) (ok:=fun k_=>((True∧some k_ ≠ (.slice Ao18 t12.length co18:Value).ownBlock)∧some k_ ≠ (.slice Ao27 t23.length co27:Value).ownBlock)) (n:=t55.length) (c:=co183) ?_).2.2;exact za45);(case side4=>exact (Kd.R_reads' HO57.out).2.1);(case side5=>refine (Kd.S_reads' (e:=29) (base:=w.heap.size) (ok:=fun k_=>((((((((some k_ ≠ (.slice Ao178 t52.length co178:Value).ownBlock∧some k_ ≠ (.slice Ao183 t55.length co183:Value).ownBlock)∧some k_ ≠ (.slice Ao12 t5.length co12:Value).ownBlock)∧some k_ ≠ (.slice Ao15 t9.length co15:Value).ownBlock)∧some k_ ≠ (.slice Ao18 t12.length co18:Value).ownBlock)∧some k_ ≠ (.slice Ao19 t15.length co19:Value).ownBlock)∧some k_ ≠ (.slice Ao23 t20.length co23:Value).ownBlock)∧some k_ ≠ (.slice Ao27 t23.length co27:Value).ownBlock)∧some k_ ≠ (.slice Ao28 t26.length co28:Value).ownBlock)) (n:=t58.length) (c:=co184) ?_).2.2;exact za41);(case side6=>exact (Kd.S_reads' HO60.out).2.1);rintro e w185 ⟨rfl,hb⟩;refine ⟨_,rfl,?_⟩;replace HO_8:=zk (Kd.R_below za99 hb);replace HO_3009000:=zk (Kd.R_below za88 hb);replace HO_3009001:=zk (Kd.S_below za82 hb);replace HO_3020000:=zk (Kd.S_below za80 hb);replace HO_3020001:=zk (Kd.R_below za86 hb);replace HO_3020002:=zk (Kd.S_below za78 hb);replace HO_3031000:=zk (Kd.S_below za76 hb);replace HO_3031001:=zk (Kd.R_below za84 hb);replace HO_3031002:=zk (Kd.S_below za74 hb);replace HO54:=zk (Kd.S_below za42 hb);replace HO57:=zk (Kd.R_below za45 hb);replace HO60:=zk (Kd.S_below za41 hb);replace BK8:=zk (blk_below (g:=gb8) (o:=.cells #[.slice Ao10 t2.length co10,.slice Ao12 t5.length co12] 27 (0,0)) (zpw BK8.out) hb);replace BK19:=zk (blk_below (g:=gb19) (o:=.cells #[.slice Ao15 t9.length co15,.slice Ao18 t12.length co18,.slice Ao19 t15.length co19] 31 (0,0)) (zpw BK19.out) hb);replace BK30:=zk (blk_below (g:=gb30) (o:=.cells #[.slice Ao23 t20.length co23,.slice Ao27 t23.length co27,.slice Ao28 t26.length co28] 31 (0,0)) (zpw BK30.out) hb);replace HB:=yB HB hb;replace BK62:=zk (blk_below (g:=gb62) (o:=.cells #[.slice Ao178 t52.length co178,.slice Ao183 t55.length co183,.slice Ao184 t58.length co184] 31 (0,0)) (zpu BK62.out) hb);(try clear hb);obtain ⟨hcz186_0,hcz186_1,hcz186_2,hfz186_0,hfz186_1,hfz186_2⟩:=blk3 BK62.out)|((with_reducible refine gate_callee (f:=14) rfl ?_);refine zg (some 165) Try.func14 #[.agg #[.slice Ao178 t52.length co178,.slice Ao183 t55.length co183,.slice Ao184 t58.length co184],.int .i64 t61] rfl za4 ?_;(with_reducible refine (spec_WordOfMap.calls kj39 _ _ t52 _ _ t55 _ _ t58 t61 t65 t66 _ ?side1 ?side2 ?side3 ?side4 ?side5 ?side6 A111.out).mono ?_);(case side1=>repeat (first|exact (Kd.S_reads' HO54.out).2.2|(with_reducible refine Kd.C_alloc ?_ _)|(with_reducible refine Kd.C_drewN ?_ _)|(with_reducible refine Kd.C_drew ?_)));(case side2=>exact (Kd.S_reads' HO54.out).2.1);(case side3=>repeat (first|exact (Kd.R_reads' HO57.out).2.2|(with_reducible refine Kd.C_alloc ?_ _)|(with_reducible refine Kd.C_drewN ?_ _)|(with_reducible refine Kd.C_drew ?_)));(case side4=>exact (Kd.R_reads' HO57.out).2.1);(case side5=>repeat (first|exact (Kd.S_reads' HO60.out).2.2|(with_reducible refine Kd.C_alloc ?_ _)|(with_reducible refine Kd.C_drewN ?_ _)|(with_reducible refine Kd.C_drew ?_)));(case side6=>exact (Kd.S_reads' HO60.out).2.1);rintro e w187 ⟨rfl,hb⟩;refine ⟨_,rfl,?_⟩;replace HO_8:=zk (Kd.R_below (za1 HO_8.out) hb);replace HO_3009000:=zk (Kd.R_below (za1 HO_3009000.out) hb);replace HO_3009001:=zk (Kd.S_below (za2 HO_3009001.out) hb);replace HO_3020000:=zk (Kd.S_below (za2 HO_3020000.out) hb);replace HO_3020001:=zk (Kd.R_below (za1 HO_3020001.out) hb);replace HO_3020002:=zk (Kd.S_below (za2 HO_3020002.out) hb);replace HO_3031000:=zk (Kd.S_below (za2 HO_3031000.out) hb);replace HO_3031001:=zk (Kd.R_below (za1 HO_3031001.out) hb);replace HO_3031002:=zk (Kd.S_below (za2 HO_3031002.out) hb);replace HO54:=zk (Kd.S_below (za2 HO54.out) hb);replace HO57:=zk (Kd.R_below (za1 HO57.out) hb);replace HO60:=zk (Kd.S_below (za2 HO60.out) hb);replace BK8:=yb BK8 hb;replace BK19:=yb BK19 hb;replace BK30:=yb BK30 hb;replace BK62:=yb BK62 hb;replace HB:=yB HB hb;(try clear hb))|((with_reducible refine gate_callee (f:=15) rfl ?_);refine zg (some 170) Try.func15 #[.slice A0 l0.length c0] rfl za4 ?_;(with_reducible refine (spec_DrawMapOf.calls kj39 _ _ l0 t67 t70 t73 t76 _ ?side1 ?side2 A112.out).mono ?_);(case side1=>repeat (first|exact (Kd.C_below HR0.out HB.out)|(with_reducible refine Kd.C_alloc ?_ _)|(with_reducible refine Kd.C_drewN ?_ _)|(with_reducible refine Kd.C_drew ?_)));(case side2=>exact HC0.out);rintro e w188 ⟨v68,v71,v74,rfl,ho0,ho1,ho2,hb⟩;refine ⟨_,rfl,?_⟩;replace HO_8:=zk (Kd.R_below (za1 HO_8.out) hb);replace HO_3009000:=zk (Kd.R_below (za1 HO_3009000.out) hb);have HO69:=zk (Kd.S_lower (Kd.S_new' (Kd.S_new' (Kd.S_new' (Kd.S_new' (Kd.S_new' (Kd.S_new' (Kd.S_new' (Kd.S_new' (Kd.S_new' (Kd.S_new' ho0 (Kd.S_lt (za2 HO_3009001.out))) (Kd.S_lt (za2 HO_3020000.out))) (Kd.R_lt (za1 HO_3020001.out))) (Kd.S_lt (za2 HO_3020002.out))) (Kd.S_lt (za2 HO_3031000.out))) (Kd.R_lt (za1 HO_3031001.out))) (Kd.S_lt (za2 HO_3031002.out))) (Kd.S_lt (za2 HO54.out))) (Kd.R_lt (za1 HO57.out))) (Kd.S_lt (za2 HO60.out))) (below_size za3));have HO72:=zk (Kd.R_lower (Kd.R_new' (Kd.R_new' (Kd.R_new' ho1 (Kd.R_lt (za1 HO_3020001.out))) (Kd.R_lt (za1 HO_3031001.out))) (Kd.R_lt (za1 HO57.out))) (below_size za3));have HO75:=zk (Kd.S_lower (Kd.S_new' (Kd.S_new' (Kd.S_new' (Kd.S_new' (Kd.S_new' (Kd.S_new' (Kd.S_new' (Kd.S_new' (Kd.S_new' (Kd.S_new' ho2 (Kd.S_lt (za2 HO_3009001.out))) (Kd.S_lt (za2 HO_3020000.out))) (Kd.R_lt (za1 HO_3020001.out))) (Kd.S_lt (za2 HO_3020002.out))) (Kd.S_lt (za2 HO_3031000.out))) (Kd.R_lt (za1 HO_3031001.out))) (Kd.S_lt (za2 HO_3031002.out))) (Kd.S_lt (za2 HO54.out))) (Kd.R_lt (za1 HO57.out))) (Kd.S_lt (za2 HO60.out))) (below_size za3));replace BK8:=yb BK8 hb;replace BK19:=yb BK19 hb;replace BK30:=yb BK30 hb;replace BK62:=yb BK62 hb;replace HO_3009001:=zk (Kd.S_mono (Kd.S_told (Kd.S_told (Kd.S_told (Kd.S_old (za2 HO_3009001.out) hb) (Kd.S_base ho0)) (Kd.R_base ho1)) (Kd.S_base ho2)) (fun _ h_=>h_.1));replace HO_3020000:=zk (Kd.S_mono (Kd.S_told (Kd.S_told (Kd.S_told (Kd.S_old (za2 HO_3020000.out) hb) (Kd.S_base ho0)) (Kd.R_base ho1)) (Kd.S_base ho2)) (fun _ h_=>h_.1));replace HO_3020001:=zk (Kd.R_elder' (za1 HO_3020001.out) (Kd.R_base ho1) hb);replace HO_3020002:=zk (Kd.S_mono (Kd.S_told (Kd.S_told (Kd.S_told (Kd.S_old (za2 HO_3020002.out) hb) (Kd.S_base ho0)) (Kd.R_base ho1)) (Kd.S_base ho2)) (fun _ h_=>h_.1));replace HO_3031000:=zk (Kd.S_mono (Kd.S_told (Kd.S_told (Kd.S_told (Kd.S_old (za2 HO_3031000.out) hb) (Kd.S_base ho0)) (Kd.R_base ho1)) (Kd.S_base ho2)) (fun _ h_=>h_.1));replace HO_3031001:=zk (Kd.R_elder' (za1 HO_3031001.out) (Kd.R_base ho1) hb);replace HO_3031002:=zk (Kd.S_mono (Kd.S_told (Kd.S_told (Kd.S_told (Kd.S_old (za2 HO_3031002.out) hb) (Kd.S_base ho0)) (Kd.R_base ho1)) (Kd.S_base ho2)) (fun _ h_=>h_.1));replace HO54:=zk (Kd.S_mono (Kd.S_told (Kd.S_told (Kd.S_told (Kd.S_old (za2 HO54.out) hb) (Kd.S_base ho0)) (Kd.R_base ho1)) (Kd.S_base ho2)) (fun _ h_=>h_.1));replace HO57:=zk (Kd.R_elder' (za1 HO57.out) (Kd.R_base ho1) hb);replace HO60:=zk (Kd.S_mono (Kd.S_told (Kd.S_told (Kd.S_told (Kd.S_old (za2 HO60.out) hb) (Kd.S_base ho0)) (Kd.R_base ho1)) (Kd.S_base ho2)) (fun _ h_=>h_.1));replace HB:=yB HB hb;(try clear hb ho0 ho1 ho2))|((with_reducible refine gate_dst (N:=26) rfl ?_);(try (refine gate_guard (by rfl) ?_;dsimp only));refine zE (cs:=#[.slice none 0 0,.slice none 0 0,.slice none 0 0]) (t:=31) ?_;intro gb77 hg w189 hbox hb;replace HO_8:=zk (Kd.R_below (za1 HO_8.out) hb);replace HO_3009000:=zk (Kd.R_below (za1 HO_3009000.out) hb);replace HO_3009001:=zk (Kd.S_below (za2 HO_3009001.out) hb);replace HO_3020000:=zk (Kd.S_below (za2 HO_3020000.out) hb);replace HO_3020001:=zk (Kd.R_below (za1 HO_3020001.out) hb);replace HO_3020002:=zk (Kd.S_below (za2 HO_3020002.out) hb);replace HO_3031000:=zk (Kd.S_below (za2 HO_3031000.out) hb);replace HO_3031001:=zk (Kd.R_below (za1 HO_3031001.out) hb);replace HO_3031002:=zk (Kd.S_below (za2 HO_3031002.out) hb);replace HO54:=zk (Kd.S_below (za2 HO54.out) hb);replace HO57:=zk (Kd.R_below (za1 HO57.out) hb);replace HO60:=zk (Kd.S_below (za2 HO60.out) hb);replace HO69:=zk (Kd.S_below (za2 HO69.out) hb);replace HO72:=zk (Kd.R_below (za1 HO72.out) hb);replace HO75:=zk (Kd.S_below (za2 HO75.out) hb);have BK77:=zk hbox;have GW77:=zk (zs (w:=w) hg za3);have GE77:=GW77;have NB8_77:=yn hg BK8;have NB77_8:=yp hg BK8;have NB19_77:=yn hg BK19;have NB77_19:=yp hg BK19;have NB30_77:=yn hg BK30;have NB77_30:=yp hg BK30;have NB62_77:=yn hg BK62;have NB77_62:=yp hg BK62;replace BK8:=yb BK8 hb;replace BK19:=yb BK19 hb;replace BK30:=yb BK30 hb;replace BK62:=yb BK62 hb;replace HB:=yB HB hb;clear hb hbox hg;obtain ⟨Ao190,co190,eo190⟩:=Kd.S_slice HO69.out;subst eo190;have hnb191:=NB77_8.out;have hnc191:=NB8_77.out;have hnb192:=NB77_19.out;have hnc192:=NB19_77.out;have hnb193:=NB77_30.out;have hnc193:=NB30_77.out;have hnb194:=NB77_62.out;have hnc194:=NB62_77.out;obtain ⟨hcz195_0,hcz195_1,hcz195_2,hfz195_0,hfz195_1,hfz195_2⟩:=blk3 BK77.out;obtain ⟨Ao196,co196,eo196⟩:=Kd.R_slice HO72.out;subst eo196;obtain ⟨Ao197,co197,eo197⟩:=Kd.S_slice HO75.out;subst eo197)|((with_reducible refine gate_callee (f:=10) rfl ?_);refine zg (some 176) Try.func10 #[.agg #[.slice Ao190 t67.length co190,.slice Ao196 t70.length co196,.slice Ao197 t73.length co197],.string t76] rfl za4 ?_;(with_reducible refine (impl_MapOf.calls kj39 _ _ t67 _ _ t70 _ _ t73 t76 t78 t79 _ ?side1 ?side2 ?side3 ?side4 ?side5 ?side6 A113.out).mono ?_);(case side1=>refine (Kd.S_reads' (e:=29) (base:=w.heap.size) (ok:=fun k_=>(((((((((((some k_ ≠ (.slice Ao196 t70.length co196:Value).ownBlock∧some k_ ≠ (.slice Ao197 t73.length co197:Value).ownBlock)∧some k_ ≠ (.slice Ao12 t5.length co12:Value).ownBlock)∧some k_ ≠ (.slice Ao15 t9.length co15:Value).ownBlock)∧some k_ ≠ (.slice Ao18 t12.length co18:Value).ownBlock)∧some k_ ≠ (.slice Ao19 t15.length co19:Value).ownBlock)∧some k_ ≠ (.slice Ao23 t20.length co23:Value).ownBlock)∧some k_ ≠ (.slice Ao27 t23.length co27:Value).ownBlock)∧some k_ ≠ (.slice Ao28 t26.length co28:Value).ownBlock)∧some k_ ≠ (.slice Ao178 t52.length co178:Value).ownBlock)∧some k_ ≠ (.slice Ao183 t55.length co183:Value).ownBlock)∧some k_ ≠ (.slice Ao184 t58.length co184:Value).ownBlock)) (n:=t67.length) (c:=co190) ?_).2.2;exact za40);(case side2=>exact (Kd.S_reads' HO69.out).2.1);(case side3=>refine (Kd.R_reads' (e:=3) (base:=w.heap.size) (ok:=fun k_=>(((True∧some k_ ≠ (.slice Ao18 t12.length co18:Value).ownBlock)∧some k_ ≠ (.slice Ao27 t23.length co27:Value).ownBlock)∧some k_ ≠ (.slice Ao183 t55.length co183:Value).ownBlock)) (n:=t70.length) (c:=co196) ?_).2.2;exact za44);(case side4=>exact (Kd.R_reads' HO72.out).2.1);(case side5=>refine (Kd.S_reads' (e:=29) (base:=w.heap.size) (ok:=fun k_=>(((((((((((some k_ ≠ (.slice Ao190 t67.length co190:Value).ownBlock∧some k_ ≠ (.slice Ao196 t70.length co196:Value).ownBlock)∧some k_ ≠ (.slice Ao12 t5.length co12:Value).ownBlock)∧some k_ ≠ (.slice Ao15 t9.length co15:Value).ownBlock)∧some k_ ≠ (.slice Ao18 t12.length co18:Value).ownBlock)∧some k_ ≠ (.slice Ao19 t15.length co19:Value).ownBlock)∧some k_ ≠ (.slice Ao23 t20.length co23:Value).ownBlock)∧some k_ ≠ (.slice Ao27 t23.length co27:Value).ownBlock)∧some k_ ≠ (.slice Ao28 t26.length co28:Value).ownBlock)∧some k_ ≠ (.slice Ao178 t52.length co178:Value).ownBlock)∧some k_ ≠ (.slice Ao183 t55.length co183:Value).ownBlock)∧some k_ ≠ (.slice Ao184 t58.length co184:Value).ownBlock)) (n:=t73.length) (c:=co197) ?_).2.2;exact za39);(case side6=>exact (Kd.S_reads' HO75.out).2.1);rintro e w198 ⟨rfl,hb⟩;refine ⟨_,rfl,?_⟩;replace HO_8:=zk (Kd.R_below za98 hb);replace HO_3009000:=zk (Kd.R_below za87 hb);replace HO_3009001:=zk (Kd.S_below za81 hb);replace HO_3020000:=zk (Kd.S_below za79 hb);replace HO_3020001:=zk (Kd.R_below za85 hb);replace HO_3020002:=zk (Kd.S_below za77 hb);replace HO_3031000:=zk (Kd.S_below za75 hb);replace HO_3031001:=zk (Kd.R_below za83 hb);replace HO_3031002:=zk (Kd.S_below za73 hb);replace HO54:=zk (Kd.S_below za91 hb);replace HO57:=zk (Kd.R_below za100 hb);replace HO60:=zk (Kd.S_below za90 hb);replace HO69:=zk (Kd.S_below za40 hb);replace HO72:=zk (Kd.R_below za44 hb);replace HO75:=zk (Kd.S_below za39 hb);replace BK8:=zk (blk_below (g:=gb8) (o:=.cells #[.slice Ao10 t2.length co10,.slice Ao12 t5.length co12] 27 (0,0)) (zpw BK8.out) hb);replace BK19:=zk (blk_below (g:=gb19) (o:=.cells #[.slice Ao15 t9.length co15,.slice Ao18 t12.length co18,.slice Ao19 t15.length co19] 31 (0,0)) (zpw BK19.out) hb);replace BK30:=zk (blk_below (g:=gb30) (o:=.cells #[.slice Ao23 t20.length co23,.slice Ao27 t23.length co27,.slice Ao28 t26.length co28] 31 (0,0)) (zpw BK30.out) hb);replace BK62:=zk (blk_below (g:=gb62) (o:=.cells #[.slice Ao178 t52.length co178,.slice Ao183 t55.length co183,.slice Ao184 t58.length co184] 31 (0,0)) (zpw BK62.out) hb);replace HB:=yB HB hb;replace BK77:=zk (blk_below (g:=gb77) (o:=.cells #[.slice Ao190 t67.length co190,.slice Ao196 t70.length co196,.slice Ao197 t73.length co197] 31 (0,0)) (zpu BK77.out) hb);(try clear hb);obtain ⟨hcz199_0,hcz199_1,hcz199_2,hfz199_0,hfz199_1,hfz199_2⟩:=blk3 BK77.out)|((with_reducible refine gate_callee (f:=16) rfl ?_);refine zg (some 182) Try.func16 #[.agg #[.slice Ao190 t67.length co190,.slice Ao196 t70.length co196,.slice Ao197 t73.length co197],.string t76] rfl za4 ?_;(with_reducible refine (spec_MapOf.calls kj39 _ _ t67 _ _ t70 _ _ t73 t76 t80 t81 _ ?side1 ?side2 ?side3 ?side4 ?side5 ?side6 A114.out).mono ?_);(case side1=>repeat (first|exact (Kd.S_reads' HO69.out).2.2|(with_reducible refine Kd.C_alloc ?_ _)|(with_reducible refine Kd.C_drewN ?_ _)|(with_reducible refine Kd.C_drew ?_)));(case side2=>exact (Kd.S_reads' HO69.out).2.1);(case side3=>repeat (first|exact (Kd.R_reads' HO72.out).2.2|(with_reducible refine Kd.C_alloc ?_ _)|(with_reducible refine Kd.C_drewN ?_ _)|(with_reducible refine Kd.C_drew ?_)));(case side4=>exact (Kd.R_reads' HO72.out).2.1);(case side5=>repeat (first|exact (Kd.S_reads' HO75.out).2.2|(with_reducible refine Kd.C_alloc ?_ _)|(with_reducible refine Kd.C_drewN ?_ _)|(with_reducible refine Kd.C_drew ?_)));(case side6=>exact (Kd.S_reads' HO75.out).2.1);rintro e w200 ⟨rfl,hb⟩;refine ⟨_,rfl,?_⟩;replace HO_8:=zk (Kd.R_below (za1 HO_8.out) hb);replace HO_3009000:=zk (Kd.R_below (za1 HO_3009000.out) hb);replace HO_3009001:=zk (Kd.S_below (za2 HO_3009001.out) hb);replace HO_3020000:=zk (Kd.S_below (za2 HO_3020000.out) hb);replace HO_3020001:=zk (Kd.R_below (za1 HO_3020001.out) hb);replace HO_3020002:=zk (Kd.S_below (za2 HO_3020002.out) hb);replace HO_3031000:=zk (Kd.S_below (za2 HO_3031000.out) hb);replace HO_3031001:=zk (Kd.R_below (za1 HO_3031001.out) hb);replace HO_3031002:=zk (Kd.S_below (za2 HO_3031002.out) hb);replace HO54:=zk (Kd.S_below (za2 HO54.out) hb);replace HO57:=zk (Kd.R_below (za1 HO57.out) hb);replace HO60:=zk (Kd.S_below (za2 HO60.out) hb);replace HO69:=zk (Kd.S_below (za2 HO69.out) hb);replace HO72:=zk (Kd.R_below (za1 HO72.out) hb);replace HO75:=zk (Kd.S_below (za2 HO75.out) hb);replace BK8:=yb BK8 hb;replace BK19:=yb BK19 hb;replace BK30:=yb BK30 hb;replace BK62:=yb BK62 hb;replace BK77:=yb BK77 hb;replace HB:=yB HB hb;(try clear hb);obtain ⟨hcz201_0,hcz201_1,hcz201_2,hfz201_0,hfz201_1,hfz201_2⟩:=blk3 BK62.out)|((with_reducible refine gate_callee (f:=10) rfl ?_);refine zg (some 188) Try.func10 #[.agg #[.slice Ao178 t52.length co178,.slice Ao183 t55.length co183,.slice Ao184 t58.length co184],.string t63] rfl za4 ?_;(with_reducible refine (impl_MapOf.calls kj39 _ _ t52 _ _ t55 _ _ t58 t63 t82 t83 _ ?side1 ?side2 ?side3 ?side4 ?side5 ?side6 A115.out).mono ?_);(case side1=>repeat (first|exact (Kd.S_reads' HO54.out).2.2|(with_reducible refine Kd.C_alloc ?_ _)|(with_reducible refine Kd.C_drewN ?_ _)|(with_reducible refine Kd.C_drew ?_)));(case side2=>exact (Kd.S_reads' HO54.out).2.1);(case side3=>repeat (first|exact (Kd.R_reads' HO57.out).2.2|(with_reducible refine Kd.C_alloc ?_ _)|(with_reducible refine Kd.C_drewN ?_ _)|(with_reducible refine Kd.C_drew ?_)));(case side4=>exact (Kd.R_reads' HO57.out).2.1);(case side5=>repeat (first|exact (Kd.S_reads' HO60.out).2.2|(with_reducible refine Kd.C_alloc ?_ _)|(with_reducible refine Kd.C_drewN ?_ _)|(with_reducible refine Kd.C_drew ?_)));(case side6=>exact (Kd.S_reads' HO60.out).2.1);rintro e w202 ⟨rfl,hb⟩;refine ⟨_,rfl,?_⟩;replace HO_8:=zk (Kd.R_below (za1 HO_8.out) hb);replace HO_3009000:=zk (Kd.R_below (za1 HO_3009000.out) hb);replace HO_3009001:=zk (Kd.S_below (za2 HO_3009001.out) hb);replace HO_3020000:=zk (Kd.S_below (za2 HO_3020000.out) hb);replace HO_3020001:=zk (Kd.R_below (za1 HO_3020001.out) hb);replace HO_3020002:=zk (Kd.S_below (za2 HO_3020002.out) hb);replace HO_3031000:=zk (Kd.S_below (za2 HO_3031000.out) hb);replace HO_3031001:=zk (Kd.R_below (za1 HO_3031001.out) hb);replace HO_3031002:=zk (Kd.S_below (za2 HO_3031002.out) hb);replace HO54:=zk (Kd.S_below (za2 HO54.out) hb);replace HO57:=zk (Kd.R_below (za1 HO57.out) hb);replace HO60:=zk (Kd.S_below (za2 HO60.out) hb);replace HO69:=zk (Kd.S_below (za2 HO69.out) hb);replace HO72:=zk (Kd.R_below (za1 HO72.out) hb);replace HO75:=zk (Kd.S_below (za2 HO75.out) hb);replace BK8:=yb BK8 hb;replace BK19:=yb BK19 hb;replace BK30:=yb BK30 hb;replace BK62:=yb BK62 hb;replace BK77:=yb BK77 hb;replace HB:=yB HB hb;(try clear hb)))
            go_ret
            exact ⟨za15,za3⟩
          · rw [if_neg c119] at H
            exact absurd ((zi H).trans HRT_.out) (by decide)
          · rw [if_neg c118] at H
            exact absurd ((zi H).trans HRT_.out) (by decide)
          · rw [if_neg c117] at H
            exact absurd ((zi H).trans HRT_.out) (by decide)
          · rw [if_neg c116] at H
            exact absurd ((zi H).trans HRT_.out) (by decide)
end Go.Proofs.Ythkbgoohiinmbaa.A
