/- FnMoves: what its proof needs, put together by this session's program wip/merge.py out of the texts that wip/xp.py printed and of this session's own. -/
import Derived.Test.YtgajchjnljekgaaQFnMoves7
import Derived.ChangeArms
import Derived.ChangeReads
import Derived.DataReads
import Derived.DataElems
import Derived.Lib.Strings
import Derived.Lib.Bytealg
set_option linter.unusedVariables false
set_option linter.unusedSimpArgs false
set_option linter.unusedSectionVars false
set_option maxHeartbeats 8000000
set_option maxRecDepth 100000
namespace Go.Proofs.Ytgajchjnljekgaa.A
open Go.RowKit Ytgajchjnljekgaa.Ext YtgajchjnljekgaaW.PrintWords YtgajchjnljekgaaW.PrintLast YtgajchjnljekgaaW.PrintMore
attribute [local go_sem] max2_int min2_int max_two min_two max_three min_three max_four min_four
attribute [local go_sem high] eqA25 eqA33
mutual
def laws_FnMoves.j0:Nat→List Int→List (S33)→List (S33)→Bool→ByteArray→ByteArray→ByteArray→ByteArray→Option (Bool)
 | 0,_,_,_,_,_,_,_,_=>none
 | k+1,x0,x4,x5,x58,x3005000,x3005001,x3014000,x3014001=>if x58=true then (some false) else (laws_FnMoves.l0 k x0 x4 x5 0 x3005000 x3005001 x3014000 x3014001)
def laws_FnMoves.l0:Nat→List Int→List (S33)→List (S33)→Int→ByteArray→ByteArray→ByteArray→ByteArray→Option (Bool)
 | 0,_,_,_,_,_,_,_,_=>none
 | k+1,x0,x4,x5,x7,x3005000,x3005001,x3014000,x3014001=>if x7 < (x4.length:Int) then (if 0≤x7 then ((impl_ApplyMove.f k x3005000 x3005001 ((rd_T33 x4 x7).f0) ((rd_T33 x4 x7).f1)).bind fun bt3023=>(if x7 < (x5.length:Int) then (if (!(((rd_T33 x4 x7).f0) == ((rd_T33 x5 x7).f0)) || (!((((rd_T33 x4 x7).f1).toList) == (((rd_T33 x5 x7).f1).toList))))=true then (laws_FnMoves.j2 k x0 x4 x5 x7 true x3005000 x3005001 x3014000 x3014001 bt3023.1 bt3023.2) else ((spec_ApplyMove.f k x3005000 x3005001 ((rd_T33 x4 x7).f0) ((rd_T33 x4 x7).f1)).bind fun bt3029=>(laws_FnMoves.j2 k x0 x4 x5 x7 (!(bt3023.1.toList == bt3029.1.toList) || (!(bt3023.2.toList == bt3029.2.toList))) x3005000 x3005001 x3014000 x3014001 bt3023.1 bt3023.2))) else (none))) else (none)) else ((spec_DrawJoinEquations.f k x0).bind fun t3034=>((impl_JoinEquations.f k t3034).bind fun bt3038=>((spec_JoinEquations.f k t3034).bind fun bt3042=>((spec_DrawApplyMove.f k x0).bind fun bt3046=>(if (bt3038.1.toList == bt3042.1.toList && (bt3038.2.1.toList == bt3042.2.1.toList))=true then (if (bt3038.2.2 == bt3042.2.2)=true then ((impl_ApplyMove.f k bt3046.1 bt3046.2.1 bt3046.2.2.1 bt3046.2.2.2).bind fun bt3052=>((spec_ApplyMove.f k bt3046.1 bt3046.2.1 bt3046.2.2.1 bt3046.2.2.2).bind fun bt3054=>(some (bt3052.1.toList == bt3054.1.toList && (bt3052.2.toList == bt3054.2.toList))))) else (some false)) else (some false))))))
def laws_FnMoves.j2:Nat→List Int→List (S33)→List (S33)→Int→Bool→ByteArray→ByteArray→ByteArray→ByteArray→ByteArray→ByteArray→Option (Bool)
 | 0,_,_,_,_,_,_,_,_,_,_,_=>none
 | k+1,x0,x4,x5,x7,x89,x3005000,x3005001,x3014000,x3014001,x3026000,x3026001=>if x89=true then (some false) else ((spec_IsQuadratic.f k x3005000 x3005001).bind fun t3031=>(if t3031=true then (laws_FnMoves.j3 k x0 x4 x5 x7 (decide ((wrap64 ((x3026000.size:Int)+(x3026001.size:Int))) > (wrap64 ((x3014000.size:Int)+(x3014001.size:Int))))) x3005000 x3005001 x3014000 x3014001 x3026000 x3026001) else (laws_FnMoves.j3 k x0 x4 x5 x7 false x3005000 x3005001 x3014000 x3014001 x3026000 x3026001)))
def laws_FnMoves.j3:Nat→List Int→List (S33)→List (S33)→Int→Bool→ByteArray→ByteArray→ByteArray→ByteArray→ByteArray→ByteArray→Option (Bool)
 | 0,_,_,_,_,_,_,_,_,_,_,_=>none
 | k+1,x0,x4,x5,x7,x108,x3005000,x3005001,x3014000,x3014001,x3026000,x3026001=>if x108=true then (some false) else (laws_FnMoves.l1 k x0 x4 x5 x7 0 x3005000 x3005001 x3014000 x3014001 x3026000 x3026001)
def laws_FnMoves.l1:Nat→List Int→List (S33)→List (S33)→Int→Int→ByteArray→ByteArray→ByteArray→ByteArray→ByteArray→ByteArray→Option (Bool)
 | 0,_,_,_,_,_,_,_,_,_,_,_=>none
 | k+1,x0,x4,x5,x7,x9,x3005000,x3005001,x3014000,x3014001,x3026000,x3026001=>if x9 < 3 then ((spec_IsQuadratic.f k x3005000 x3005001).bind fun t3032=>(laws_FnMoves.j5 k x0 x4 x5 x7 x9 t3032 x3005000 x3005001 x3014000 x3014001 x3026000 x3026001)) else (laws_FnMoves.j5 k x0 x4 x5 x7 x9 false x3005000 x3005001 x3014000 x3014001 x3026000 x3026001)
def laws_FnMoves.j5:Nat→List Int→List (S33)→List (S33)→Int→Int→Bool→ByteArray→ByteArray→ByteArray→ByteArray→ByteArray→ByteArray→Option (Bool)
 | 0,_,_,_,_,_,_,_,_,_,_,_,_=>none
 | k+1,x0,x4,x5,x7,x9,x114,x3005000,x3005001,x3014000,x3014001,x3026000,x3026001=>if x114=true then (if x3026000.size+x3026001.size≤9223372036854775807 then (if 0≤x9 then (if x9 < 3 then ((spec_CountByte.f k (x3026000 ++ x3026001) (bt (⟨#[88,89,90]⟩:ByteArray) x9)).bind fun t3033=>(if t3033 > 2 then (some false) else (laws_FnMoves.l1 k x0 x4 x5 x7 (wrap64 (x9+1)) x3005000 x3005001 x3014000 x3014001 x3026000 x3026001))) else (none)) else (none)) else (none)) else (laws_FnMoves.l0 k x0 x4 x5 (wrap64 (x7+1)) x3005000 x3005001 x3014000 x3014001)
end
def laws_FnMoves.f (k:Nat) (l0:List Int):Option (Bool):=(laws_big.f l0).bind fun t3001=>(if t3001=true then (some true) else ((spec_DrawMovesOf.f k l0).bind fun bt3002=>((impl_MovesOf.f k bt3002.1 bt3002.2).bind fun t3005=>((spec_MovesOf.f k bt3002.1 bt3002.2).bind fun t3008=>((impl_StripEquation.f k bt3002.1 bt3002.2).bind fun bt3011=>(if (t3005.length:Int)=(t3008.length:Int) then ((spec_StripEquation.f k bt3002.1 bt3002.2).bind fun bt3014=>(if (!(bt3011.1.toList == bt3014.1.toList) || (!(bt3011.2.toList == bt3014.2.toList)))=true then (laws_FnMoves.j0 k l0 t3005 t3008 true bt3002.1 bt3002.2 bt3011.1 bt3011.2) else ((impl_IsClash.f k bt3002.1 bt3002.2).bind fun t3016=>((spec_IsClash.f k bt3002.1 bt3002.2).bind fun t3017=>(if (t3016 != t3017)=true then (laws_FnMoves.j0 k l0 t3005 t3008 true bt3002.1 bt3002.2 bt3011.1 bt3011.2) else ((impl_IsQuadratic.f k bt3002.1 bt3002.2).bind fun t3018=>((spec_IsQuadratic.f k bt3002.1 bt3002.2).bind fun t3019=>(if (t3018 != t3019)=true then (laws_FnMoves.j0 k l0 t3005 t3008 true bt3002.1 bt3002.2 bt3011.1 bt3011.2) else ((impl_IsEquation.f k bt3002.1 bt3002.2).bind fun t3020=>((spec_IsEquation.f k bt3002.1 bt3002.2).bind fun t3021=>(laws_FnMoves.j0 k l0 t3005 t3008 (t3020 != t3021) bt3002.1 bt3002.2 bt3011.1 bt3011.2))))))))))) else (laws_FnMoves.j0 k l0 t3005 t3008 true bt3002.1 bt3002.2 bt3011.1 bt3011.2)))))))
def laws_FnMoves.T7:Bool × List (List Nat × List Nat):=(true,[([],[]),([0],[0]),([],[]),([2],[2]),([1,3],[1,3]),([4],[4]),([5],[5]),([5],[5]),([7,5,5],[5,7]),([6,8,5],[5,6,8]),([5,9],[5,9]),([10,8],[10]),([11],[11]),([12,11,11],[11,12]),([11],[11]),([14,13,11],[11,14]),([13,15,11],[11,13,15]),([11,16],[11,16]),([17,15],[17]),([18],[18]),([19,18,18],[18,19]),([18],[18]),([21,20,18],[18,21]),([20,22,18],[18,20,22]),([18,23],[18,23]),([24,22],[24]),([25],[25]),([26,25,25],[25,26]),([25],[25]),([28,27,25],[25,28]),([27,29,25],[25,27,29]),([25,30],[25,30])])
def laws_FnMoves.B7:List Nat:=[0,1,0,4,15,31,63,63,191,511,1023,2047,4095,8191,4095,32767,65535,131071,262143,524287,1048575,524287,4194303,8388607,16777215,33554431,67108863,134217727,67108863,536870911,1073741823,2147483647]
theorem laws_FnMoves.tab7:rtab .any (opsOf Try.f3 7)=laws_FnMoves.T7:=by kernel_rfl
theorem laws_FnMoves.bits7:waitsOk laws_FnMoves.T7.2 laws_FnMoves.B7=true:=by kernel_rfl
def laws_FnMoves.T12:Bool × List (List Nat × List Nat):=(true,[([],[]),([],[]),([],[]),([1,2],[1,2]),([3],[3]),([0,4],[0,4]),([],[]),([6,5,5,0,1,2,3,4,5,6],[5,6])])
def laws_FnMoves.B12:List Nat:=[0,0,0,6,14,31,0,127]
theorem laws_FnMoves.tab12:rtab .any (opsOf Try.f3 12)=laws_FnMoves.T12:=by kernel_rfl
theorem laws_FnMoves.bits12:waitsOk laws_FnMoves.T12.2 laws_FnMoves.B12=true:=by kernel_rfl
def laws_FnMoves.T13:Bool × List (List Nat × List Nat):=(true,[([],[]),([],[]),([0,1],[0,1]),([2],[2]),([],[]),([],[]),([4,5],[4,5]),([6],[6]),([3,7],[3,7]),([8],[8]),([9],[9]),([9],[9]),([9],[9]),([9],[9]),([12,13,9],[9,12,13]),([14,9],[9,14]),([11,15,9,9],[9,11,15]),([10,16,9],[9,10,16]),([9,17],[9,17])])
def laws_FnMoves.B13:List Nat:=[0,0,3,7,0,0,48,112,255,511,1023,1023,1023,1023,13311,29695,64511,131071,262143]
theorem laws_FnMoves.tab13:rtab .any (opsOf Try.f3 13)=laws_FnMoves.T13:=by kernel_rfl
theorem laws_FnMoves.bits13:waitsOk laws_FnMoves.T13.2 laws_FnMoves.B13=true:=by kernel_rfl
def laws_FnMoves.T20:Bool × List (List Nat × List Nat):=(true,[([],[]),([0],[0]),([],[]),([2],[2]),([1,3],[1,3]),([],[]),([5],[5]),([4,6],[4,6]),([7],[7])])
def laws_FnMoves.B20:List Nat:=[0,1,0,4,15,0,32,127,255]
theorem laws_FnMoves.tab20:rtab .any (opsOf Try.f3 20)=laws_FnMoves.T20:=by kernel_rfl
theorem laws_FnMoves.bits20:waitsOk laws_FnMoves.T20.2 laws_FnMoves.B20=true:=by kernel_rfl
def laws_FnMoves.T26:Bool × List (List Nat × List Nat):=(true,[([],[]),([],[]),([0,1],[0,1]),([2],[2]),([3],[3]),([3],[3]),([4,5,3],[3,4,5]),([3,6],[3,6]),([7,3],[7]),([8],[8]),([8],[8]),([9,10,8,8],[8,9,10]),([8],[8]),([8],[8]),([12,13,11,8],[8,12,13]),([11,14,8],[8,11,14]),([8,15],[8,15]),([16,14,0,1,2,3,4,5,6,7,8,9,10,11,12,13,14,15,16],[16])])
def laws_FnMoves.B26:List Nat:=[0,0,3,7,15,15,63,127,255,511,511,2047,511,511,16383,32767,65535,131071]
theorem laws_FnMoves.tab26:rtab .any (opsOf Try.f3 26)=laws_FnMoves.T26:=by kernel_rfl
theorem laws_FnMoves.bits26:waitsOk laws_FnMoves.T26.2 laws_FnMoves.B26=true:=by kernel_rfl
theorem laws_FnMoves.j0_no {k:Nat} {y0:List Int} {y1:List (S33)} {y2:List (S33)} {y4:ByteArray} {y5:ByteArray} {y6:ByteArray} {y7:ByteArray} {r:Bool} (h:laws_FnMoves.j0 k y0 y1 y2 true y4 y5 y6 y7=some r):false=r:=by
 cases k with
 | zero=>simp [laws_FnMoves.j0] at h
 | succ k=>simpa [laws_FnMoves.j0] using h
theorem laws_FnMoves.j2_no {k:Nat} {y0:List Int} {y1:List (S33)} {y2:List (S33)} {y3:Int} {y5:ByteArray} {y6:ByteArray} {y7:ByteArray} {y8:ByteArray} {y9:ByteArray} {y10:ByteArray} {r:Bool} (h:laws_FnMoves.j2 k y0 y1 y2 y3 true y5 y6 y7 y8 y9 y10=some r):false=r:=by
 cases k with
 | zero=>simp [laws_FnMoves.j2] at h
 | succ k=>simpa [laws_FnMoves.j2] using h
theorem laws_FnMoves.calls (k:Nat) (A0:Option Addr) (c0:Nat) (l0:List Int) (r:Bool) (w:World) (hr0:Kd.C (Kd.int .u8) w A0 l0.length l0) (hc0:l0.length≤c0) (h:laws_FnMoves.f k l0=some r) (hr_:r=true) :
  Calls Try.prog 3 #[.slice A0 l0.length c0] w fun e w'=>e = .returned (.bool r)∧Below w.heap.size w w':=by
 have HRT_:=zk hr_
 clear hr_
 have hu25:=Try.underlying25
 have hu33:=Try.underlying33
 have hu37:=Try.underlying37
 have HR0:=zk hr0
 have HC0:=zk hc0
 clear hr0 hc0
 have HB:=zk (Below.refl w.heap.size w)
 have H:=h
 unfold laws_FnMoves.f at H
 clear h
 replace H:=zo H
 obtain ⟨t3001,A20,H⟩:=H
 try dsimp only at H
 have A2:=zk A20
 clear A20
 by_cases c3:t3001=true
 ·subst c3
  rw [if_pos rfl] at H
  try dsimp only at H
  obtain rfl:=zi H
  go_enter Try.func3,Try.ntmps3
  go_wp2_with (first|((with_reducible refine gate_callee (f:=4) rfl ?_);refine goesL_ (some 18) rfl rfl Try.func4 (by kernel_rfl) rfl #[.slice A0 l0.length c0] rfl za4 ?_;(with_reducible refine (laws_big.calls _ _ l0 _ _ ?side1 ?side2 A2.out).mono ?_);(case side1=>repeat (first|exact HR0.out|(with_reducible refine Kd.C_alloc ?_ _)|(with_reducible refine Kd.C_drewN ?_ _)|(with_reducible refine Kd.C_drew ?_)));(case side2=>exact HC0.out);rintro e w' ⟨rfl,⟨nd,rfl⟩⟩;refine ⟨_,rfl,?_⟩))
  go_ret
  exact ⟨za9,za3⟩
 ·replace c3:=Bool.eq_false_iff.mpr c3
  subst c3
  rw [if_neg (show ¬ (false=true) by decide)] at H
  try dsimp only at H
  replace H:=zo H
  obtain ⟨⟨t3002,t3003⟩,A40,H⟩:=H
  try dsimp only at H
  have A4:=zk A40
  clear A40
  replace H:=zo H
  obtain ⟨t3005,A50,H⟩:=H
  try dsimp only at H
  have A5:=zk A50
  clear A50
  replace H:=zo H
  obtain ⟨t3008,A60,H⟩:=H
  try dsimp only at H
  have A6:=zk A60
  clear A60
  replace H:=zo H
  obtain ⟨⟨t3011,t3012⟩,A70,H⟩:=H
  try dsimp only at H
  have A7:=zk A70
  clear A70
  have HC8:=zk H
  clear H
  go_enter Try.func3,Try.ntmps3
  go_upto_region 7 with (first|((with_reducible refine gate_callee (f:=4) rfl ?_);refine goesL_ (some 18) rfl rfl Try.func4 (by kernel_rfl) rfl #[.slice A0 l0.length c0] rfl za4 ?_;(with_reducible refine (laws_big.calls _ _ l0 _ _ ?side1 ?side2 A2.out).mono ?_);(case side1=>repeat (first|exact HR0.out|(with_reducible refine Kd.C_alloc ?_ _)|(with_reducible refine Kd.C_drewN ?_ _)|(with_reducible refine Kd.C_drew ?_)));(case side2=>exact HC0.out);rintro e w' ⟨rfl,⟨nd,rfl⟩⟩;refine ⟨_,rfl,?_⟩)|((with_reducible refine gate_callee (f:=5) rfl ?_);refine goesL_ (some 20) rfl rfl Try.func5 (by kernel_rfl) rfl #[.slice A0 l0.length c0] rfl za4 ?_;(with_reducible refine (spec_DrawMovesOf.calls k _ _ l0 t3002 t3003 _ ?side1 ?side2 A4.out).mono ?_);(case side1=>repeat (first|exact HR0.out|(with_reducible refine Kd.C_alloc ?_ _)|(with_reducible refine Kd.C_drewN ?_ _)|(with_reducible refine Kd.C_drew ?_)));(case side2=>exact HC0.out);rintro e w9 ⟨rfl,hb⟩;refine ⟨_,rfl,?_⟩;replace HB:=zk (below_step za3 hb);(try clear hb);(try clear hb2);(try clear hk);(try clear hi))|((with_reducible refine gate_dst (N:=3) rfl ?_);(try (refine gate_guard (by rfl) ?_;dsimp only));refine zE (N:=3) (cs:=#[.string (⟨#[]⟩:ByteArray),.string (⟨#[]⟩:ByteArray)]) (t:=25) ?_;intro gb3004 hg w10 hbox hb;have BK3004:=zk (hbox);have GW3004:=zk (zs (w:=w) hg za3);have GE3004:=zk (zs (w:=w) hg za3);replace HB:=zk (below_step za3 hb);clear hb hbox hg;obtain ⟨hcz11_0,hcz11_1,hfz11_0,hfz11_1⟩:=blk2 BK3004.out)|((with_reducible refine gate_callee (f:=6) rfl ?_);refine goesL_ (some 22) rfl rfl Try.func6 (by kernel_rfl) rfl #[.agg #[.string t3002,.string t3003]] rfl za4 ?_;(with_reducible refine (impl_MovesOf.calls k t3002 t3003 t3005 _ A5.out).mono ?_);rintro e w12 ⟨v3006,rfl,ho0,hb⟩;refine ⟨_,rfl,?_⟩;have HO3007:=zk (Kd.R_lower ho0 (below_size za3));replace BK3004:=zk (blk_below (g:=gb3004) (o:=.cells #[.string t3002,.string t3003] 25 (0,0)) (zpu BK3004.out) hb);replace HB:=zk (below_step za3 hb);(try clear hb);(try clear hb2);(try clear hk);(try clear hi);(try clear ho0);obtain ⟨hcz13_0,hcz13_1,hfz13_0,hfz13_1⟩:=blk2 BK3004.out)|((with_reducible refine gate_callee (f:=7) rfl ?_);refine goesL_ (some 24) rfl rfl Try.func7 (by kernel_rfl) rfl #[.agg #[.string t3002,.string t3003]] rfl za4 ?_;(with_reducible refine (spec_MovesOf.calls k t3002 t3003 t3008 _ A6.out).mono ?_);rintro e w14 ⟨v3009,rfl,ho0,hb⟩;refine ⟨_,rfl,?_⟩;have HO3010:=zk (Kd.R_lower (Kd.R_new' ho0 (Kd.R_lt (za0 HO3007.out))) (below_size za3));replace BK3004:=zk (zb BK3004.out hb);replace HO3007:=zk (Kd.R_elder' (za0 HO3007.out) (Kd.R_base ho0) hb);replace HB:=zk (below_step za3 hb);(try clear hb);(try clear hb2);(try clear hk);(try clear hi);(try clear ho0);obtain ⟨hcz15_0,hcz15_1,hfz15_0,hfz15_1⟩:=blk2 BK3004.out)|((with_reducible refine gate_callee (f:=8) rfl ?_);refine goesL_ (some 26) rfl rfl Try.func8 (by kernel_rfl) rfl #[.agg #[.string t3002,.string t3003]] rfl za4 ?_;(with_reducible refine (impl_StripEquation.calls k t3002 t3003 t3011 t3012 _ A7.out).mono ?_);rintro e w16 ⟨rfl,hb⟩;refine ⟨_,rfl,?_⟩;replace HO3007:=zk (Kd.R_below (za0 HO3007.out) hb);replace HO3010:=zk (Kd.R_below (za0 HO3010.out) hb);replace BK3004:=zk (zb BK3004.out hb);replace HB:=zk (below_step za3 hb);(try clear hb);(try clear hb2);(try clear hk);(try clear hi))|((with_reducible refine gate_dst (N:=6) rfl ?_);(try (refine gate_guard (by rfl) ?_;dsimp only));refine zE (N:=6) (cs:=#[.string (⟨#[]⟩:ByteArray),.string (⟨#[]⟩:ByteArray)]) (t:=25) ?_;intro gb3013 hg w17 hbox hb;replace HO3007:=zk (Kd.R_below (za0 HO3007.out) hb);replace HO3010:=zk (Kd.R_below (za0 HO3010.out) hb);have BK3013:=zk (hbox);have GW3013:=zk (zs (w:=w) hg za3);have GE3013:=zk (zs (w:=w) hg za3);have NB3004_3013:=zk ((by rw [hg];exact Nat.ne_of_lt (zl BK3004.out):gb3004 ≠ gb3013));have NB3013_3004:=zk ((by rw [hg];exact Nat.ne_of_gt (zl BK3004.out):gb3013 ≠ gb3004));replace BK3004:=zk (zb BK3004.out hb);replace HB:=zk (below_step za3 hb);clear hb hbox hg;have hnb18:=NB3013_3004.out;have hnc18:=NB3004_3013.out;obtain ⟨hcz19_0,hcz19_1,hfz19_0,hfz19_1⟩:=blk2 BK3013.out))
  (try simp only [Act.put,zt,zu,zv])
  go_cut [58] (fun v58 wc=>∃ (kq:Nat) (x58_7:Bool),v58 = .bool x58_7∧Aside0 (laws_FnMoves.j0 kq l0 t3005 t3008 x58_7 t3002 t3003 t3011 t3012=some r)∧Aside0 (kq≤k)∧Aside0 (Kd.R k33 33 wc w.heap.size (fun k_=>some k_ ≠ (v3009:Value).ownBlock) v3006 t3005)∧Aside0 (Kd.R k33 33 wc w.heap.size (fun k_=>some k_ ≠ (v3006:Value).ownBlock) v3009 t3008)∧Aside0 (wc.heap[gb3004]? = some (.cells #[.string t3002,.string t3003] 25 (0,0)))∧Aside0 (wc.heap[gb3013]? = some (.cells #[.string t3011,.string t3012] 25 (0,0)))∧Aside0 (Below w.heap.size w wc))
  case first =>
   have H:=HC8.out
   clear HC8
   by_cases c20:(t3005.length:Int)=(t3008.length:Int)
   rw [if_pos c20] at H
   have c20b0:=zbt c20
   have c20b1:=zqn c20
   have c20b2:(t3005.length == t3008.length)=true:=by first|simpa using c20|(simp at c20 ⊢;omega)
   clear c20
   (first|rw [c20b0]|(simp only [i64_w,i32_w];rw [c20b0])|skip)
   replace H:=zo H
   obtain ⟨⟨t3014,t3015⟩,A210,H⟩:=H
   try dsimp only at H
   have A21:=zk A210
   clear A210
   by_cases c22:(!(t3011.toList == t3014.toList) || (!(t3012.toList == t3015.toList)))=true
   · rw [if_pos c22] at H
     exact absurd ((laws_FnMoves.j0_no H).trans HRT_.out) (by decide)
   rw [if_neg c22] at H
   have c22b0:(!(t3011.toList == t3014.toList) || (!(t3012.toList == t3015.toList)))=false:=by simpa using c22
   clear c22
   replace H:=zo H
   obtain ⟨t3016,A280,H⟩:=H
   try dsimp only at H
   have A28:=zk A280
   clear A280
   replace H:=zo H
   obtain ⟨t3017,A290,H⟩:=H
   try dsimp only at H
   have A29:=zk A290
   clear A290
   by_cases c30:(t3016 != t3017)=true
   · rw [if_pos c30] at H
     exact absurd ((laws_FnMoves.j0_no H).trans HRT_.out) (by decide)
   rw [if_neg c30] at H
   have c30b0:(t3016 != t3017)=false:=by simpa using c30
   (try (have c30b1:decide (t3016=t3017)=true:=by simpa using c30))
   (try (have c30b2:(t3016 == t3017)=true:=by simpa using c30))
   clear c30
   replace H:=zo H
   obtain ⟨t3018,A380,H⟩:=H
   try dsimp only at H
   have A38:=zk A380
   clear A380
   replace H:=zo H
   obtain ⟨t3019,A390,H⟩:=H
   try dsimp only at H
   have A39:=zk A390
   clear A390
   by_cases c40:(t3018 != t3019)=true
   · rw [if_pos c40] at H
     exact absurd ((laws_FnMoves.j0_no H).trans HRT_.out) (by decide)
   · rw [if_neg c40] at H
     have c40b0:(t3018 != t3019)=false:=by simpa using c40
     (try (have c40b1:decide (t3018=t3019)=true:=by simpa using c40))
     (try (have c40b2:(t3018 == t3019)=true:=by simpa using c40))
     clear c40
     replace H:=zo H
     obtain ⟨t3020,A500,H⟩:=H
     try dsimp only at H
     have A50:=zk A500
     clear A500
     replace H:=zo H
     obtain ⟨t3021,A510,H⟩:=H
     try dsimp only at H
     have A51:=zk A510
     clear A510
     have H':=zk H
     clear H
     try go_wp2
     have n0_:Aside0 (Kd.R k33 33 ((w17.setCell ⟨gb3013,0,none⟩ (.string t3011)).setCell ⟨gb3013,1,none⟩ (.string t3012)) w.heap.size (fun k_=>some k_ ≠ (v3009:Value).ownBlock) v3006 t3005):=⟨by (with_reducible repeat (first|apply Kd.R_alloc|apply Kd.R_drewN|apply Kd.R_drew));exact Kd.R_mono (zfR (zfR (Kd.R_types HO3007.out BK3013.out (by decide)))) (fun _ hk=>hk.1.2)⟩
     have n1_:Aside0 (Kd.R k33 33 ((w17.setCell ⟨gb3013,0,none⟩ (.string t3011)).setCell ⟨gb3013,1,none⟩ (.string t3012)) w.heap.size (fun k_=>some k_ ≠ (v3006:Value).ownBlock) v3009 t3008):=⟨by (with_reducible repeat (first|apply Kd.R_alloc|apply Kd.R_drewN|apply Kd.R_drew));exact Kd.R_mono (zfR (zfR (Kd.R_types HO3010.out BK3013.out (by decide)))) (fun _ hk=>hk.1.2)⟩
     have n2_:Aside0 (((w17.setCell ⟨gb3013,0,none⟩ (.string t3011)).setCell ⟨gb3013,1,none⟩ (.string t3012)).heap[gb3004]? = some (.cells #[.string t3002,.string t3003] 25 (0,0))):=⟨by (with_reducible repeat (first|refine blk_drewN ?_ _|refine blk_drew ?_|refine blk_alloc ?_ _));refine blk_far ?_ NB3004_3013.out _;(with_reducible repeat (first|refine blk_drewN ?_ _|refine blk_drew ?_|refine blk_alloc ?_ _));refine blk_far ?_ NB3004_3013.out _;(with_reducible repeat (first|refine blk_drewN ?_ _|refine blk_drew ?_|refine blk_alloc ?_ _));exact BK3004.out⟩
     have n3_:Aside0 (((w17.setCell ⟨gb3013,0,none⟩ (.string t3011)).setCell ⟨gb3013,1,none⟩ (.string t3012)).heap[gb3013]? = some (.cells #[.string t3011,.string t3012] 25 (0,0))):=⟨zpu BK3013.out⟩
     have n4_:Aside0 (Below w.heap.size w ((w17.setCell ⟨gb3013,0,none⟩ (.string t3011)).setCell ⟨gb3013,1,none⟩ (.string t3012))):=⟨za3⟩
     (try clear HO3007)
     (try clear HO3010)
     (try clear BK3004)
     (try clear BK3013)
     (try clear HB)
     generalize ((w17.setCell ⟨gb3013,0,none⟩ (.string t3011)).setCell ⟨gb3013,1,none⟩ (.string t3012))=w52 at n0_ n1_ n2_ n3_ n4_ ⊢
     have HO3007:=n0_
     have HO3010:=n1_
     have BK3004:=n2_
     have BK3013:=n3_
     have HB:=n4_
     clear n0_ n1_ n2_ n3_ n4_
     replace HO3007:=zk (Kd.R_drew HO3007.out)
     replace HO3010:=zk (Kd.R_drew HO3010.out)
     replace BK3004:=zk (blk_drew BK3004.out)
     replace BK3013:=zk (blk_drew BK3013.out)
     replace HB:=zk (below_drew1 HB.out)
     obtain ⟨Ao54,co54,eo54⟩:=Kd.R_slice HO3007.out
     (first|subst eo54|(injection eo54 with f1_ f2_ f3_;have f4_:=f1_.symm;have f5_:=f3_.symm;clear f1_ f2_ f3_;subst f4_;subst f5_))
     obtain ⟨Ao55,co55,eo55⟩:=Kd.R_slice HO3010.out
     (first|subst eo55|(injection eo55 with f1_ f2_ f3_;have f4_:=f1_.symm;have f5_:=f3_.symm;clear f1_ f2_ f3_;subst f4_;subst f5_))
     refine start_ (n:=32) (S:=fun w'=>w'.cell? ⟨gb3013,0,none⟩=some (.string t3011)∧w'.cell? ⟨gb3013,1,none⟩=some (.string t3012)∧w'.cell? ⟨gb3004,0,none⟩=some (.string t3002)∧w'.cell? ⟨gb3004,1,none⟩=some (.string t3003)) (ds:=[]) #[false,false,false,false,false,false,false,false,false,false,false,false,false,false,false,false,false,false,false,false,false,false,false,false,false,false,false,false,false,false,false,false] (by kernel_rfl) rfl rfl ⟨(blk_cell BK3013.out 0).trans rfl,(blk_cell BK3013.out 1).trans rfl,(blk_cell BK3004.out 0).trans rfl,(blk_cell BK3004.out 1).trans rfl⟩ (fun hHeld=>?_);refine with_tabW laws_FnMoves.tab7 laws_FnMoves.bits7 (fun HT_ HW_=>?_)
     generalize w52.drew=w53 at HO3007 HO3010 BK3004 BK3013 HB hHeld ⊢
     refine zy 0 (some 27) HT_.out ?_
     refine zy 1 (some 28) HT_.out ?_
     refine zy 2 (some 29) HT_.out ?_
     refine zy 3 (some 30) HT_.out ?_
     refine zy 4 (some 31) HT_.out ?_
     refine zy 5 (some 32) HT_.out ?_
     refine ztk 6 (some 33) HT_.out HW_.out hHeld ?_
     refine ztk 7 (some 34) HT_.out HW_.out hHeld ?_
     refine zon 8 (some 35) HT_.out (fun K hK=>?_)
     refine goes_ Try.func9 (by kernel_rfl) rfl #[.agg #[.string t3002,.string t3003]] (by rfl) rfl rfl za4 ?_
     with_reducible refine (spec_StripEquation.calls k t3002 t3003 t3014 t3015 _ A21.out).mono ?_
     rintro e w56 ⟨rfl,hb⟩
     refine ⟨_,rfl,?_⟩
     replace HO3007:=zk (Kd.R_below (za0 HO3007.out) hb)
     replace HO3010:=zk (Kd.R_below (za0 HO3010.out) hb)
     replace BK3004:=zk (zb BK3004.out hb)
     replace BK3013:=zk (zb BK3013.out hb)
     replace HB:=zk (below_step za3 hb)
     (try clear hb)
     (try clear hb2)
     (try clear hk)
     (try clear hi)
     refine hK.out _ _ ⟨(blk_cell BK3013.out 0).trans rfl,(blk_cell BK3013.out 1).trans rfl,(blk_cell BK3004.out 0).trans rfl,(blk_cell BK3004.out 1).trans rfl⟩ (fun hHeld=>?_)
     clear hK K
     refine zno (some 35) ?_
     refine zy 9 (some 36) HT_.out ?_
     refine zy 10 (some 37) HT_.out ?_
     refine zy 11 (some 38) HT_.out ?_
     refine ztk 12 (some 39) HT_.out HW_.out hHeld ?_
     refine ztk 14 (some 41) HT_.out HW_.out hHeld ?_
     refine zon 13 (some 40) HT_.out (fun K hK=>?_)
     refine goes_ Try.func10 (by kernel_rfl) rfl #[.agg #[.string t3002,.string t3003]] (by rfl) rfl rfl za4 ?_
     with_reducible refine (impl_IsClash.calls k t3002 t3003 t3016 _ A28.out).mono ?_
     rintro e w57 ⟨rfl,hb⟩
     refine ⟨_,rfl,?_⟩
     replace HO3007:=zk (Kd.R_below (za0 HO3007.out) hb)
     replace HO3010:=zk (Kd.R_below (za0 HO3010.out) hb)
     replace BK3004:=zk (zb BK3004.out hb)
     replace BK3013:=zk (zb BK3013.out hb)
     replace HB:=zk (below_step za3 hb)
     (try clear hb)
     (try clear hb2)
     (try clear hk)
     (try clear hi)
     refine hK.out _ _ ⟨(blk_cell BK3013.out 0).trans rfl,(blk_cell BK3013.out 1).trans rfl,(blk_cell BK3004.out 0).trans rfl,(blk_cell BK3004.out 1).trans rfl⟩ (fun hHeld=>?_)
     clear hK K
     refine zno (some 40) ?_
     refine zon 15 (some 42) HT_.out (fun K hK=>?_)
     refine goes_ Try.func11 (by kernel_rfl) rfl #[.agg #[.string t3002,.string t3003]] (by rfl) rfl rfl za4 ?_
     with_reducible refine (spec_IsClash.calls k t3002 t3003 t3017 _ A29.out).mono ?_
     rintro e w58 ⟨rfl,hb⟩
     refine ⟨_,rfl,?_⟩
     replace HO3007:=zk (Kd.R_below (za0 HO3007.out) hb)
     replace HO3010:=zk (Kd.R_below (za0 HO3010.out) hb)
     replace BK3004:=zk (zb BK3004.out hb)
     replace BK3013:=zk (zb BK3013.out hb)
     replace HB:=zk (below_step za3 hb)
     (try clear hb)
     (try clear hb2)
     (try clear hk)
     (try clear hi)
     refine hK.out _ _ ⟨(blk_cell BK3013.out 0).trans rfl,(blk_cell BK3013.out 1).trans rfl,(blk_cell BK3004.out 0).trans rfl,(blk_cell BK3004.out 1).trans rfl⟩ (fun hHeld=>?_)
     clear hK K
     refine zno (some 42) ?_
     refine zy 16 (some 43) HT_.out ?_
     refine zy 17 (some 44) HT_.out ?_
     refine zy 18 (some 45) HT_.out ?_
     refine ztk 19 (some 46) HT_.out HW_.out hHeld ?_
     refine ztk 21 (some 48) HT_.out HW_.out hHeld ?_
     refine zon 20 (some 47) HT_.out (fun K hK=>?_)
     refine goes_ Try.func12 (by kernel_rfl) rfl #[.agg #[.string t3002,.string t3003]] (by rfl) rfl rfl za4 ?_
     with_reducible refine (impl_IsQuadratic.calls k t3002 t3003 t3018 _ A38.out).mono ?_
     rintro e w59 ⟨rfl,hb⟩
     refine ⟨_,rfl,?_⟩
     replace HO3007:=zk (Kd.R_below (za0 HO3007.out) hb)
     replace HO3010:=zk (Kd.R_below (za0 HO3010.out) hb)
     replace BK3004:=zk (zb BK3004.out hb)
     replace BK3013:=zk (zb BK3013.out hb)
     replace HB:=zk (below_step za3 hb)
     (try clear hb)
     (try clear hb2)
     (try clear hk)
     (try clear hi)
     refine hK.out _ _ ⟨(blk_cell BK3013.out 0).trans rfl,(blk_cell BK3013.out 1).trans rfl,(blk_cell BK3004.out 0).trans rfl,(blk_cell BK3004.out 1).trans rfl⟩ (fun hHeld=>?_)
     clear hK K
     refine zno (some 47) ?_
     refine zon 22 (some 49) HT_.out (fun K hK=>?_)
     refine goes_ Try.func13 (by kernel_rfl) rfl #[.agg #[.string t3002,.string t3003]] (by rfl) rfl rfl za4 ?_
     with_reducible refine (spec_IsQuadratic.calls k t3002 t3003 t3019 _ A39.out).mono ?_
     rintro e w60 ⟨rfl,hb⟩
     refine ⟨_,rfl,?_⟩
     replace HO3007:=zk (Kd.R_below (za0 HO3007.out) hb)
     replace HO3010:=zk (Kd.R_below (za0 HO3010.out) hb)
     replace BK3004:=zk (zb BK3004.out hb)
     replace BK3013:=zk (zb BK3013.out hb)
     replace HB:=zk (below_step za3 hb)
     (try clear hb)
     (try clear hb2)
     (try clear hk)
     (try clear hi)
     refine hK.out _ _ ⟨(blk_cell BK3013.out 0).trans rfl,(blk_cell BK3013.out 1).trans rfl,(blk_cell BK3004.out 0).trans rfl,(blk_cell BK3004.out 1).trans rfl⟩ (fun hHeld=>?_)
     clear hK K
     refine zno (some 49) ?_
     refine zy 23 (some 50) HT_.out ?_
     refine zy 24 (some 51) HT_.out ?_
     refine zy 25 (some 52) HT_.out ?_
     refine ztk 26 (some 53) HT_.out HW_.out hHeld ?_
     refine ztk 28 (some 55) HT_.out HW_.out hHeld ?_
     refine zon 27 (some 54) HT_.out (fun K hK=>?_)
     refine goes_ Try.func14 (by kernel_rfl) rfl #[.agg #[.string t3002,.string t3003]] (by rfl) rfl rfl za4 ?_
     with_reducible refine (impl_IsEquation.calls k t3002 t3003 t3020 _ A50.out).mono ?_
     rintro e w61 ⟨rfl,hb⟩
     refine ⟨_,rfl,?_⟩
     replace HO3007:=zk (Kd.R_below (za0 HO3007.out) hb)
     replace HO3010:=zk (Kd.R_below (za0 HO3010.out) hb)
     replace BK3004:=zk (zb BK3004.out hb)
     replace BK3013:=zk (zb BK3013.out hb)
     replace HB:=zk (below_step za3 hb)
     (try clear hb)
     (try clear hb2)
     (try clear hk)
     (try clear hi)
     refine hK.out _ _ ⟨(blk_cell BK3013.out 0).trans rfl,(blk_cell BK3013.out 1).trans rfl,(blk_cell BK3004.out 0).trans rfl,(blk_cell BK3004.out 1).trans rfl⟩ (fun hHeld=>?_)
     clear hK K
     refine zno (some 54) ?_
     refine zon 29 (some 56) HT_.out (fun K hK=>?_)
     refine goes_ Try.func15 (by kernel_rfl) rfl #[.agg #[.string t3002,.string t3003]] (by rfl) rfl rfl za4 ?_
     with_reducible refine (spec_IsEquation.calls k t3002 t3003 t3021 _ A51.out).mono ?_
     rintro e w62 ⟨rfl,hb⟩
     refine ⟨_,rfl,?_⟩
     replace HO3007:=zk (Kd.R_below (za0 HO3007.out) hb)
     replace HO3010:=zk (Kd.R_below (za0 HO3010.out) hb)
     replace BK3004:=zk (zb BK3004.out hb)
     replace BK3013:=zk (zb BK3013.out hb)
     replace HB:=zk (below_step za3 hb)
     (try clear hb)
     (try clear hb2)
     (try clear hk)
     (try clear hi)
     refine hK.out _ _ ⟨(blk_cell BK3013.out 0).trans rfl,(blk_cell BK3013.out 1).trans rfl,(blk_cell BK3004.out 0).trans rfl,(blk_cell BK3004.out 1).trans rfl⟩ (fun hHeld=>?_)
     clear hK K
     refine zno (some 56) ?_
     refine zy 30 (some 57) HT_.out ?_
     refine zy 31 (some 58) HT_.out ?_
     refine done_ (done_of HT_.out (by kernel_rfl)) ?_
     try go_wp2
     go_meet
     case rel=>exact ⟨_,((t3020 != t3021)),za8,H',⟨za63⟩,⟨za0 HO3007.out⟩,⟨za0 HO3010.out⟩,⟨za1 BK3004.out⟩,⟨za1 BK3013.out⟩,⟨za3⟩⟩
   · rw [if_neg c20] at H
     exact absurd ((laws_FnMoves.j0_no H).trans HRT_.out) (by decide)
  case rest =>
   clear HC8
   obtain ⟨kq,x58_7,rfl,HA,HJ7,HO_4,HO_5,BK3004,BK3013,HB⟩:=hcut
   cases kq with
   | zero=>exact absurd HA.out (by simp [laws_FnMoves.j0])
   | succ kj7 =>
    have H:=HA.out
    clear HA
    simp only [laws_FnMoves.j0] at H
    by_cases c67:x58_7=true
    · subst c67
      have H1:(some false)=some r:=by rw [if_pos rfl] at H;exact H
      exact absurd ((zi H1).trans HRT_.out) (by decide)
    · replace c67:=Bool.eq_false_iff.mpr c67
      subst c67
      rw [if_neg (show ¬ (false=true) by decide)] at H
      try dsimp only at H
      have H':=zk H
      clear H
      go_wp2
      try simp only [Act.put,zt,zv,zu]
      go_loopg [7] kj7 (fun kq v7 w'=>∃ (x7_2:Int),v7 = .int .i64 x7_2∧Aside0 (laws_FnMoves.l0 kq l0 t3005 t3008 x7_2 t3002 t3003 t3011 t3012=some r)∧Aside0 (kq≤kj7)∧Aside0 (Kd.R k33 33 w' w.heap.size (fun k_=>some k_ ≠ (v3009:Value).ownBlock) v3006 t3005)∧Aside0 (Kd.R k33 33 w' w.heap.size (fun k_=>some k_ ≠ (v3006:Value).ownBlock) v3009 t3008)∧Aside0 (w'.heap[gb3004]? = some (.cells #[.string t3002,.string t3003] 25 (0,0)))∧Aside0 (w'.heap[gb3013]? = some (.cells #[.string t3011,.string t3012] 25 (0,0)))∧Aside0 (Below w.heap.size w w'))
      case atStart=>exact ⟨(0),za8,H',⟨Nat.le_refl _⟩,⟨za0 HO_4.out⟩,⟨za0 HO_5.out⟩,⟨za1 BK3004.out⟩,⟨za1 BK3013.out⟩,⟨za3⟩⟩
      case round =>
       clear H'
       try clear c67
       obtain ⟨x7_2,rfl,HA,HK2,HO_4,HO_5,BK3004,BK3013,HB⟩:=hrel
       cases gk with
       | zero=>exact absurd HA.out (by simp [laws_FnMoves.l0])
       | succ k2 =>
        have H:=HA.out
        clear HA
        simp only [laws_FnMoves.l0] at H
        by_cases c68:x7_2 < (t3005.length:Int)
        rw [if_pos c68] at H
        have c68b0:=zdl c68
        clear c68
        by_cases c69:0≤x7_2
        ·rw [if_pos c69] at H
         have c69b0:=zdle c69
         clear c69
         replace H:=zo H
         obtain ⟨⟨t3023,t3024⟩,A700,H⟩:=H
         try dsimp only at H
         have A70:=zk A700
         clear A700
         have HC71:=zk H
         clear H
         obtain ⟨Ao72,co72,eo72⟩:=Kd.R_slice HO_4.out
         subst eo72
         try go_wp2
         replace HO_4:=zk (Kd.R_drew HO_4.out)
         replace HO_5:=zk (Kd.R_drew HO_5.out)
         replace BK3004:=zk (blk_drew BK3004.out)
         replace BK3013:=zk (blk_drew BK3013.out)
         replace HB:=zk (below_drew1 HB.out)
         have p3022:0≤(x7_2:Int):=of_decide_eq_true za7
         have q3022:x7_2 < (t3005.length:Int):=of_decide_eq_true za7
         obtain ⟨ad3022,e3022,hx3022_0,hx3022_1⟩:=at_T33 (Kd.R_reads' HO_4.out).2.2 x7_2 p3022 q3022
         cases e3022
         replace p3022:=eq_true p3022
         replace q3022:=eq_true q3022
         refine start_ (n:=8) (S:=fun w'=>w'.cell? ⟨gb3004,0,none⟩=some (.string t3002)∧w'.cell? ⟨gb3004,1,none⟩=some (.string t3003)∧w'.cell? (ad3022.add ((x7_2).toNat * 2))=some (.int .u8 ((rd_T33 t3005 x7_2).f0))∧w'.cell? ⟨(ad3022.add ((x7_2).toNat * 2)).block,(ad3022.add ((x7_2).toNat * 2)).off+1,none⟩=some (.string ((rd_T33 t3005 x7_2).f1))) (ds:=[]) #[false,false,false,false,false,false,false,false] (by kernel_rfl) rfl rfl ⟨(blk_cell BK3004.out 0).trans rfl,(blk_cell BK3004.out 1).trans rfl,hx3022_0,hx3022_1⟩ (fun hHeld=>?_);refine with_tabW laws_FnMoves.tab12 laws_FnMoves.bits12 (fun HT_ HW_=>?_)
         generalize wr.drew=w73 at HO_4 HO_5 BK3004 BK3013 HB hx3022_0 hx3022_1 hHeld ⊢
         refine zy 1 (some 66) HT_.out ?_
         refine zy 2 (some 67) HT_.out ?_
         refine zy 3 (some 68) HT_.out ?_
         refine ztk 0 (some 65) HT_.out HW_.out hHeld ?_
         refine ztk 4 (some 69) HT_.out HW_.out hHeld ?_
         refine join_ (σ:=Nat) 1 #[true,true,true,true,true,true,true,false] (fun s_ => [(70,.agg #[.string t3023,.string t3024]),(8,.pointer (some ⟨s_,0,none⟩))]) (fun s_ w'=>(w'.cell? ⟨gb3004,0,none⟩=some (.string t3002)∧w'.cell? ⟨gb3004,1,none⟩=some (.string t3003)∧w'.cell? (ad3022.add ((x7_2).toNat * 2))=some (.int .u8 ((rd_T33 t3005 x7_2).f0))∧w'.cell? ⟨(ad3022.add ((x7_2).toNat * 2)).block,(ad3022.add ((x7_2).toNat * 2)).off+1,none⟩=some (.string ((rd_T33 t3005 x7_2).f1)))∧(Kd.R k33 33 w' w.heap.size (fun k_=>some k_ ≠ (v3009:Value).ownBlock) (.slice (some ad3022) t3005.length co72) t3005)∧(Kd.R k33 33 w' w.heap.size (fun k_=>some k_ ≠ (.slice (some ad3022) t3005.length co72:Value).ownBlock) v3009 t3008)∧(w'.heap[gb3004]? = some (.cells #[.string t3002,.string t3003] 25 (0,0)))∧(w'.heap[gb3013]? = some (.cells #[.string t3011,.string t3012] 25 (0,0)))∧(w'.heap[s_]? = some (.cells #[.string (⟨#[]⟩:ByteArray),.string (⟨#[]⟩:ByteArray)] 25 (0,0)))∧(w.heap.size≤s_)∧(w.heap.size≤s_)∧(gb3004 ≠ s_)∧(s_ ≠ gb3004)∧(gb3013 ≠ s_)∧(s_ ≠ gb3013)∧(Below w.heap.size w w')) ?_ ?_
         rotate_left
         · intro hCont
           refine two_ (i:=5) (j:=6) (Ni:=some 70) (Nj:=some 8) #[true,true,true,true,true,true,false,false] #[true,true,true,true,true,false,true,false] rfl rfl rfl rfl (two_of HT_.out (by kernel_rfl)) (by decide) (by decide) (fun K hK=>?_) (fun K hK=>?_)
           · skip
             refine goes_ Try.func16 (by kernel_rfl) rfl #[.agg #[.string t3002,.string t3003],.agg #[.int .u8 ((rd_T33 t3005 x7_2).f0),.string ((rd_T33 t3005 x7_2).f1)]] (by rfl) rfl rfl za4 ?_
             with_reducible refine (impl_ApplyMove.calls k2 t3002 t3003 ((rd_T33 t3005 x7_2).f0) ((rd_T33 t3005 x7_2).f1) t3023 t3024 _ A70.out).mono ?_
             rintro e w74 ⟨rfl,hb⟩
             have HS2_:=(hb.cell (World.block_lt_of_cell? _ _ (hHeld.2.2.1))).trans (hHeld.2.2.1)
             have HS3_:=(hb.cell (World.block_lt_of_cell? _ _ (hHeld.2.2.2))).trans (hHeld.2.2.2)
             refine ⟨_,rfl,?_⟩
             replace HO_4:=zk (Kd.R_below (za0 HO_4.out) hb)
             replace HO_5:=zk (Kd.R_below (za0 HO_5.out) hb)
             replace BK3004:=zk (zb BK3004.out hb)
             replace BK3013:=zk (zb BK3013.out hb)
             replace HB:=zk (below_step za3 hb)
             (try clear hb)
             (try clear hb2)
             (try clear hk)
             (try clear hi)
             refine hK.out _ _ ⟨(blk_cell BK3004.out 0).trans rfl,(blk_cell BK3004.out 1).trans rfl,HS2_,HS3_⟩ (fun hHeld=>?_)
             clear hK K
             refine zno (some 70) ?_
             refine zon 6 (some 8) HT_.out (fun K hK=>?_)
             refine box_step ?hg (N:=8) ?hd (cs:=#[.string (⟨#[]⟩:ByteArray),.string (⟨#[]⟩:ByteArray)]) (t:=25) ?hr ?_;(case hd=>rfl);(case hg=>rfl);(case hr=>first|(go_simp;done)|(go_simp;rfl))
             intro gb3025 hg w75 hbox hb
             have HS2_:=(hb.cell (World.block_lt_of_cell? _ _ (hHeld.2.2.1))).trans (hHeld.2.2.1)
             have HS3_:=(hb.cell (World.block_lt_of_cell? _ _ (hHeld.2.2.2))).trans (hHeld.2.2.2)
             replace HO_4:=zk (Kd.R_below (za0 HO_4.out) hb)
             replace HO_5:=zk (Kd.R_below (za0 HO_5.out) hb)
             have BK3025:=zk (hbox)
             have GW3025:=zk (zs (w:=w) hg za3)
             have GE3025:=zk (zs (w:=w) hg za3)
             have NB3004_3025:=zk ((by rw [hg];exact Nat.ne_of_lt (zl BK3004.out):gb3004 ≠ gb3025))
             have NB3025_3004:=zk ((by rw [hg];exact Nat.ne_of_gt (zl BK3004.out):gb3025 ≠ gb3004))
             have NB3013_3025:=zk ((by rw [hg];exact Nat.ne_of_lt (zl BK3013.out):gb3013 ≠ gb3025))
             have NB3025_3013:=zk ((by rw [hg];exact Nat.ne_of_gt (zl BK3013.out):gb3025 ≠ gb3013))
             replace BK3004:=zk (zb BK3004.out hb)
             replace BK3013:=zk (zb BK3013.out hb)
             replace HB:=zk (below_step za3 hb)
             clear hb hbox hg
             refine hK.out _ _ ⟨(blk_cell BK3004.out 0).trans rfl,(blk_cell BK3004.out 1).trans rfl,HS2_,HS3_⟩ (fun hHeld=>?_)
             clear hK K
             refine zno (some 8) ?_
             exact norm_ za88 (hCont (gb3025) _ ⟨hHeld,(za0 HO_4.out),(za0 HO_5.out),(za1 BK3004.out),(za1 BK3013.out),(za1 BK3025.out),GW3025.out,GE3025.out,NB3004_3025.out,NB3025_3004.out,NB3013_3025.out,NB3025_3013.out,za3⟩)
           · skip
             refine box_step ?hg (N:=8) ?hd (cs:=#[.string (⟨#[]⟩:ByteArray),.string (⟨#[]⟩:ByteArray)]) (t:=25) ?hr ?_;(case hd=>rfl);(case hg=>rfl);(case hr=>first|(go_simp;done)|(go_simp;rfl))
             intro gb3025 hg w74 hbox hb
             have HS2_:=(hb.cell (World.block_lt_of_cell? _ _ (hHeld.2.2.1))).trans (hHeld.2.2.1)
             have HS3_:=(hb.cell (World.block_lt_of_cell? _ _ (hHeld.2.2.2))).trans (hHeld.2.2.2)
             replace HO_4:=zk (Kd.R_below (za0 HO_4.out) hb)
             replace HO_5:=zk (Kd.R_below (za0 HO_5.out) hb)
             have BK3025:=zk (hbox)
             have GW3025:=zk (zs (w:=w) hg za3)
             have GE3025:=zk (zs (w:=w) hg za3)
             have NB3004_3025:=zk ((by rw [hg];exact Nat.ne_of_lt (zl BK3004.out):gb3004 ≠ gb3025))
             have NB3025_3004:=zk ((by rw [hg];exact Nat.ne_of_gt (zl BK3004.out):gb3025 ≠ gb3004))
             have NB3013_3025:=zk ((by rw [hg];exact Nat.ne_of_lt (zl BK3013.out):gb3013 ≠ gb3025))
             have NB3025_3013:=zk ((by rw [hg];exact Nat.ne_of_gt (zl BK3013.out):gb3025 ≠ gb3013))
             replace BK3004:=zk (zb BK3004.out hb)
             replace BK3013:=zk (zb BK3013.out hb)
             replace HB:=zk (below_step za3 hb)
             clear hb hbox hg
             refine hK.out _ _ ⟨(blk_cell BK3004.out 0).trans rfl,(blk_cell BK3004.out 1).trans rfl,HS2_,HS3_⟩ (fun hHeld=>?_)
             clear hK K
             refine zno (some 8) ?_
             refine zon 5 (some 70) HT_.out (fun K hK=>?_)
             refine goes_ Try.func16 (by kernel_rfl) rfl #[.agg #[.string t3002,.string t3003],.agg #[.int .u8 ((rd_T33 t3005 x7_2).f0),.string ((rd_T33 t3005 x7_2).f1)]] (by rfl) rfl rfl za4 ?_
             with_reducible refine (impl_ApplyMove.calls k2 t3002 t3003 ((rd_T33 t3005 x7_2).f0) ((rd_T33 t3005 x7_2).f1) t3023 t3024 _ A70.out).mono ?_
             rintro e w75 ⟨rfl,hb⟩
             have HS2_:=(hb.cell (World.block_lt_of_cell? _ _ (hHeld.2.2.1))).trans (hHeld.2.2.1)
             have HS3_:=(hb.cell (World.block_lt_of_cell? _ _ (hHeld.2.2.2))).trans (hHeld.2.2.2)
             refine ⟨_,rfl,?_⟩
             replace HO_4:=zk (Kd.R_below (za0 HO_4.out) hb)
             replace HO_5:=zk (Kd.R_below (za0 HO_5.out) hb)
             replace BK3004:=zk (zb BK3004.out hb)
             replace BK3013:=zk (zb BK3013.out hb)
             replace BK3025:=zk (zb BK3025.out hb)
             replace HB:=zk (below_step za3 hb)
             (try clear hb)
             (try clear hb2)
             (try clear hk)
             (try clear hi)
             refine hK.out _ _ ⟨(blk_cell BK3004.out 0).trans rfl,(blk_cell BK3004.out 1).trans rfl,HS2_,HS3_⟩ (fun hHeld=>?_)
             clear hK K
             refine zno (some 70) ?_
             exact norm_ za88 (hCont (gb3025) _ ⟨hHeld,(za0 HO_4.out),(za0 HO_5.out),(za1 BK3004.out),(za1 BK3013.out),(za1 BK3025.out),GW3025.out,GE3025.out,NB3004_3025.out,NB3025_3004.out,NB3013_3025.out,NB3025_3013.out,za3⟩)
         rintro gb3025 w76 ⟨hS_,h0_,h1_,h2_,h3_,h4_,h5_,h6_,h7_,h8_,h9_,h10_,h11_⟩
         have n0_:Aside0 (Kd.R k33 33 w76 w.heap.size (fun k_=>some k_ ≠ (v3009:Value).ownBlock) (.slice (some ad3022) t3005.length co72) t3005):=⟨h0_⟩
         have n1_:Aside0 (Kd.R k33 33 w76 w.heap.size (fun k_=>some k_ ≠ (.slice (some ad3022) t3005.length co72:Value).ownBlock) v3009 t3008):=⟨h1_⟩
         have n2_:Aside0 (w76.heap[gb3004]? = some (.cells #[.string t3002,.string t3003] 25 (0,0))):=⟨h2_⟩
         have n3_:Aside0 (w76.heap[gb3013]? = some (.cells #[.string t3011,.string t3012] 25 (0,0))):=⟨h3_⟩
         have n4_:Aside0 (w76.heap[gb3025]? = some (.cells #[.string (⟨#[]⟩:ByteArray),.string (⟨#[]⟩:ByteArray)] 25 (0,0))):=⟨h4_⟩
         have n5_:Aside0 (w.heap.size≤gb3025):=⟨h5_⟩
         have n6_:Aside0 (w.heap.size≤gb3025):=⟨h6_⟩
         have n7_:Aside0 (gb3004 ≠ gb3025):=⟨h7_⟩
         have n8_:Aside0 (gb3025 ≠ gb3004):=⟨h8_⟩
         have n9_:Aside0 (gb3013 ≠ gb3025):=⟨h9_⟩
         have n10_:Aside0 (gb3025 ≠ gb3013):=⟨h10_⟩
         have n11_:Aside0 (Below w.heap.size w w76):=⟨h11_⟩
         clear HO_4
         clear HO_5
         clear BK3004
         clear BK3013
         clear HB
         clear h0_ h1_ h2_ h3_ h4_ h5_ h6_ h7_ h8_ h9_ h10_ h11_
         have HO_4:=n0_
         have HO_5:=n1_
         have BK3004:=n2_
         have BK3013:=n3_
         have BK3025:=n4_
         have GW3025:=n5_
         have GE3025:=n6_
         have NB3004_3025:=n7_
         have NB3025_3004:=n8_
         have NB3013_3025:=n9_
         have NB3025_3013:=n10_
         have HB:=n11_
         clear n0_ n1_ n2_ n3_ n4_ n5_ n6_ n7_ n8_ n9_ n10_ n11_
         have hHeld:w76.cell? ⟨gb3004,0,none⟩=some (.string t3002)∧w76.cell? ⟨gb3004,1,none⟩=some (.string t3003)∧w76.cell? (ad3022.add ((x7_2).toNat * 2))=some (.int .u8 ((rd_T33 t3005 x7_2).f0))∧w76.cell? ⟨(ad3022.add ((x7_2).toNat * 2)).block,(ad3022.add ((x7_2).toNat * 2)).off+1,none⟩=some (.string ((rd_T33 t3005 x7_2).f1)):=hS_
         refine norm_ (a':=?_) ?_ ?_
         rotate_left
         · simp only [putAll,Act.put,zt,zu,zv]
           rfl
         refine zon 7 none HT_.out (fun K hK=>?_)
         have hs77:w76.cell? ⟨gb3025,0,none⟩=some (.string (⟨#[]⟩:ByteArray)):=(blk_cell BK3025.out 0).trans rfl
         have hfs77:=blk_frozen BK3025.out 0
         have hns77_0:=NB3004_3025.out
         have hns77_1:=NB3013_3025.out
         have hms77_0:=NB3025_3004.out
         have hms77_1:=NB3025_3013.out
         have hs78:w76.cell? ⟨gb3025,1,none⟩=some (.string (⟨#[]⟩:ByteArray)):=(blk_cell BK3025.out 1).trans rfl
         have hfs78:=blk_frozen BK3025.out 1
         have hns78_0:=NB3004_3025.out
         have hns78_1:=NB3013_3025.out
         have hms78_0:=NB3025_3004.out
         have hms78_1:=NB3025_3013.out
         refine skip_ (w1:=?_) (by rfl) rfl ?_ ?_
         rotate_left
         · go_simp
           rfl
         refine hK.out _ _ ⟨((cell_far (p:=⟨gb3025,_,none⟩) NB3004_3025.out _).trans (((cell_far (p:=⟨gb3025,_,none⟩) NB3004_3025.out _).trans (hHeld.1)))),((cell_far (p:=⟨gb3025,_,none⟩) NB3004_3025.out _).trans (((cell_far (p:=⟨gb3025,_,none⟩) NB3004_3025.out _).trans (hHeld.2.1)))),((cell_far (p:=⟨gb3025,_,none⟩) za66 _).trans (((cell_far (p:=⟨gb3025,_,none⟩) za66 _).trans (hHeld.2.2.1)))),((cell_far (p:=⟨gb3025,_,none⟩) za66 _).trans (((cell_far (p:=⟨gb3025,_,none⟩) za66 _).trans (hHeld.2.2.2))))⟩ (fun hHeld=>?_)
         clear hK K
         refine done_ (done_of HT_.out (by kernel_rfl)) ?_
         go_upto_region 13 with (fail)
         go_cut [89] (fun v89 wc=>∃ (kq:Nat) (x89_70:Bool),v89 = .bool x89_70∧Aside0 (laws_FnMoves.j2 kq l0 t3005 t3008 x7_2 x89_70 t3002 t3003 t3011 t3012 t3023 t3024=some r)∧Aside0 (kq≤k2)∧Aside0 (Kd.R k33 33 wc w.heap.size (fun k_=>some k_ ≠ (v3009:Value).ownBlock) (.slice (some ad3022) t3005.length co72) t3005)∧Aside0 (Kd.R k33 33 wc w.heap.size (fun k_=>some k_ ≠ ((.slice (some ad3022) t3005.length co72):Value).ownBlock) v3009 t3008)∧Aside0 (wc.heap[gb3004]? = some (.cells #[.string t3002,.string t3003] 25 (0,0)))∧Aside0 (wc.heap[gb3013]? = some (.cells #[.string t3011,.string t3012] 25 (0,0)))∧Aside0 (wc.heap[gb3025]? = some (.cells #[.string t3023,.string t3024] 25 (0,0)))∧Aside0 (Below w.heap.size w wc))
         case first =>
          have H:=HC71.out
          clear HC71
          by_cases c79:x7_2 < (t3008.length:Int)
          rw [if_pos c79] at H
          have c79b0:=zdl c79
          clear c79
          (first|rw [c79b0]|(simp only [i64_w,i32_w];rw [c79b0])|skip)
          by_cases c80:(!(((rd_T33 t3005 x7_2).f0) == ((rd_T33 t3008 x7_2).f0)) || (!((((rd_T33 t3005 x7_2).f1).toList) == (((rd_T33 t3008 x7_2).f1).toList))))=true
          · rw [if_pos c80] at H
            exact absurd ((laws_FnMoves.j2_no H).trans HRT_.out) (by decide)
          · rw [if_neg c80] at H
            have c80b0:(!(((rd_T33 t3005 x7_2).f0) == ((rd_T33 t3008 x7_2).f0)) || (!((((rd_T33 t3005 x7_2).f1).toList) == (((rd_T33 t3008 x7_2).f1).toList))))=false:=by simpa using c80
            clear c80
            replace H:=zo H
            obtain ⟨⟨t3029,t3030⟩,A840,H⟩:=H
            try dsimp only at H
            have A84:=zk A840
            clear A840
            have H':=zk H
            clear H
            try go_wp2
            have n0_:Aside0 (Kd.R k33 33 ((w76.setCell ⟨gb3025,0,none⟩ (.string t3023)).setCell ⟨gb3025,1,none⟩ (.string t3024)) w.heap.size (fun k_=>some k_ ≠ (v3009:Value).ownBlock) (.slice (some ad3022) t3005.length co72) t3005):=⟨by (with_reducible repeat (first|apply Kd.R_alloc|apply Kd.R_drewN|apply Kd.R_drew));exact Kd.R_mono (zfR (zfR (Kd.R_types HO_4.out BK3025.out (by decide)))) (fun _ hk=>hk.1)⟩
            have n1_:Aside0 (Kd.R k33 33 ((w76.setCell ⟨gb3025,0,none⟩ (.string t3023)).setCell ⟨gb3025,1,none⟩ (.string t3024)) w.heap.size (fun k_=>some k_ ≠ (.slice (some ad3022) t3005.length co72:Value).ownBlock) v3009 t3008):=⟨by (with_reducible repeat (first|apply Kd.R_alloc|apply Kd.R_drewN|apply Kd.R_drew));exact Kd.R_mono (zfR (zfR (Kd.R_types HO_5.out BK3025.out (by decide)))) (fun _ hk=>hk.1)⟩
            have n2_:Aside0 (((w76.setCell ⟨gb3025,0,none⟩ (.string t3023)).setCell ⟨gb3025,1,none⟩ (.string t3024)).heap[gb3004]? = some (.cells #[.string t3002,.string t3003] 25 (0,0))):=⟨by (with_reducible repeat (first|refine blk_drewN ?_ _|refine blk_drew ?_|refine blk_alloc ?_ _));refine blk_far ?_ NB3004_3025.out _;(with_reducible repeat (first|refine blk_drewN ?_ _|refine blk_drew ?_|refine blk_alloc ?_ _));refine blk_far ?_ NB3004_3025.out _;(with_reducible repeat (first|refine blk_drewN ?_ _|refine blk_drew ?_|refine blk_alloc ?_ _));exact BK3004.out⟩
            have n3_:Aside0 (((w76.setCell ⟨gb3025,0,none⟩ (.string t3023)).setCell ⟨gb3025,1,none⟩ (.string t3024)).heap[gb3013]? = some (.cells #[.string t3011,.string t3012] 25 (0,0))):=⟨by (with_reducible repeat (first|refine blk_drewN ?_ _|refine blk_drew ?_|refine blk_alloc ?_ _));refine blk_far ?_ NB3013_3025.out _;(with_reducible repeat (first|refine blk_drewN ?_ _|refine blk_drew ?_|refine blk_alloc ?_ _));refine blk_far ?_ NB3013_3025.out _;(with_reducible repeat (first|refine blk_drewN ?_ _|refine blk_drew ?_|refine blk_alloc ?_ _));exact BK3013.out⟩
            have n4_:Aside0 (((w76.setCell ⟨gb3025,0,none⟩ (.string t3023)).setCell ⟨gb3025,1,none⟩ (.string t3024)).heap[gb3025]? = some (.cells #[.string t3023,.string t3024] 25 (0,0))):=⟨zpu BK3025.out⟩
            have n5_:Aside0 (Below w.heap.size w ((w76.setCell ⟨gb3025,0,none⟩ (.string t3023)).setCell ⟨gb3025,1,none⟩ (.string t3024))):=⟨za3⟩
            (try clear HO_4)
            (try clear HO_5)
            (try clear BK3004)
            (try clear BK3013)
            (try clear BK3025)
            (try clear HB)
            generalize ((w76.setCell ⟨gb3025,0,none⟩ (.string t3023)).setCell ⟨gb3025,1,none⟩ (.string t3024))=w85 at n0_ n1_ n2_ n3_ n4_ n5_ ⊢
            have HO_4:=n0_
            have HO_5:=n1_
            have BK3004:=n2_
            have BK3013:=n3_
            have BK3025:=n4_
            have HB:=n5_
            clear n0_ n1_ n2_ n3_ n4_ n5_
            replace HO_4:=zk (Kd.R_drew HO_4.out)
            replace HO_5:=zk (Kd.R_drew HO_5.out)
            replace BK3004:=zk (blk_drew BK3004.out)
            replace BK3013:=zk (blk_drew BK3013.out)
            replace BK3025:=zk (blk_drew BK3025.out)
            replace HB:=zk (below_drew1 HB.out)
            have p3026:0≤(x7_2:Int):=of_decide_eq_true za7
            have q3026:x7_2 < (t3005.length:Int):=of_decide_eq_true za7
            obtain ⟨ad3026,e3026,hx3026_0,hx3026_1⟩:=at_T33 (Kd.R_reads' HO_4.out).2.2 x7_2 p3026 q3026
            obtain rfl:ad3022=ad3026:=(by injection e3026)
            replace p3026:=eq_true p3026
            replace q3026:=eq_true q3026
            obtain ⟨Ao87,co87,eo87⟩:=Kd.R_slice HO_5.out
            (first|subst eo87|(injection eo87 with f1_ f2_ f3_;have f4_:=f1_.symm;have f5_:=f3_.symm;clear f1_ f2_ f3_;subst f4_;subst f5_))
            have p3027:0≤(x7_2:Int):=of_decide_eq_true za7
            have q3027:x7_2 < (t3008.length:Int):=of_decide_eq_true za7
            obtain ⟨ad3027,e3027,hx3027_0,hx3027_1⟩:=at_T33 (Kd.R_reads' HO_5.out).2.2 x7_2 p3027 q3027
            cases e3027
            replace p3027:=eq_true p3027
            replace q3027:=eq_true q3027
            have p3028:0≤(x7_2:Int):=of_decide_eq_true za7
            have q3028:x7_2 < (t3005.length:Int):=of_decide_eq_true za7
            obtain ⟨ad3028,e3028,hx3028_0,hx3028_1⟩:=at_T33 (Kd.R_reads' HO_4.out).2.2 x7_2 p3028 q3028
            obtain rfl:ad3022=ad3028:=(by injection e3028)
            replace p3028:=eq_true p3028
            replace q3028:=eq_true q3028
            refine start_ (n:=19) (S:=fun w'=>w'.cell? ⟨gb3025,0,none⟩=some (.string t3023)∧w'.cell? ⟨gb3025,1,none⟩=some (.string t3024)∧w'.cell? ⟨gb3004,0,none⟩=some (.string t3002)∧w'.cell? ⟨gb3004,1,none⟩=some (.string t3003)∧w'.cell? (ad3022.add ((x7_2).toNat * 2))=some (.int .u8 ((rd_T33 t3005 x7_2).f0))∧w'.cell? ⟨(ad3022.add ((x7_2).toNat * 2)).block,(ad3022.add ((x7_2).toNat * 2)).off+1,none⟩=some (.string ((rd_T33 t3005 x7_2).f1))∧w'.cell? (ad3027.add ((x7_2).toNat * 2))=some (.int .u8 ((rd_T33 t3008 x7_2).f0))∧w'.cell? ⟨(ad3027.add ((x7_2).toNat * 2)).block,(ad3027.add ((x7_2).toNat * 2)).off+1,none⟩=some (.string ((rd_T33 t3008 x7_2).f1))∧w'.cell? (ad3022.add ((x7_2).toNat * 2))=some (.int .u8 ((rd_T33 t3005 x7_2).f0))∧w'.cell? ⟨(ad3022.add ((x7_2).toNat * 2)).block,(ad3022.add ((x7_2).toNat * 2)).off+1,none⟩=some (.string ((rd_T33 t3005 x7_2).f1))) (ds:=[]) #[false,false,false,false,false,false,false,false,false,false,false,false,false,false,false,false,false,false,false] (by kernel_rfl) rfl rfl ⟨(blk_cell BK3025.out 0).trans rfl,(blk_cell BK3025.out 1).trans rfl,(blk_cell BK3004.out 0).trans rfl,(blk_cell BK3004.out 1).trans rfl,hx3026_0,hx3026_1,hx3027_0,hx3027_1,hx3028_0,hx3028_1⟩ (fun hHeld=>?_);refine with_tabW laws_FnMoves.tab13 laws_FnMoves.bits13 (fun HT_ HW_=>?_)
            generalize w85.drew=w86 at HO_4 HO_5 BK3004 BK3013 BK3025 HB hx3026_0 hx3026_1 hx3027_0 hx3027_1 hx3028_0 hx3028_1 hHeld ⊢
            refine zy 0 (some 71) HT_.out ?_
            refine zy 1 (some 72) HT_.out ?_
            refine zy 2 (some 73) HT_.out ?_
            refine zy 4 (some 75) HT_.out ?_
            refine zy 5 (some 76) HT_.out ?_
            refine zy 6 (some 77) HT_.out ?_
            refine ztk 3 (some 74) HT_.out HW_.out hHeld ?_
            refine ztk 7 (some 78) HT_.out HW_.out hHeld ?_
            refine zy 8 (some 79) HT_.out ?_
            refine zy 9 (some 80) HT_.out ?_
            refine zy 12 (some 83) HT_.out ?_
            refine zy 13 (some 84) HT_.out ?_
            refine zy 14 (some 85) HT_.out ?_
            refine ztk 10 (some 81) HT_.out HW_.out hHeld ?_
            refine ztk 11 (some 82) HT_.out HW_.out hHeld ?_
            refine ztk 15 (some 86) HT_.out HW_.out hHeld ?_
            refine zon 16 (some 87) HT_.out (fun K hK=>?_)
            refine goes_ Try.func17 (by kernel_rfl) rfl #[.agg #[.string t3002,.string t3003],.agg #[.int .u8 ((rd_T33 t3005 x7_2).f0),.string ((rd_T33 t3005 x7_2).f1)]] (by rfl) rfl rfl za4 ?_
            with_reducible refine (spec_ApplyMove.calls k2 t3002 t3003 ((rd_T33 t3005 x7_2).f0) ((rd_T33 t3005 x7_2).f1) t3029 t3030 _ A84.out).mono ?_
            rintro e w88 ⟨rfl,hb⟩
            have HS4_:=(hb.cell (World.block_lt_of_cell? _ _ (hHeld.2.2.2.2.1))).trans (hHeld.2.2.2.2.1)
            have HS5_:=(hb.cell (World.block_lt_of_cell? _ _ (hHeld.2.2.2.2.2.1))).trans (hHeld.2.2.2.2.2.1)
            have HS6_:=(hb.cell (World.block_lt_of_cell? _ _ (hHeld.2.2.2.2.2.2.1))).trans (hHeld.2.2.2.2.2.2.1)
            have HS7_:=(hb.cell (World.block_lt_of_cell? _ _ (hHeld.2.2.2.2.2.2.2.1))).trans (hHeld.2.2.2.2.2.2.2.1)
            have HS8_:=(hb.cell (World.block_lt_of_cell? _ _ (hHeld.2.2.2.2.2.2.2.2.1))).trans (hHeld.2.2.2.2.2.2.2.2.1)
            have HS9_:=(hb.cell (World.block_lt_of_cell? _ _ (hHeld.2.2.2.2.2.2.2.2.2))).trans (hHeld.2.2.2.2.2.2.2.2.2)
            refine ⟨_,rfl,?_⟩
            replace HO_4:=zk (Kd.R_below (za0 HO_4.out) hb)
            replace HO_5:=zk (Kd.R_below (za0 HO_5.out) hb)
            replace BK3004:=zk (zb BK3004.out hb)
            replace BK3013:=zk (zb BK3013.out hb)
            replace BK3025:=zk (zb BK3025.out hb)
            replace HB:=zk (below_step za3 hb)
            (try clear hb)
            (try clear hb2)
            (try clear hk)
            (try clear hi)
            refine hK.out _ _ ⟨(blk_cell BK3025.out 0).trans rfl,(blk_cell BK3025.out 1).trans rfl,(blk_cell BK3004.out 0).trans rfl,(blk_cell BK3004.out 1).trans rfl,HS4_,HS5_,HS6_,HS7_,HS8_,HS9_⟩ (fun hHeld=>?_)
            clear hK K
            refine zno (some 87) ?_
            refine zy 17 (some 88) HT_.out ?_
            refine zy 18 (some 89) HT_.out ?_
            refine done_ (done_of HT_.out (by kernel_rfl)) ?_
            try go_wp2
            go_meet
            case rel=>exact ⟨_,((!(t3023.toList == t3029.toList) || (!(t3024.toList == t3030.toList)))),za8,H',⟨by have:=HJ7.out;have:=HK2.out;first|omega|exact Nat.le_refl _⟩,⟨za0 HO_4.out⟩,⟨za0 HO_5.out⟩,⟨za1 BK3004.out⟩,⟨za1 BK3013.out⟩,⟨za1 BK3025.out⟩,⟨za3⟩⟩
          · rw [if_neg c79] at H
            exact absurd H (by simp)
         case rest =>
          clear HC71
          obtain ⟨kq,x89_70,rfl,HA,HJ70,HO_4,HO_5,BK3004,BK3013,BK3025,HB⟩:=hcut
          cases kq with
          | zero=>exact absurd HA.out (by simp [laws_FnMoves.j2])
          | succ kj70 =>
           have H:=HA.out
           clear HA
           simp only [laws_FnMoves.j2] at H
           by_cases c89:x89_70=true
           · subst c89
             have H1:(some false)=some r:=by rw [if_pos rfl] at H;exact H
             exact absurd ((zi H1).trans HRT_.out) (by decide)
           · replace c89:=Bool.eq_false_iff.mpr c89
             subst c89
             rw [if_neg (show ¬ (false=true) by decide)] at H
             try dsimp only at H
             have HC90:=zk H
             clear H
             go_upto_region 15 with (fail)
             go_cut [108] (fun v108 wc=>∃ (kq:Nat) (x108_89:Bool),v108 = .bool x108_89∧Aside0 (laws_FnMoves.j3 kq l0 t3005 t3008 x7_2 x108_89 t3002 t3003 t3011 t3012 t3023 t3024=some r)∧Aside0 (kq≤kj70)∧Aside0 (Kd.R k33 33 wc w.heap.size (fun k_=>some k_ ≠ (v3009:Value).ownBlock) (.slice (some ad3022) t3005.length co72) t3005)∧Aside0 (Kd.R k33 33 wc w.heap.size (fun k_=>some k_ ≠ ((.slice (some ad3022) t3005.length co72):Value).ownBlock) v3009 t3008)∧Aside0 (wc.heap[gb3004]? = some (.cells #[.string t3002,.string t3003] 25 (0,0)))∧Aside0 (wc.heap[gb3013]? = some (.cells #[.string t3011,.string t3012] 25 (0,0)))∧Aside0 (wc.heap[gb3025]? = some (.cells #[.string t3023,.string t3024] 25 (0,0)))∧Aside0 (Below w.heap.size w wc))
             case first =>
              have H:=HC90.out
              clear HC90
              replace H:=zo H
              obtain ⟨t3031,A910,H⟩:=H
              try dsimp only at H
              have A91:=zk A910
              clear A910
              by_cases c92:t3031=true
              subst c92
              have H1:(laws_FnMoves.j3 kj70 l0 t3005 t3008 x7_2 (decide ((wrap64 ((t3023.size:Int)+(t3024.size:Int))) > (wrap64 ((t3011.size:Int)+(t3012.size:Int))))) t3002 t3003 t3011 t3012 t3023 t3024)=some r:=by rw [if_pos rfl] at H;exact H
              have fin0_:=zk trivial
              rotate_left
              replace c92:=Bool.eq_false_iff.mpr c92
              subst c92
              have H1:(laws_FnMoves.j3 kj70 l0 t3005 t3008 x7_2 false t3002 t3003 t3011 t3012 t3023 t3024)=some r:=by rw [if_neg (show ¬ (false=true) by decide)] at H;exact H
              have fin1_:=zk trivial
              rotate_left
              all_goals
               clear H
               have H:=H1
               clear H1
               have H':=zk H
               clear H
               have hnb93:=NB3004_3013.out
               have hnc93:=NB3013_3004.out
               have hnb94:=NB3004_3025.out
               have hnc94:=NB3025_3004.out
               obtain ⟨hcz95_0,hcz95_1,hfz95_0,hfz95_1⟩:=blk2 BK3004.out
               go_wp2_with (((with_reducible refine gate_callee (f:=13) rfl ?_);refine goesL_ (some 91) rfl rfl Try.func13 (by kernel_rfl) rfl #[.agg #[.string t3002,.string t3003]] rfl za4 ?_;(with_reducible refine (spec_IsQuadratic.calls kj70 t3002 t3003 _ _ A91.out).mono ?_);rintro e w96 ⟨rfl,hb⟩;refine ⟨_,rfl,?_⟩;replace HO_4:=zk (Kd.R_below (za0 HO_4.out) hb);replace HO_5:=zk (Kd.R_below (za0 HO_5.out) hb);replace BK3004:=zk (zb BK3004.out hb);replace BK3013:=zk (zb BK3013.out hb);replace BK3025:=zk (zb BK3025.out hb);replace HB:=zk (below_step za3 hb);(try clear hb);(try clear hb2);(try clear hk);(try clear hi);have hnb97:=NB3025_3013.out;have hnc97:=NB3013_3025.out;obtain ⟨hcz98_0,hcz98_1,hfz98_0,hfz98_1⟩:=blk2 BK3025.out;obtain ⟨hcz99_0,hcz99_1,hfz99_0,hfz99_1⟩:=blk2 BK3013.out))
               first
               | (
                 clear fin0_
                 go_meet
                 case rel=>exact ⟨_,(decide ((wrap64 ((t3023.size:Int)+(t3024.size:Int))) > (wrap64 ((t3011.size:Int)+(t3012.size:Int))))),za8,H',⟨by have:=HJ7.out;have:=HK2.out;have:=HJ70.out;first|omega|exact Nat.le_refl _⟩,⟨za0 HO_4.out⟩,⟨za0 HO_5.out⟩,⟨za1 BK3004.out⟩,⟨za1 BK3013.out⟩,⟨za1 BK3025.out⟩,⟨za3⟩⟩)
               | (
                 clear fin1_
                 go_meet
                 case rel=>exact ⟨_,(false),za8,H',⟨by have:=HJ7.out;have:=HK2.out;have:=HJ70.out;first|omega|exact Nat.le_refl _⟩,⟨za0 HO_4.out⟩,⟨za0 HO_5.out⟩,⟨za1 BK3004.out⟩,⟨za1 BK3013.out⟩,⟨za1 BK3025.out⟩,⟨za3⟩⟩)
             case rest =>
              clear HC90
              try clear c89
              obtain ⟨kq,x108_89,rfl,HA,HJ89,HO_4,HO_5,BK3004,BK3013,BK3025,HB⟩:=hcut
              cases kq with
              | zero=>exact absurd HA.out (by simp [laws_FnMoves.j3])
              | succ kj89 =>
               have H:=HA.out
               clear HA
               simp only [laws_FnMoves.j3] at H
               by_cases c104:x108_89=true
               ·subst c104
                have H1:(some false)=some r:=by rw [if_pos rfl] at H;exact H
                exact absurd ((zi H1).trans HRT_.out) (by decide)
               ·replace c104:=Bool.eq_false_iff.mpr c104
                subst c104
                rw [if_neg (show ¬ (false=true) by decide)] at H
                try dsimp only at H
                have H':=zk H
                clear H
                go_wp2
                try simp only [Act.put,zt,zv,zu]
                go_loopg [9] kj89 (fun kq v9 w'=>∃ (x9_5:Int),v9 = .int .i64 x9_5∧Aside0 (laws_FnMoves.l1 kq l0 t3005 t3008 x7_2 x9_5 t3002 t3003 t3011 t3012 t3023 t3024=some r)∧Aside0 (kq≤kj89)∧Aside0 (Kd.R k33 33 w' w.heap.size (fun k_=>some k_ ≠ (v3009:Value).ownBlock) (.slice (some ad3022) t3005.length co72) t3005)∧Aside0 (Kd.R k33 33 w' w.heap.size (fun k_=>some k_ ≠ ((.slice (some ad3022) t3005.length co72):Value).ownBlock) v3009 t3008)∧Aside0 (w'.heap[gb3004]? = some (.cells #[.string t3002,.string t3003] 25 (0,0)))∧Aside0 (w'.heap[gb3013]? = some (.cells #[.string t3011,.string t3012] 25 (0,0)))∧Aside0 (w'.heap[gb3025]? = some (.cells #[.string t3023,.string t3024] 25 (0,0)))∧Aside0 (Below w.heap.size w w'))
                case atStart=>exact ⟨(0),za8,H',⟨Nat.le_refl _⟩,⟨za0 HO_4.out⟩,⟨za0 HO_5.out⟩,⟨za1 BK3004.out⟩,⟨za1 BK3013.out⟩,⟨za1 BK3025.out⟩,⟨za3⟩⟩
                case round =>
                 clear H'
                 try clear c89
                 try clear c104
                 obtain ⟨x9_5,rfl,HA,HK5,HO_4,HO_5,BK3004,BK3013,BK3025,HB⟩:=hrel
                 cases gk with
                 | zero=>exact absurd HA.out (by simp [laws_FnMoves.l1])
                 | succ k5 =>
                  have H:=HA.out
                  clear HA
                  simp only [laws_FnMoves.l1] at H
                  have HC105:=zk H
                  clear H
                  go_upto_region 18 with (fail)
                  go_cut [114] (fun v114 wc=>∃ (kq:Nat) (x114_104:Bool),v114 = .bool x114_104∧Aside0 (laws_FnMoves.j5 kq l0 t3005 t3008 x7_2 x9_5 x114_104 t3002 t3003 t3011 t3012 t3023 t3024=some r)∧Aside0 (kq≤k5)∧Aside0 (Kd.R k33 33 wc w.heap.size (fun k_=>some k_ ≠ (v3009:Value).ownBlock) (.slice (some ad3022) t3005.length co72) t3005)∧Aside0 (Kd.R k33 33 wc w.heap.size (fun k_=>some k_ ≠ ((.slice (some ad3022) t3005.length co72):Value).ownBlock) v3009 t3008)∧Aside0 (wc.heap[gb3004]? = some (.cells #[.string t3002,.string t3003] 25 (0,0)))∧Aside0 (wc.heap[gb3013]? = some (.cells #[.string t3011,.string t3012] 25 (0,0)))∧Aside0 (wc.heap[gb3025]? = some (.cells #[.string t3023,.string t3024] 25 (0,0)))∧Aside0 (Below w.heap.size w wc))
                  case first =>
                   have H:=HC105.out
                   clear HC105
                   by_cases c106:x9_5 < 3
                   · rw [if_pos c106] at H
                     have c106b0:=zdl c106
                     clear c106
                     (first|rw [c106b0]|(simp only [i64_w,i32_w];rw [c106b0])|skip)
                     replace H:=zo H
                     obtain ⟨t3032,A1070,H⟩:=H
                     try dsimp only at H
                     have A107:=zk A1070
                     clear A1070
                     have H':=zk H
                     clear H
                     have hnb108:=NB3004_3013.out
                     have hnc108:=NB3013_3004.out
                     have hnb109:=NB3004_3025.out
                     have hnc109:=NB3025_3004.out
                     obtain ⟨hcz110_0,hcz110_1,hfz110_0,hfz110_1⟩:=blk2 BK3004.out
                     go_wp2_with (first|(go_at_call 13;(with_reducible refine (spec_IsQuadratic.calls k5 t3002 t3003 t3032 _ A107.out).mono ?_);rintro e w111 ⟨rfl,hb⟩;replace HO_4:=zk (Kd.R_below (za0 HO_4.out) hb);replace HO_5:=zk (Kd.R_below (za0 HO_5.out) hb);replace BK3004:=zk (zb BK3004.out hb);replace BK3013:=zk (zb BK3013.out hb);replace BK3025:=zk (zb BK3025.out hb);replace HB:=zk (below_step za3 hb);(try clear hb);(try clear hb2);(try clear hk);(try clear hi)))
                     go_meet
                     case rel=>exact ⟨_,(t3032),za8,H',⟨by have:=HJ7.out;have:=HK2.out;have:=HJ70.out;have:=HJ89.out;have:=HK5.out;first|omega|exact Nat.le_refl _⟩,⟨za0 HO_4.out⟩,⟨za0 HO_5.out⟩,⟨za1 BK3004.out⟩,⟨za1 BK3013.out⟩,⟨za1 BK3025.out⟩,⟨za3⟩⟩
                   · rw [if_neg c106] at H
                     have c106b0:=zdnl c106
                     clear c106
                     (first|rw [c106b0]|(simp only [i64_w,i32_w];rw [c106b0])|skip)
                     have H':=zk H
                     clear H
                     go_wp2
                     go_meet
                     case rel=>exact ⟨_,(false),za8,H',⟨by have:=HJ7.out;have:=HK2.out;have:=HJ70.out;have:=HJ89.out;have:=HK5.out;first|omega|exact Nat.le_refl _⟩,⟨za0 HO_4.out⟩,⟨za0 HO_5.out⟩,⟨za1 BK3004.out⟩,⟨za1 BK3013.out⟩,⟨za1 BK3025.out⟩,⟨za3⟩⟩
                  case rest =>
                   clear HC105
                   try clear c89
                   try clear c104
                   obtain ⟨kq,x114_104,rfl,HA,HJ104,HO_4,HO_5,BK3004,BK3013,BK3025,HB⟩:=hcut
                   cases kq with
                   | zero=>exact absurd HA.out (by simp [laws_FnMoves.j5])
                   | succ kj104 =>
                    have H:=HA.out
                    clear HA
                    simp only [laws_FnMoves.j5] at H
                    by_cases c112:x114_104=true
                    subst c112
                    rw [if_pos rfl] at H
                    try dsimp only at H
                    by_cases c113:t3023.size+t3024.size≤9223372036854775807
                    rw [if_pos c113] at H
                    have c113z:=c113
                    try simp at c113z
                    try replace c113z:=eq_false (Nat.not_lt.2 c113z)
                    have c113b0:=eq_true c113
                    have c113b1:=zdle c113
                    try have c113b2:(9223372036854775807 < t3023.size+t3024.size)=False:=eq_false (Nat.not_lt.2 c113)
                    by_cases c114:0≤x9_5
                    rw [if_pos c114] at H
                    have c114b0:=zdle c114
                    clear c114
                    by_cases c115:x9_5 < 3
                    rw [if_pos c115] at H
                    have c115b0:=zdl c115
                    clear c115
                    replace H:=zo H
                    obtain ⟨t3033,A1170,H⟩:=H
                    try dsimp only at H
                    have A117:=zk A1170
                    clear A1170
                    by_cases c118:t3033 > 2
                    · rw [if_pos c118] at H
                      exact absurd ((zi H).trans HRT_.out) (by decide)
                    · rw [if_neg c118] at H
                      have c118b0:=zdnl c118
                      clear c118
                      have H':=zk H
                      clear H
                      try go_wp2
                      replace HO_4:=zk (Kd.R_drew HO_4.out)
                      replace HO_5:=zk (Kd.R_drew HO_5.out)
                      replace BK3004:=zk (blk_drew BK3004.out)
                      replace BK3013:=zk (blk_drew BK3013.out)
                      replace BK3025:=zk (blk_drew BK3025.out)
                      replace HB:=zk (below_drew1 HB.out)
                      have p116:0≤(x9_5:Int):=of_decide_eq_true za7
                      have q116:x9_5 < (3:Int):=of_decide_eq_true za7
                      have hx116:=bt_at (⟨#[88,89,90]⟩:ByteArray) x9_5
                      replace p116:=eq_true p116
                      replace q116:=eq_true q116
                      refine start_ (n:=9) (S:=fun w'=>w'.cell? ⟨gb3025,0,none⟩=some (.string t3023)∧w'.cell? ⟨gb3025,1,none⟩=some (.string t3024)) (ds:=[]) #[false,false,false,false,false,false,false,false,false] (by kernel_rfl) rfl rfl ⟨(blk_cell BK3025.out 0).trans rfl,(blk_cell BK3025.out 1).trans rfl⟩ (fun hHeld=>?_);refine with_tabW laws_FnMoves.tab20 laws_FnMoves.bits20 (fun HT_ HW_=>?_)
                      generalize wc.drew=w120 at HO_4 HO_5 BK3004 BK3013 BK3025 HB hHeld ⊢
                      refine zy 0 (some 117) HT_.out ?_
                      refine zy 2 (some 119) HT_.out ?_
                      refine zy 5 (some 122) HT_.out ?_
                      refine ztk 1 (some 118) HT_.out HW_.out hHeld ?_
                      refine ztk 3 (some 120) HT_.out HW_.out hHeld ?_
                      refine zy 4 (some 121) HT_.out ?_
                      refine ztk 6 (some 123) HT_.out HW_.out hHeld ?_
                      refine zon 7 (some 124) HT_.out (fun K hK=>?_)
                      refine goes_ Try.func18 (by kernel_rfl) rfl #[.string (t3023 ++ t3024),.int .u8 (bt (⟨#[88,89,90]⟩:ByteArray) x9_5)] (by rfl) rfl rfl za4 ?_
                      with_reducible refine (spec_CountByte.calls kj104 (t3023 ++ t3024) (bt (⟨#[88,89,90]⟩:ByteArray) x9_5) t3033 _ A117.out).mono ?_
                      rintro e w' ⟨rfl,⟨nd,rfl⟩⟩
                      refine ⟨_,rfl,?_⟩
                      refine hK.out _ _ ⟨(blk_cell BK3025.out 0).trans rfl,(blk_cell BK3025.out 1).trans rfl⟩ (fun hHeld=>?_)
                      clear hK K
                      refine zno (some 124) ?_
                      refine zy 8 (some 125) HT_.out ?_
                      refine done_ (done_of HT_.out (by kernel_rfl)) ?_
                      try go_wp2
                      go_roundg kj104
                      case measure=>have:=HJ7.out;have:=HK2.out;have:=HJ70.out;have:=HJ89.out;have:=HK5.out;have:=HJ104.out;omega
                      case rel=>exact ⟨(wrap64 (x9_5+1)),za8,H',⟨by have:=HJ7.out;have:=HK2.out;have:=HJ70.out;have:=HJ89.out;have:=HK5.out;have:=HJ104.out;omega⟩,⟨za0 HO_4.out⟩,⟨za0 HO_5.out⟩,⟨za1 BK3004.out⟩,⟨za1 BK3013.out⟩,⟨za1 BK3025.out⟩,⟨za3⟩⟩
                    · rw [if_neg c115] at H
                      exact absurd H (by simp)
                    · rw [if_neg c114] at H
                      exact absurd H (by simp)
                    · rw [if_neg c113] at H
                      exact absurd H (by simp)
                    · replace c112:=Bool.eq_false_iff.mpr c112
                      subst c112
                      rw [if_neg (show ¬ (false=true) by decide)] at H
                      try dsimp only at H
                      have H':=zk H
                      clear H
                      go_wp2
                      go_roundg kj104
                      case measure=>have:=HJ7.out;have:=HK2.out;have:=HJ70.out;have:=HJ89.out;have:=HK5.out;have:=HJ104.out;omega
                      case rel=>exact ⟨(wrap64 (x7_2+1)),za8,H',⟨by have:=HJ7.out;have:=HK2.out;have:=HJ70.out;have:=HJ89.out;have:=HK5.out;have:=HJ104.out;omega⟩,⟨za0 HO_4.out⟩,⟨za0 HO_5.out⟩,⟨za1 BK3004.out⟩,⟨za1 BK3013.out⟩,⟨za3⟩⟩
        ·rw [if_neg c69] at H
         exact absurd H (by simp)
        rw [if_neg c68] at H
        have c68b0:=zdnl c68
        clear c68
        replace H:=zo H
        obtain ⟨t3034,A1210,H⟩:=H
        try dsimp only at H
        have A121:=zk A1210
        clear A1210
        replace H:=zo H
        obtain ⟨⟨t3038,t3039,t3040⟩,A1220,H⟩:=H
        try dsimp only at H
        have A122:=zk A1220
        clear A1220
        replace H:=zo H
        obtain ⟨⟨t3042,t3043,t3044⟩,A1230,H⟩:=H
        try dsimp only at H
        have A123:=zk A1230
        clear A1230
        replace H:=zo H
        obtain ⟨⟨t3046,t3047,t3048,t3049⟩,A1240,H⟩:=H
        try dsimp only at H
        have A124:=zk A1240
        clear A1240
        by_cases c125:(t3038.toList == t3042.toList && (t3039.toList == t3043.toList))=true
        rw [if_pos c125] at H
        have c125b0:(t3038.toList == t3042.toList && (t3039.toList == t3043.toList))=true:=c125
        (try (have c125b1:decide (t3038.toList=t3042.toList && (t3039.toList == t3043.toList))=true:=by simpa using c125))
        (try (have c125b2:(t3038.toList == t3042.toList && (t3039.toList == t3043.toList))=true:=by simpa using c125))
        clear c125
        by_cases c126:(t3040 == t3044)=true
        ·rw [if_pos c126] at H
         have c126b0:(t3040 == t3044)=true:=c126
         (try (have c126b1:decide (t3040=t3044)=true:=by simpa using c126))
         (try (have c126b2:(t3040 == t3044)=true:=by simpa using c126))
         clear c126
         replace H:=zo H
         obtain ⟨⟨t3052,t3053⟩,A1270,H⟩:=H
         try dsimp only at H
         have A127:=zk A1270
         clear A1270
         replace H:=zo H
         obtain ⟨⟨t3054,t3055⟩,A1280,H⟩:=H
         try dsimp only at H
         have A128:=zk A1280
         clear A1280
         obtain rfl:=zi H
         obtain ⟨Ao129,co129,eo129⟩:=Kd.R_slice HO_4.out
         subst eo129
         try go_wp2_with (first|((with_reducible refine gate_callee (f:=19) rfl ?_);refine goesL_ (some 127) rfl rfl Try.func19 (by kernel_rfl) rfl #[.slice A0 l0.length c0] rfl za4 ?_;(with_reducible refine (spec_DrawJoinEquations.calls k2 _ _ l0 t3034 _ ?side1 ?side2 A121.out).mono ?_);(case side1=>repeat (first|exact (Kd.C_below HR0.out HB.out)|(with_reducible refine Kd.C_alloc ?_ _)|(with_reducible refine Kd.C_drewN ?_ _)|(with_reducible refine Kd.C_drew ?_)));(case side2=>exact HC0.out);rintro e w130 ⟨v3035,rfl,ho0,hb⟩;refine ⟨_,rfl,?_⟩;have HO3036:=zk (Kd.N_lower (Kd.N_mono (ok':=fun k_=>some k_ ≠ (.slice Ao129 t3005.length co129:Value).ownBlock∧some k_ ≠ (v3009:Value).ownBlock∧k_ ≠ gb3004∧k_ ≠ gb3013) ho0 (fun k_ hk_=>⟨(Kd.fresh' (Kd.R_lt (za0 HO_4.out)) k_ hk_),(Kd.fresh' (Kd.R_lt (za0 HO_5.out)) k_ hk_),(Kd.freshB (g:=gb3004) (o:=.cells #[.string t3002,.string t3003] 25 (0,0)) (za1 BK3004.out) k_ hk_),(Kd.freshB (g:=gb3013) (o:=.cells #[.string t3011,.string t3012] 25 (0,0)) (za1 BK3013.out) k_ hk_)⟩)) (below_size za3));replace HO_4:=zk (Kd.R_below (za0 HO_4.out) hb);replace HO_5:=zk (Kd.R_below (za0 HO_5.out) hb);replace BK3004:=zk (zb BK3004.out hb);replace BK3013:=zk (zb BK3013.out hb);replace HB:=zk (below_step za3 hb);(try clear hb);(try clear hb2);(try clear hk);(try clear hi);(try clear ho0))|((with_reducible refine gate_dst (N:=10) rfl ?_);(try (refine gate_guard (by rfl) ?_;dsimp only));refine zE (N:=10) (cs:=#[.slice none 0 0]) (t:=37) ?_;intro gb3037 hg w131 hbox hb;replace HO_4:=zk (Kd.R_below (za0 HO_4.out) hb);replace HO_5:=zk (Kd.R_below (za0 HO_5.out) hb);replace HO3036:=zk (Kd.N_below (Kd.N_elderB (za2 HO3036.out) gb3037 (Nat.le_of_eq hg.symm)) hb);have BK3037:=zk (hbox);have GW3037:=zk (zs (w:=w) hg za3);have GE3037:=zk (zs (w:=w) hg za3);have NB3004_3037:=zk ((by rw [hg];exact Nat.ne_of_lt (zl BK3004.out):gb3004 ≠ gb3037));have NB3037_3004:=zk ((by rw [hg];exact Nat.ne_of_gt (zl BK3004.out):gb3037 ≠ gb3004));have NB3013_3037:=zk ((by rw [hg];exact Nat.ne_of_lt (zl BK3013.out):gb3013 ≠ gb3037));have NB3037_3013:=zk ((by rw [hg];exact Nat.ne_of_gt (zl BK3013.out):gb3037 ≠ gb3013));replace BK3004:=zk (zb BK3004.out hb);replace BK3013:=zk (zb BK3013.out hb);replace HB:=zk (below_step za3 hb);clear hb hbox hg;obtain ⟨Ao132,co132,eo132⟩:=Kd.N_slice HO3036.out;subst eo132;have hnb133:=NB3037_3004.out;have hnc133:=NB3004_3037.out;have hnb134:=NB3037_3013.out;have hnc134:=NB3013_3037.out;obtain ⟨hcz135_0,hfz135_0⟩:=blk1 BK3037.out)|((with_reducible refine gate_callee (f:=20) rfl ?_);refine goesL_ (some 130) rfl rfl Try.func20 (by kernel_rfl) rfl #[.agg #[.slice Ao132 t3034.length co132]] rfl za4 ?_;(with_reducible refine (impl_JoinEquations.calls k2 _ _ t3034 t3038 t3039 t3040 _ ?side1 ?side2 A122.out).mono ?_);(case side1=>refine (Kd.N_reads' (e:=61) (base:=w.heap.size) (ok:=fun k_=>((some k_ ≠ (.slice Ao129 t3005.length co129:Value).ownBlock∧(some k_ ≠ (v3009:Value).ownBlock∧(k_ ≠ gb3004∧k_ ≠ gb3013)))∧k_ ≠ gb3037)) (n:=t3034.length) (c:=co132) ?_).2.2;exact za105);(case side2=>exact (Kd.N_reads' HO3036.out).2.1);rintro e w136 ⟨rfl,hb⟩;refine ⟨_,rfl,?_⟩;replace HO_4:=zk (Kd.R_below (by (with_reducible repeat (first|apply Kd.R_alloc|apply Kd.R_drewN|apply Kd.R_drew));exact (Kd.R_mono (zfR (Kd.R_types HO_4.out BK3037.out (by decide))) (fun _ h_=>h_.1))) hb);replace HO_5:=zk (Kd.R_below (by (with_reducible repeat (first|apply Kd.R_alloc|apply Kd.R_drewN|apply Kd.R_drew));exact (Kd.R_mono (zfR (Kd.R_types HO_5.out BK3037.out (by decide))) (fun _ h_=>h_.1))) hb);replace HO3036:=zk (Kd.N_below za105 hb);replace BK3004:=zk (blk_below (g:=gb3004) (o:=.cells #[.string t3002,.string t3003] 25 (0,0)) (by (with_reducible repeat (first|refine blk_drewN ?_ _|refine blk_drew ?_|refine blk_alloc ?_ _));refine blk_far ?_ NB3004_3037.out _;(with_reducible repeat (first|refine blk_drewN ?_ _|refine blk_drew ?_|refine blk_alloc ?_ _));exact BK3004.out) hb);replace BK3013:=zk (blk_below (g:=gb3013) (o:=.cells #[.string t3011,.string t3012] 25 (0,0)) (by (with_reducible repeat (first|refine blk_drewN ?_ _|refine blk_drew ?_|refine blk_alloc ?_ _));refine blk_far ?_ NB3013_3037.out _;(with_reducible repeat (first|refine blk_drewN ?_ _|refine blk_drew ?_|refine blk_alloc ?_ _));exact BK3013.out) hb);replace HB:=zk (below_step za3 hb);replace BK3037:=zk (blk_below (g:=gb3037) (o:=.cells #[.slice Ao132 t3034.length co132] 37 (0,0)) (zpu BK3037.out) hb);(try clear hb);(try clear hb2);(try clear hk);(try clear hi))|((with_reducible refine gate_dst (N:=11) rfl ?_);(try (refine gate_guard (by rfl) ?_;dsimp only));refine zE (N:=11) (cs:=#[.string (⟨#[]⟩:ByteArray),.string (⟨#[]⟩:ByteArray)]) (t:=25) ?_;intro gb3041 hg w137 hbox hb;replace HO_4:=zk (Kd.R_below (za0 HO_4.out) hb);replace HO_5:=zk (Kd.R_below (za0 HO_5.out) hb);replace HO3036:=zk (Kd.N_below (Kd.N_elderB (za2 HO3036.out) gb3041 (Nat.le_of_eq hg.symm)) hb);have BK3041:=zk (hbox);have GW3041:=zk (zs (w:=w) hg za3);have GE3041:=zk (zs (w:=w) hg za3);have NB3004_3041:=zk ((by rw [hg];exact Nat.ne_of_lt (zl BK3004.out):gb3004 ≠ gb3041));have NB3041_3004:=zk ((by rw [hg];exact Nat.ne_of_gt (zl BK3004.out):gb3041 ≠ gb3004));have NB3013_3041:=zk ((by rw [hg];exact Nat.ne_of_lt (zl BK3013.out):gb3013 ≠ gb3041));have NB3041_3013:=zk ((by rw [hg];exact Nat.ne_of_gt (zl BK3013.out):gb3041 ≠ gb3013));have NB3037_3041:=zk ((by rw [hg];exact Nat.ne_of_lt (zl BK3037.out):gb3037 ≠ gb3041));have NB3041_3037:=zk ((by rw [hg];exact Nat.ne_of_gt (zl BK3037.out):gb3041 ≠ gb3037));replace BK3004:=zk (zb BK3004.out hb);replace BK3013:=zk (zb BK3013.out hb);replace BK3037:=zk (zb BK3037.out hb);replace HB:=zk (below_step za3 hb);clear hb hbox hg;have hnb138:=NB3041_3004.out;have hnc138:=NB3004_3041.out;have hnb139:=NB3041_3013.out;have hnc139:=NB3013_3041.out;have hnb140:=NB3041_3037.out;have hnc140:=NB3037_3041.out;obtain ⟨hcz141_0,hcz141_1,hfz141_0,hfz141_1⟩:=blk2 BK3041.out;obtain ⟨hcz142_0,hfz142_0⟩:=blk1 BK3037.out)|((with_reducible refine gate_callee (f:=21) rfl ?_);refine goesL_ (some 135) rfl rfl Try.func21 (by kernel_rfl) rfl #[.agg #[.slice Ao132 t3034.length co132]] rfl za4 ?_;(with_reducible refine (spec_JoinEquations.calls k2 _ _ t3034 t3042 t3043 t3044 _ ?side1 ?side2 A123.out).mono ?_);(case side1=>refine (Kd.N_reads' (e:=61) (base:=w.heap.size) (ok:=fun k_=>(((some k_ ≠ (.slice Ao129 t3005.length co129:Value).ownBlock∧(some k_ ≠ (v3009:Value).ownBlock∧(k_ ≠ gb3004∧k_ ≠ gb3013)))∧k_ ≠ gb3037)∧k_ ≠ gb3041)) (n:=t3034.length) (c:=co132) ?_).2.2;exact za103);(case side2=>exact (Kd.N_reads' HO3036.out).2.1);rintro e w143 ⟨rfl,hb⟩;refine ⟨_,rfl,?_⟩;replace HO_4:=zk (Kd.R_below (by (with_reducible repeat (first|apply Kd.R_alloc|apply Kd.R_drewN|apply Kd.R_drew));exact (Kd.R_mono (zfR (zfR (Kd.R_types HO_4.out BK3041.out (by decide)))) (fun _ h_=>h_.1))) hb);replace HO_5:=zk (Kd.R_below (by (with_reducible repeat (first|apply Kd.R_alloc|apply Kd.R_drewN|apply Kd.R_drew));exact (Kd.R_mono (zfR (zfR (Kd.R_types HO_5.out BK3041.out (by decide)))) (fun _ h_=>h_.1))) hb);replace HO3036:=zk (Kd.N_below za103 hb);replace BK3004:=zk (blk_below (g:=gb3004) (o:=.cells #[.string t3002,.string t3003] 25 (0,0)) (by (with_reducible repeat (first|refine blk_drewN ?_ _|refine blk_drew ?_|refine blk_alloc ?_ _));refine blk_far ?_ NB3004_3041.out _;(with_reducible repeat (first|refine blk_drewN ?_ _|refine blk_drew ?_|refine blk_alloc ?_ _));refine blk_far ?_ NB3004_3041.out _;(with_reducible repeat (first|refine blk_drewN ?_ _|refine blk_drew ?_|refine blk_alloc ?_ _));exact BK3004.out) hb);replace BK3013:=zk (blk_below (g:=gb3013) (o:=.cells #[.string t3011,.string t3012] 25 (0,0)) (by (with_reducible repeat (first|refine blk_drewN ?_ _|refine blk_drew ?_|refine blk_alloc ?_ _));refine blk_far ?_ NB3013_3041.out _;(with_reducible repeat (first|refine blk_drewN ?_ _|refine blk_drew ?_|refine blk_alloc ?_ _));refine blk_far ?_ NB3013_3041.out _;(with_reducible repeat (first|refine blk_drewN ?_ _|refine blk_drew ?_|refine blk_alloc ?_ _));exact BK3013.out) hb);replace BK3037:=zk (blk_below (g:=gb3037) (o:=.cells #[.slice Ao132 t3034.length co132] 37 (0,0)) (by (with_reducible repeat (first|refine blk_drewN ?_ _|refine blk_drew ?_|refine blk_alloc ?_ _));refine blk_far ?_ NB3037_3041.out _;(with_reducible repeat (first|refine blk_drewN ?_ _|refine blk_drew ?_|refine blk_alloc ?_ _));refine blk_far ?_ NB3037_3041.out _;(with_reducible repeat (first|refine blk_drewN ?_ _|refine blk_drew ?_|refine blk_alloc ?_ _));exact BK3037.out) hb);replace HB:=zk (below_step za3 hb);replace BK3041:=zk (blk_below (g:=gb3041) (o:=.cells #[.string t3038,.string t3039] 25 (0,0)) (zpu BK3041.out) hb);(try clear hb);(try clear hb2);(try clear hk);(try clear hi))|((with_reducible refine gate_dst (N:=13) rfl ?_);(try (refine gate_guard (by rfl) ?_;dsimp only));refine zE (N:=13) (cs:=#[.string (⟨#[]⟩:ByteArray),.string (⟨#[]⟩:ByteArray)]) (t:=25) ?_;intro gb3045 hg w144 hbox hb;replace HO_4:=zk (Kd.R_below (za0 HO_4.out) hb);replace HO_5:=zk (Kd.R_below (za0 HO_5.out) hb);replace HO3036:=zk (Kd.N_below (Kd.N_elderB (za2 HO3036.out) gb3045 (Nat.le_of_eq hg.symm)) hb);have BK3045:=zk (hbox);have GW3045:=zk (zs (w:=w) hg za3);have GE3045:=zk (zs (w:=w) hg za3);have NB3004_3045:=zk ((by rw [hg];exact Nat.ne_of_lt (zl BK3004.out):gb3004 ≠ gb3045));have NB3045_3004:=zk ((by rw [hg];exact Nat.ne_of_gt (zl BK3004.out):gb3045 ≠ gb3004));have NB3013_3045:=zk ((by rw [hg];exact Nat.ne_of_lt (zl BK3013.out):gb3013 ≠ gb3045));have NB3045_3013:=zk ((by rw [hg];exact Nat.ne_of_gt (zl BK3013.out):gb3045 ≠ gb3013));have NB3037_3045:=zk ((by rw [hg];exact Nat.ne_of_lt (zl BK3037.out):gb3037 ≠ gb3045));have NB3045_3037:=zk ((by rw [hg];exact Nat.ne_of_gt (zl BK3037.out):gb3045 ≠ gb3037));have NB3041_3045:=zk ((by rw [hg];exact Nat.ne_of_lt (zl BK3041.out):gb3041 ≠ gb3045));have NB3045_3041:=zk ((by rw [hg];exact Nat.ne_of_gt (zl BK3041.out):gb3045 ≠ gb3041));replace BK3004:=zk (zb BK3004.out hb);replace BK3013:=zk (zb BK3013.out hb);replace BK3037:=zk (zb BK3037.out hb);replace BK3041:=zk (zb BK3041.out hb);replace HB:=zk (below_step za3 hb);clear hb hbox hg;have hnb145:=NB3045_3004.out;have hnc145:=NB3004_3045.out;have hnb146:=NB3045_3013.out;have hnc146:=NB3013_3045.out;have hnb147:=NB3045_3037.out;have hnc147:=NB3037_3045.out;have hnb148:=NB3045_3041.out;have hnc148:=NB3041_3045.out;obtain ⟨hcz149_0,hcz149_1,hfz149_0,hfz149_1⟩:=blk2 BK3045.out)|((with_reducible refine gate_callee (f:=22) rfl ?_);refine goesL_ (some 140) rfl rfl Try.func22 (by kernel_rfl) rfl #[.slice A0 l0.length c0] rfl za4 ?_;(with_reducible refine (spec_DrawApplyMove.calls k2 _ _ l0 t3046 t3047 t3048 t3049 _ ?side1 ?side2 A124.out).mono ?_);(case side1=>exact Kd.C_below HR0.out za3);(case side2=>exact HC0.out);rintro e w150 ⟨rfl,hb⟩;refine ⟨_,rfl,?_⟩;replace HO_4:=zk (Kd.R_below (by (with_reducible repeat (first|apply Kd.R_alloc|apply Kd.R_drewN|apply Kd.R_drew));exact (Kd.R_mono (zfR (zfR (Kd.R_types HO_4.out BK3045.out (by decide)))) (fun _ h_=>h_.1))) hb);replace HO_5:=zk (Kd.R_below (by (with_reducible repeat (first|apply Kd.R_alloc|apply Kd.R_drewN|apply Kd.R_drew));exact (Kd.R_mono (zfR (zfR (Kd.R_types HO_5.out BK3045.out (by decide)))) (fun _ h_=>h_.1))) hb);replace HO3036:=zk (Kd.N_below (by (with_reducible repeat (first|apply Kd.N_alloc|apply Kd.N_drewN|apply Kd.N_drew));exact (Kd.N_mono (zfN (zfN (Kd.N_mono HO3036.out (fun k_ hk=>(⟨hk,hk.2⟩:_∧k_ ≠ gb3045))))) (fun _ h_=>h_.1))) hb);replace BK3004:=zk (blk_below (g:=gb3004) (o:=.cells #[.string t3002,.string t3003] 25 (0,0)) (by (with_reducible repeat (first|refine blk_drewN ?_ _|refine blk_drew ?_|refine blk_alloc ?_ _));refine blk_far ?_ NB3004_3045.out _;(with_reducible repeat (first|refine blk_drewN ?_ _|refine blk_drew ?_|refine blk_alloc ?_ _));refine blk_far ?_ NB3004_3045.out _;(with_reducible repeat (first|refine blk_drewN ?_ _|refine blk_drew ?_|refine blk_alloc ?_ _));exact BK3004.out) hb);replace BK3013:=zk (blk_below (g:=gb3013) (o:=.cells #[.string t3011,.string t3012] 25 (0,0)) (by (with_reducible repeat (first|refine blk_drewN ?_ _|refine blk_drew ?_|refine blk_alloc ?_ _));refine blk_far ?_ NB3013_3045.out _;(with_reducible repeat (first|refine blk_drewN ?_ _|refine blk_drew ?_|refine blk_alloc ?_ _));refine blk_far ?_ NB3013_3045.out _;(with_reducible repeat (first|refine blk_drewN ?_ _|refine blk_drew ?_|refine blk_alloc ?_ _));exact BK3013.out) hb);replace BK3037:=zk (blk_below (g:=gb3037) (o:=.cells #[.slice Ao132 t3034.length co132] 37 (0,0)) (by (with_reducible repeat (first|refine blk_drewN ?_ _|refine blk_drew ?_|refine blk_alloc ?_ _));refine blk_far ?_ NB3037_3045.out _;(with_reducible repeat (first|refine blk_drewN ?_ _|refine blk_drew ?_|refine blk_alloc ?_ _));refine blk_far ?_ NB3037_3045.out _;(with_reducible repeat (first|refine blk_drewN ?_ _|refine blk_drew ?_|refine blk_alloc ?_ _));exact BK3037.out) hb);replace BK3041:=zk (blk_below (g:=gb3041) (o:=.cells #[.string t3038,.string t3039] 25 (0,0)) (by (with_reducible repeat (first|refine blk_drewN ?_ _|refine blk_drew ?_|refine blk_alloc ?_ _));refine blk_far ?_ NB3041_3045.out _;(with_reducible repeat (first|refine blk_drewN ?_ _|refine blk_drew ?_|refine blk_alloc ?_ _));refine blk_far ?_ NB3041_3045.out _;(with_reducible repeat (first|refine blk_drewN ?_ _|refine blk_drew ?_|refine blk_alloc ?_ _));exact BK3041.out) hb);replace HB:=zk (below_step za3 hb);replace BK3045:=zk (blk_below (g:=gb3045) (o:=.cells #[.string t3042,.string t3043] 25 (0,0)) (zpu BK3045.out) hb);(try clear hb);(try clear hb2);(try clear hk);(try clear hi))|((with_reducible refine gate_dst (N:=15) rfl ?_);(try (refine gate_guard (by rfl) ?_;dsimp only));refine zE (N:=15) (cs:=#[.string (⟨#[]⟩:ByteArray),.string (⟨#[]⟩:ByteArray)]) (t:=25) ?_;intro gb3050 hg w151 hbox hb;replace HO_4:=zk (Kd.R_below (za0 HO_4.out) hb);replace HO_5:=zk (Kd.R_below (za0 HO_5.out) hb);replace HO3036:=zk (Kd.N_below (Kd.N_elderB (za2 HO3036.out) gb3050 (Nat.le_of_eq hg.symm)) hb);have BK3050:=zk (hbox);have GW3050:=zk (zs (w:=w) hg za3);have GE3050:=zk (zs (w:=w) hg za3);have NB3004_3050:=zk ((by rw [hg];exact Nat.ne_of_lt (zl BK3004.out):gb3004 ≠ gb3050));have NB3050_3004:=zk ((by rw [hg];exact Nat.ne_of_gt (zl BK3004.out):gb3050 ≠ gb3004));have NB3013_3050:=zk ((by rw [hg];exact Nat.ne_of_lt (zl BK3013.out):gb3013 ≠ gb3050));have NB3050_3013:=zk ((by rw [hg];exact Nat.ne_of_gt (zl BK3013.out):gb3050 ≠ gb3013));have NB3037_3050:=zk ((by rw [hg];exact Nat.ne_of_lt (zl BK3037.out):gb3037 ≠ gb3050));have NB3050_3037:=zk ((by rw [hg];exact Nat.ne_of_gt (zl BK3037.out):gb3050 ≠ gb3037));have NB3041_3050:=zk ((by rw [hg];exact Nat.ne_of_lt (zl BK3041.out):gb3041 ≠ gb3050));have NB3050_3041:=zk ((by rw [hg];exact Nat.ne_of_gt (zl BK3041.out):gb3050 ≠ gb3041));have NB3045_3050:=zk ((by rw [hg];exact Nat.ne_of_lt (zl BK3045.out):gb3045 ≠ gb3050));have NB3050_3045:=zk ((by rw [hg];exact Nat.ne_of_gt (zl BK3045.out):gb3050 ≠ gb3045));replace BK3004:=zk (zb BK3004.out hb);replace BK3013:=zk (zb BK3013.out hb);replace BK3037:=zk (zb BK3037.out hb);replace BK3041:=zk (zb BK3041.out hb);replace BK3045:=zk (zb BK3045.out hb);replace HB:=zk (below_step za3 hb);clear hb hbox hg)|((with_reducible refine gate_dst (N:=16) rfl ?_);(try (refine gate_guard (by rfl) ?_;dsimp only));refine zE (N:=16) (cs:=#[.int .u8 0,.string (⟨#[]⟩:ByteArray)]) (t:=33) ?_;intro gb3051 hg w152 hbox hb;replace HO_4:=zk (Kd.R_below (Kd.R_elderB (za0 HO_4.out) gb3051 (Nat.le_of_eq hg.symm)) hb);replace HO_5:=zk (Kd.R_below (Kd.R_elderB (za0 HO_5.out) gb3051 (Nat.le_of_eq hg.symm)) hb);replace HO3036:=zk (Kd.N_below (Kd.N_elderB (za2 HO3036.out) gb3051 (Nat.le_of_eq hg.symm)) hb);have BK3051:=zk (hbox);have GW3051:=zk (zs (w:=w) hg za3);have GE3051:=zk (zs (w:=w) hg za3);have NB3004_3051:=zk ((by rw [hg];exact Nat.ne_of_lt (zl BK3004.out):gb3004 ≠ gb3051));have NB3051_3004:=zk ((by rw [hg];exact Nat.ne_of_gt (zl BK3004.out):gb3051 ≠ gb3004));have NB3013_3051:=zk ((by rw [hg];exact Nat.ne_of_lt (zl BK3013.out):gb3013 ≠ gb3051));have NB3051_3013:=zk ((by rw [hg];exact Nat.ne_of_gt (zl BK3013.out):gb3051 ≠ gb3013));have NB3037_3051:=zk ((by rw [hg];exact Nat.ne_of_lt (zl BK3037.out):gb3037 ≠ gb3051));have NB3051_3037:=zk ((by rw [hg];exact Nat.ne_of_gt (zl BK3037.out):gb3051 ≠ gb3037));have NB3041_3051:=zk ((by rw [hg];exact Nat.ne_of_lt (zl BK3041.out):gb3041 ≠ gb3051));have NB3051_3041:=zk ((by rw [hg];exact Nat.ne_of_gt (zl BK3041.out):gb3051 ≠ gb3041));have NB3045_3051:=zk ((by rw [hg];exact Nat.ne_of_lt (zl BK3045.out):gb3045 ≠ gb3051));have NB3051_3045:=zk ((by rw [hg];exact Nat.ne_of_gt (zl BK3045.out):gb3051 ≠ gb3045));have NB3050_3051:=zk ((by rw [hg];exact Nat.ne_of_lt (zl BK3050.out):gb3050 ≠ gb3051));have NB3051_3050:=zk ((by rw [hg];exact Nat.ne_of_gt (zl BK3050.out):gb3051 ≠ gb3050));replace BK3004:=zk (zb BK3004.out hb);replace BK3013:=zk (zb BK3013.out hb);replace BK3037:=zk (zb BK3037.out hb);replace BK3041:=zk (zb BK3041.out hb);replace BK3045:=zk (zb BK3045.out hb);replace BK3050:=zk (zb BK3050.out hb);replace HB:=zk (below_step za3 hb);clear hb hbox hg;have hnb153:=NB3050_3004.out;have hnc153:=NB3004_3050.out;have hnb154:=NB3050_3013.out;have hnc154:=NB3013_3050.out;have hnb155:=NB3050_3037.out;have hnc155:=NB3037_3050.out;have hnb156:=NB3050_3041.out;have hnc156:=NB3041_3050.out;have hnb157:=NB3050_3045.out;have hnc157:=NB3045_3050.out;have hnb158:=NB3050_3051.out;have hnc158:=NB3051_3050.out;obtain ⟨hcz159_0,hcz159_1,hfz159_0,hfz159_1⟩:=blk2 BK3050.out;have hnb160:=NB3051_3004.out;have hnc160:=NB3004_3051.out;have hnb161:=NB3051_3013.out;have hnc161:=NB3013_3051.out;have hnb162:=NB3051_3037.out;have hnc162:=NB3037_3051.out;have hnb163:=NB3051_3041.out;have hnc163:=NB3041_3051.out;have hnb164:=NB3051_3045.out;have hnc164:=NB3045_3051.out;obtain ⟨hcz165_0,hcz165_1,hfz165_0,hfz165_1⟩:=blk2 BK3051.out))
         have n0_:Aside0 (Kd.R k33 33 ((((w152.setCell ⟨gb3050,0,none⟩ (.string t3046)).setCell ⟨gb3050,1,none⟩ (.string t3047)).setCell ⟨gb3051,0,none⟩ (.int .u8 t3048)).setCell ⟨gb3051,1,none⟩ (.string t3049)) w.heap.size (fun k_=>some k_ ≠ (v3009:Value).ownBlock∧k_ ≠ gb3051) (.slice Ao129 t3005.length co129) t3005):=⟨by (with_reducible repeat (first|apply Kd.R_alloc|apply Kd.R_drewN|apply Kd.R_drew));exact Kd.R_mono (zfR (zfR (Kd.R_far (p:=⟨gb3050,1,none⟩) (Kd.R_far (p:=⟨gb3050,0,none⟩) (Kd.R_mono (Kd.R_types HO_4.out BK3050.out (by decide)) (fun k_ hk=>(⟨hk,hk.1.2⟩:_∧k_ ≠ gb3051))) (fun _ hk=>hk.1.2) (.string t3046)) (fun _ hk=>hk.1.2) (.string t3047)))) (fun _ hk=>⟨hk.1.1.1,hk.1.1.2⟩)⟩
         have n1_:Aside0 (Kd.R k33 33 ((((w152.setCell ⟨gb3050,0,none⟩ (.string t3046)).setCell ⟨gb3050,1,none⟩ (.string t3047)).setCell ⟨gb3051,0,none⟩ (.int .u8 t3048)).setCell ⟨gb3051,1,none⟩ (.string t3049)) w.heap.size (fun k_=>some k_ ≠ (.slice Ao129 t3005.length co129:Value).ownBlock∧k_ ≠ gb3051) v3009 t3008):=⟨by (with_reducible repeat (first|apply Kd.R_alloc|apply Kd.R_drewN|apply Kd.R_drew));exact Kd.R_mono (zfR (zfR (Kd.R_far (p:=⟨gb3050,1,none⟩) (Kd.R_far (p:=⟨gb3050,0,none⟩) (Kd.R_mono (Kd.R_types HO_5.out BK3050.out (by decide)) (fun k_ hk=>(⟨hk,hk.1.2⟩:_∧k_ ≠ gb3051))) (fun _ hk=>hk.1.2) (.string t3046)) (fun _ hk=>hk.1.2) (.string t3047)))) (fun _ hk=>⟨hk.1.1.1,hk.1.1.2⟩)⟩
         have n2_:Aside0 (Kd.N k61 61 ((((w152.setCell ⟨gb3050,0,none⟩ (.string t3046)).setCell ⟨gb3050,1,none⟩ (.string t3047)).setCell ⟨gb3051,0,none⟩ (.int .u8 t3048)).setCell ⟨gb3051,1,none⟩ (.string t3049)) w.heap.size (fun k_=>some k_ ≠ (.slice Ao129 t3005.length co129:Value).ownBlock∧some k_ ≠ (v3009:Value).ownBlock∧k_ ≠ gb3004∧k_ ≠ gb3013∧k_ ≠ gb3037∧k_ ≠ gb3041∧k_ ≠ gb3045∧k_ ≠ gb3050∧k_ ≠ gb3051) (.slice Ao132 t3034.length co132) t3034):=⟨by (with_reducible repeat (first|apply Kd.N_alloc|apply Kd.N_drewN|apply Kd.N_drew));exact Kd.N_mono (zfN (zfN (Kd.N_far (p:=⟨gb3050,1,none⟩) (Kd.N_far (p:=⟨gb3050,0,none⟩) (Kd.N_mono (Kd.N_mono HO3036.out (fun k_ hk=>(⟨hk,hk.1.2⟩:_∧k_ ≠ gb3050))) (fun k_ hk=>(⟨hk,hk.1.2⟩:_∧k_ ≠ gb3051))) (fun _ hk=>hk.1.2) (.string t3046)) (fun _ hk=>hk.1.2) (.string t3047)))) (fun _ hk=>⟨hk.1.1.1.1.1.1.1.1,⟨hk.1.1.1.1.1.1.1.2.1,⟨hk.1.1.1.1.1.1.1.2.2.1,⟨hk.1.1.1.1.1.1.1.2.2.2,⟨hk.1.1.1.1.1.1.2,⟨hk.1.1.1.1.1.2,⟨hk.1.1.1.1.2,⟨hk.1.1.1.2,hk.1.1.2⟩⟩⟩⟩⟩⟩⟩⟩)⟩
         have n3_:Aside0 (((((w152.setCell ⟨gb3050,0,none⟩ (.string t3046)).setCell ⟨gb3050,1,none⟩ (.string t3047)).setCell ⟨gb3051,0,none⟩ (.int .u8 t3048)).setCell ⟨gb3051,1,none⟩ (.string t3049)).heap[gb3004]? = some (.cells #[.string t3002,.string t3003] 25 (0,0))):=⟨by (with_reducible repeat (first|refine blk_drewN ?_ _|refine blk_drew ?_|refine blk_alloc ?_ _));refine blk_far ?_ NB3004_3051.out _;(with_reducible repeat (first|refine blk_drewN ?_ _|refine blk_drew ?_|refine blk_alloc ?_ _));refine blk_far ?_ NB3004_3051.out _;(with_reducible repeat (first|refine blk_drewN ?_ _|refine blk_drew ?_|refine blk_alloc ?_ _));refine blk_far ?_ NB3004_3050.out _;(with_reducible repeat (first|refine blk_drewN ?_ _|refine blk_drew ?_|refine blk_alloc ?_ _));refine blk_far ?_ NB3004_3050.out _;(with_reducible repeat (first|refine blk_drewN ?_ _|refine blk_drew ?_|refine blk_alloc ?_ _));exact BK3004.out⟩
         have n4_:Aside0 (((((w152.setCell ⟨gb3050,0,none⟩ (.string t3046)).setCell ⟨gb3050,1,none⟩ (.string t3047)).setCell ⟨gb3051,0,none⟩ (.int .u8 t3048)).setCell ⟨gb3051,1,none⟩ (.string t3049)).heap[gb3013]? = some (.cells #[.string t3011,.string t3012] 25 (0,0))):=⟨by (with_reducible repeat (first|refine blk_drewN ?_ _|refine blk_drew ?_|refine blk_alloc ?_ _));refine blk_far ?_ NB3013_3051.out _;(with_reducible repeat (first|refine blk_drewN ?_ _|refine blk_drew ?_|refine blk_alloc ?_ _));refine blk_far ?_ NB3013_3051.out _;(with_reducible repeat (first|refine blk_drewN ?_ _|refine blk_drew ?_|refine blk_alloc ?_ _));refine blk_far ?_ NB3013_3050.out _;(with_reducible repeat (first|refine blk_drewN ?_ _|refine blk_drew ?_|refine blk_alloc ?_ _));refine blk_far ?_ NB3013_3050.out _;(with_reducible repeat (first|refine blk_drewN ?_ _|refine blk_drew ?_|refine blk_alloc ?_ _));exact BK3013.out⟩
         have n5_:Aside0 (((((w152.setCell ⟨gb3050,0,none⟩ (.string t3046)).setCell ⟨gb3050,1,none⟩ (.string t3047)).setCell ⟨gb3051,0,none⟩ (.int .u8 t3048)).setCell ⟨gb3051,1,none⟩ (.string t3049)).heap[gb3037]? = some (.cells #[.slice Ao132 t3034.length co132] 37 (0,0))):=⟨by (with_reducible repeat (first|refine blk_drewN ?_ _|refine blk_drew ?_|refine blk_alloc ?_ _));refine blk_far ?_ NB3037_3051.out _;(with_reducible repeat (first|refine blk_drewN ?_ _|refine blk_drew ?_|refine blk_alloc ?_ _));refine blk_far ?_ NB3037_3051.out _;(with_reducible repeat (first|refine blk_drewN ?_ _|refine blk_drew ?_|refine blk_alloc ?_ _));refine blk_far ?_ NB3037_3050.out _;(with_reducible repeat (first|refine blk_drewN ?_ _|refine blk_drew ?_|refine blk_alloc ?_ _));refine blk_far ?_ NB3037_3050.out _;(with_reducible repeat (first|refine blk_drewN ?_ _|refine blk_drew ?_|refine blk_alloc ?_ _));exact BK3037.out⟩
         have n6_:Aside0 (((((w152.setCell ⟨gb3050,0,none⟩ (.string t3046)).setCell ⟨gb3050,1,none⟩ (.string t3047)).setCell ⟨gb3051,0,none⟩ (.int .u8 t3048)).setCell ⟨gb3051,1,none⟩ (.string t3049)).heap[gb3041]? = some (.cells #[.string t3038,.string t3039] 25 (0,0))):=⟨by (with_reducible repeat (first|refine blk_drewN ?_ _|refine blk_drew ?_|refine blk_alloc ?_ _));refine blk_far ?_ NB3041_3051.out _;(with_reducible repeat (first|refine blk_drewN ?_ _|refine blk_drew ?_|refine blk_alloc ?_ _));refine blk_far ?_ NB3041_3051.out _;(with_reducible repeat (first|refine blk_drewN ?_ _|refine blk_drew ?_|refine blk_alloc ?_ _));refine blk_far ?_ NB3041_3050.out _;(with_reducible repeat (first|refine blk_drewN ?_ _|refine blk_drew ?_|refine blk_alloc ?_ _));refine blk_far ?_ NB3041_3050.out _;(with_reducible repeat (first|refine blk_drewN ?_ _|refine blk_drew ?_|refine blk_alloc ?_ _));exact BK3041.out⟩
         have n7_:Aside0 (((((w152.setCell ⟨gb3050,0,none⟩ (.string t3046)).setCell ⟨gb3050,1,none⟩ (.string t3047)).setCell ⟨gb3051,0,none⟩ (.int .u8 t3048)).setCell ⟨gb3051,1,none⟩ (.string t3049)).heap[gb3045]? = some (.cells #[.string t3042,.string t3043] 25 (0,0))):=⟨by (with_reducible repeat (first|refine blk_drewN ?_ _|refine blk_drew ?_|refine blk_alloc ?_ _));refine blk_far ?_ NB3045_3051.out _;(with_reducible repeat (first|refine blk_drewN ?_ _|refine blk_drew ?_|refine blk_alloc ?_ _));refine blk_far ?_ NB3045_3051.out _;(with_reducible repeat (first|refine blk_drewN ?_ _|refine blk_drew ?_|refine blk_alloc ?_ _));refine blk_far ?_ NB3045_3050.out _;(with_reducible repeat (first|refine blk_drewN ?_ _|refine blk_drew ?_|refine blk_alloc ?_ _));refine blk_far ?_ NB3045_3050.out _;(with_reducible repeat (first|refine blk_drewN ?_ _|refine blk_drew ?_|refine blk_alloc ?_ _));exact BK3045.out⟩
         have n8_:Aside0 (((((w152.setCell ⟨gb3050,0,none⟩ (.string t3046)).setCell ⟨gb3050,1,none⟩ (.string t3047)).setCell ⟨gb3051,0,none⟩ (.int .u8 t3048)).setCell ⟨gb3051,1,none⟩ (.string t3049)).heap[gb3050]? = some (.cells #[.string t3046,.string t3047] 25 (0,0))):=⟨by (with_reducible repeat (first|refine blk_drewN ?_ _|refine blk_drew ?_|refine blk_alloc ?_ _));refine blk_far ?_ NB3050_3051.out _;(with_reducible repeat (first|refine blk_drewN ?_ _|refine blk_drew ?_|refine blk_alloc ?_ _));refine blk_far ?_ NB3050_3051.out _;(with_reducible repeat (first|refine blk_drewN ?_ _|refine blk_drew ?_|refine blk_alloc ?_ _));refine blk_put (cs:=#[.string t3046,.string (⟨#[]⟩:ByteArray)]) ?_ 1 _ rfl;(with_reducible repeat (first|refine blk_drewN ?_ _|refine blk_drew ?_|refine blk_alloc ?_ _));refine blk_put (cs:=#[.string (⟨#[]⟩:ByteArray),.string (⟨#[]⟩:ByteArray)]) ?_ 0 _ rfl;(with_reducible repeat (first|refine blk_drewN ?_ _|refine blk_drew ?_|refine blk_alloc ?_ _));exact BK3050.out⟩
         have n9_:Aside0 (((((w152.setCell ⟨gb3050,0,none⟩ (.string t3046)).setCell ⟨gb3050,1,none⟩ (.string t3047)).setCell ⟨gb3051,0,none⟩ (.int .u8 t3048)).setCell ⟨gb3051,1,none⟩ (.string t3049)).heap[gb3051]? = some (.cells #[.int .u8 t3048,.string t3049] 33 (0,0))):=⟨by (with_reducible repeat (first|refine blk_drewN ?_ _|refine blk_drew ?_|refine blk_alloc ?_ _));refine blk_put (cs:=#[.int .u8 t3048,.string (⟨#[]⟩:ByteArray)]) ?_ 1 _ rfl;(with_reducible repeat (first|refine blk_drewN ?_ _|refine blk_drew ?_|refine blk_alloc ?_ _));refine blk_put (cs:=#[.int .u8 0,.string (⟨#[]⟩:ByteArray)]) ?_ 0 _ rfl;(with_reducible repeat (first|refine blk_drewN ?_ _|refine blk_drew ?_|refine blk_alloc ?_ _));refine blk_far ?_ NB3051_3050.out _;(with_reducible repeat (first|refine blk_drewN ?_ _|refine blk_drew ?_|refine blk_alloc ?_ _));refine blk_far ?_ NB3051_3050.out _;(with_reducible repeat (first|refine blk_drewN ?_ _|refine blk_drew ?_|refine blk_alloc ?_ _));exact BK3051.out⟩
         have n10_:Aside0 (Below w.heap.size w ((((w152.setCell ⟨gb3050,0,none⟩ (.string t3046)).setCell ⟨gb3050,1,none⟩ (.string t3047)).setCell ⟨gb3051,0,none⟩ (.int .u8 t3048)).setCell ⟨gb3051,1,none⟩ (.string t3049))):=⟨za3⟩
         (try clear HO_4)
         (try clear HO_5)
         (try clear HO3036)
         (try clear BK3004)
         (try clear BK3013)
         (try clear BK3037)
         (try clear BK3041)
         (try clear BK3045)
         (try clear BK3050)
         (try clear BK3051)
         (try clear HB)
         generalize ((((w152.setCell ⟨gb3050,0,none⟩ (.string t3046)).setCell ⟨gb3050,1,none⟩ (.string t3047)).setCell ⟨gb3051,0,none⟩ (.int .u8 t3048)).setCell ⟨gb3051,1,none⟩ (.string t3049))=w166 at n0_ n1_ n2_ n3_ n4_ n5_ n6_ n7_ n8_ n9_ n10_ ⊢
         have HO_4:=n0_
         have HO_5:=n1_
         have HO3036:=n2_
         have BK3004:=n3_
         have BK3013:=n4_
         have BK3037:=n5_
         have BK3041:=n6_
         have BK3045:=n7_
         have BK3050:=n8_
         have BK3051:=n9_
         have HB:=n10_
         clear n0_ n1_ n2_ n3_ n4_ n5_ n6_ n7_ n8_ n9_ n10_
         replace HO_4:=zk (Kd.R_drew HO_4.out)
         replace HO_5:=zk (Kd.R_drew HO_5.out)
         replace HO3036:=zk (Kd.N_drew HO3036.out)
         replace BK3004:=zk (blk_drew BK3004.out)
         replace BK3013:=zk (blk_drew BK3013.out)
         replace BK3037:=zk (blk_drew BK3037.out)
         replace BK3041:=zk (blk_drew BK3041.out)
         replace BK3045:=zk (blk_drew BK3045.out)
         replace BK3050:=zk (blk_drew BK3050.out)
         replace BK3051:=zk (blk_drew BK3051.out)
         replace HB:=zk (below_drew1 HB.out)
         refine start_ (n:=18) (S:=fun w'=>w'.cell? ⟨gb3041,0,none⟩=some (.string t3038)∧w'.cell? ⟨gb3041,1,none⟩=some (.string t3039)∧w'.cell? ⟨gb3045,0,none⟩=some (.string t3042)∧w'.cell? ⟨gb3045,1,none⟩=some (.string t3043)∧w'.cell? ⟨gb3050,0,none⟩=some (.string t3046)∧w'.cell? ⟨gb3050,1,none⟩=some (.string t3047)∧w'.cell? ⟨gb3051,0,none⟩=some (.int .u8 t3048)∧w'.cell? ⟨gb3051,1,none⟩=some (.string t3049)) (ds:=[]) #[false,false,false,false,false,false,false,false,false,false,false,false,false,false,false,false,false,false] (by kernel_rfl) rfl rfl ⟨(blk_cell BK3041.out 0).trans rfl,(blk_cell BK3041.out 1).trans rfl,(blk_cell BK3045.out 0).trans rfl,(blk_cell BK3045.out 1).trans rfl,(blk_cell BK3050.out 0).trans rfl,(blk_cell BK3050.out 1).trans rfl,(blk_cell BK3051.out 0).trans rfl,(blk_cell BK3051.out 1).trans rfl⟩ (fun hHeld=>?_);refine with_tabW laws_FnMoves.tab26 laws_FnMoves.bits26 (fun HT_ HW_=>?_)
         generalize w166.drew=w167 at HO_4 HO_5 HO3036 BK3004 BK3013 BK3037 BK3041 BK3045 BK3050 BK3051 HB hHeld ⊢
         refine ztk 0 (some 143) HT_.out HW_.out hHeld ?_
         refine ztk 1 (some 144) HT_.out HW_.out hHeld ?_
         refine zy 2 (some 145) HT_.out ?_
         refine zy 3 (some 146) HT_.out ?_
         refine zy 4 (some 147) HT_.out ?_
         refine zy 5 (some 148) HT_.out ?_
         refine zy 6 (some 149) HT_.out ?_
         refine zy 7 (some 150) HT_.out ?_
         refine zy 8 (some 151) HT_.out ?_
         refine ztk 9 (some 152) HT_.out HW_.out hHeld ?_
         refine ztk 10 (some 153) HT_.out HW_.out hHeld ?_
         refine ztk 12 (some 155) HT_.out HW_.out hHeld ?_
         refine ztk 13 (some 156) HT_.out HW_.out hHeld ?_
         refine zon 11 (some 154) HT_.out (fun K hK=>?_)
         refine goes_ Try.func16 (by kernel_rfl) rfl #[.agg #[.string t3046,.string t3047],.agg #[.int .u8 t3048,.string t3049]] (by rfl) rfl rfl za4 ?_
         with_reducible refine (impl_ApplyMove.calls k2 t3046 t3047 t3048 t3049 t3052 t3053 _ A127.out).mono ?_
         rintro e w168 ⟨rfl,hb⟩
         refine ⟨_,rfl,?_⟩
         replace HO_4:=zk (Kd.R_below (za0 HO_4.out) hb)
         replace HO_5:=zk (Kd.R_below (za0 HO_5.out) hb)
         replace HO3036:=zk (Kd.N_below (za2 HO3036.out) hb)
         replace BK3004:=zk (zb BK3004.out hb)
         replace BK3013:=zk (zb BK3013.out hb)
         replace BK3037:=zk (zb BK3037.out hb)
         replace BK3041:=zk (zb BK3041.out hb)
         replace BK3045:=zk (zb BK3045.out hb)
         replace BK3050:=zk (zb BK3050.out hb)
         replace BK3051:=zk (zb BK3051.out hb)
         replace HB:=zk (below_step za3 hb)
         (try clear hb)
         (try clear hb2)
         (try clear hk)
         (try clear hi)
         refine hK.out _ _ ⟨(blk_cell BK3041.out 0).trans rfl,(blk_cell BK3041.out 1).trans rfl,(blk_cell BK3045.out 0).trans rfl,(blk_cell BK3045.out 1).trans rfl,(blk_cell BK3050.out 0).trans rfl,(blk_cell BK3050.out 1).trans rfl,(blk_cell BK3051.out 0).trans rfl,(blk_cell BK3051.out 1).trans rfl⟩ (fun hHeld=>?_)
         clear hK K
         refine zno (some 154) ?_
         refine zon 14 (some 157) HT_.out (fun K hK=>?_)
         refine goes_ Try.func17 (by kernel_rfl) rfl #[.agg #[.string t3046,.string t3047],.agg #[.int .u8 t3048,.string t3049]] (by rfl) rfl rfl za4 ?_
         with_reducible refine (spec_ApplyMove.calls k2 t3046 t3047 t3048 t3049 t3054 t3055 _ A128.out).mono ?_
         rintro e w169 ⟨rfl,hb⟩
         refine ⟨_,rfl,?_⟩
         replace HO_4:=zk (Kd.R_below (za0 HO_4.out) hb)
         replace HO_5:=zk (Kd.R_below (za0 HO_5.out) hb)
         replace HO3036:=zk (Kd.N_below (za2 HO3036.out) hb)
         replace BK3004:=zk (zb BK3004.out hb)
         replace BK3013:=zk (zb BK3013.out hb)
         replace BK3037:=zk (zb BK3037.out hb)
         replace BK3041:=zk (zb BK3041.out hb)
         replace BK3045:=zk (zb BK3045.out hb)
         replace BK3050:=zk (zb BK3050.out hb)
         replace BK3051:=zk (zb BK3051.out hb)
         replace HB:=zk (below_step za3 hb)
         (try clear hb)
         (try clear hb2)
         (try clear hk)
         (try clear hi)
         refine hK.out _ _ ⟨(blk_cell BK3041.out 0).trans rfl,(blk_cell BK3041.out 1).trans rfl,(blk_cell BK3045.out 0).trans rfl,(blk_cell BK3045.out 1).trans rfl,(blk_cell BK3050.out 0).trans rfl,(blk_cell BK3050.out 1).trans rfl,(blk_cell BK3051.out 0).trans rfl,(blk_cell BK3051.out 1).trans rfl⟩ (fun hHeld=>?_)
         clear hK K
         refine zno (some 157) ?_
         refine zy 15 (some 158) HT_.out ?_
         refine zy 16 (some 159) HT_.out ?_
         refine zy 17 (some 2) HT_.out ?_
         refine done_ (done_of HT_.out (by kernel_rfl)) ?_
         try go_wp2
         go_ret
         exact ⟨za9,za3⟩
        ·rw [if_neg c126] at H
         exact absurd ((zi H).trans HRT_.out) (by decide)
        ·rw [if_neg c125] at H
         exact absurd ((zi H).trans HRT_.out) (by decide)
end Go.Proofs.Ytgajchjnljekgaa.A
namespace Go.Proofs.Ytgajchjnljekgaa.Br
open Go YtgajchjnljekgaaW.PrintWords
def BrN (P:Program) (n:Nat) (t:TypeId) {α:Type} (d:Kd α) (wf:α→Prop):Prop :=
 ∀ (H:Type) (enc:TypeId × Value→H) (w:World) (base:Nat) (spare:Nat→Bool) (held:Bool) (m:Nat) (cs:List Value) (x:DataW H × List MemPlace),
  m≤n→DataW.trod enc P w base spare held m t cs=some x→∃ a,d.K w a cs∧wf a
def Br (P:Program) (t:TypeId) {α:Type} (d:Kd α) (wf:α→Prop):Prop:=∀ n,BrN P n t d wf
theorem BrN.mono {P:Program} {n m:Nat} {t:TypeId} {α:Type} {d:Kd α} {wf:α→Prop} (h:BrN P n t d wf) (hm:m≤n):BrN P m t d wf :=
 fun H enc w base spare held k cs x hk=>h H enc w base spare held k cs x (Nat.le_trans hk hm)
theorem BrN.imp {P:Program} {n:Nat} {t:TypeId} {α:Type} {d:Kd α} {wf wf':α→Prop} (h:BrN P n t d wf) (hi:∀ a,wf a→wf' a):BrN P n t d wf' :=
 fun H enc w base spare held k cs x hk hx=>by
  obtain ⟨a,h1,h2⟩:=h H enc w base spare held k cs x hk hx
  exact ⟨a,h1,hi a h2⟩
theorem BrN.zero (P:Program) (t:TypeId) {α:Type} (d:Kd α) (wf:α→Prop):BrN P 0 t d wf:=by
 intro H enc w base spare held m cs x hm hx
 obtain rfl:m=0:=by omega
 simp [DataW.trod] at hx
theorem br_int {P:Program} {t:TypeId} {k:IntKind} (ht:P.underlying t=some (.int k)) (n:Nat):BrN P n t (Kd.int k) (fun a=>(Lit.int k a).wf=true):=by
 intro H enc w base spare held m cs x _ hx
 obtain ⟨a,rfl,_,hw⟩:=DataW.trod_int ht hx
 exact ⟨a,rfl,hw⟩
theorem list_of_all {α:Type} {Q:Nat→α→Prop} (n:Nat) (h:∀ i,i < n→∃ a,Q i a):∃ l:List α,l.length=n∧∀ i a,l[i]? = some a→Q i a:=by
 induction n with
 | zero=>exact ⟨[],rfl,fun i a h=>by simp at h⟩
 | succ n ih =>
  obtain ⟨l,hl,hq⟩:=ih (fun i hi=>h i (by omega))
  obtain ⟨a,ha⟩:=h n (by omega)
  refine ⟨l ++ [a],by simp [hl],fun i b hb=>?_⟩
  rcases Nat.lt_or_ge i l.length with hi|hi
  ·rw [List.getElem?_append_left hi] at hb
   exact hq i b hb
  ·rw [List.getElem?_append_right hi] at hb
   obtain ⟨h0,rfl⟩:i - l.length=0∧a=b:=by
    rcases Nat.eq_zero_or_pos (i - l.length) with h0|h0
    ·rw [h0] at hb;exact ⟨h0,by simpa using hb⟩
    ·rw [List.getElem?_eq_none (by simp;omega)] at hb;simp at hb
   obtain rfl:i=n:=by omega
   exact ha
theorem cells_at {w:World} {base:Nat} {a:Addr} {n:Nat} {cs:List Value} (h:w.cells? base a n=some cs):cs.length=n∧∀ i u,cs[i]? = some u→w.cell? (a.add i)=some u:=by
 unfold World.cells? at h
 split at h
 ·have hl:=mapM_some_length h
  refine ⟨by simpa using hl,fun i u hu=>?_⟩
  have hi:i < n:=by
   have:=(List.getElem?_eq_some_iff.1 hu).1
   simp at hl
   omega
  have:=mapM_some_get h i i (by simp [hi])
  rw [this,hu]
 ·simp at h
theorem br_slice {P:Program} {t e:TypeId} {α:Type} {d:Kd α} {wf:α→Prop} {n:Nat} (ht:P.underlying t=some (.slice e)) (hs:P.cellsOf e=d.sz) (h:BrN P n e d wf) :
  BrN P (n+1) t (Kd.slice e d) (fun l=>l.length≤9223372036854775807∧∀ a ∈ l,wf a):=by
 intro H enc w base spare held m cs x hm hx
 rcases DataW.trod_slice ht hx with ⟨rfl,_⟩|⟨a,len,cap,elems,rest,k,rfl,rfl,_,_,hl,hc,he,hg,_,_⟩
 ·exact ⟨[],⟨none,0,rfl,Nat.le_refl _,Kd.C_nil d w⟩,by simp,by simp⟩
 ·have hq:∀ i,i < len→∃ b,(∃ c,c.length=d.sz∧d.K w b c∧∀ j u,c[j]? = some u→w.cell? (a.add (i * d.sz+j))=some u)∧wf b:=by
   intro i hi
   have g:=hg i hi
   rw [List.getElem?_eq_getElem (by omega)] at g
   obtain ⟨c,hc1,hc2⟩:=Option.bind_eq_some_iff.1 g
   obtain ⟨b,hb,hw⟩:=h H enc w base spare held k c _ (by omega) hc2
   obtain ⟨h1,h2⟩:=cells_at hc1
   refine ⟨b,⟨c,by rw [h1,hs],hb,fun j u hu=>?_⟩,hw⟩
   have:=h2 j u hu
   rw [Addr.add_add,hs] at this
   exact this
  obtain ⟨l,hl1,hl2⟩:=list_of_all len hq
  have hlen:len≤9223372036854775807:=by simp only [maxLen] at hc;omega
  refine ⟨l,⟨some a,cap,by rw [hl1],by omega,rfl,by omega,fun _=>⟨a,rfl,fun j p hp=>(hl2 j p hp).1⟩⟩,by omega,fun b hb=>?_⟩
  obtain ⟨i,hi,rfl⟩:=List.mem_iff_getElem.1 hb
  exact (hl2 i _ (List.getElem?_eq_getElem hi)).2
theorem br_slice' {P:Program} {t e:TypeId} {α:Type} {d:Kd α} {wf:α→Prop} (ht:P.underlying t=some (.slice e)) (hs:P.cellsOf e=d.sz) (h:∀ n,BrN P n e d wf) (n:Nat) :
 BrN P n t (Kd.slice e d) (fun l=>l.length≤9223372036854775807∧∀ a ∈ l,wf a):=(br_slice ht hs (h n)).mono (Nat.le_succ n)
end Go.Proofs.Ytgajchjnljekgaa.Br
namespace Go.Proofs.Ytgajchjnljekgaa.Pure
open Go Go.RowKit Ytgajchjnljekgaa.Br YtgajchjnljekgaaW.PrintWords YtgajchjnljekgaaW.PrintLast Ytgajchjnljekgaa.A Ytgajchjnljekgaa.Ext
def FnMoves.Pure:Prop:=∀ (l0:(List Int)),((l0:(List Int)).length≤9223372036854775807∧∀ a ∈ l0,(Lit.int .u8 a).wf=true)→∃ k,laws_FnMoves.f k l0=some true
end Go.Proofs.Ytgajchjnljekgaa.Pure
namespace Go.Proofs.Ytgajchjnljekgaa.Pl
open Go.RowKit YtgajchjnljekgaaW.PrintWords
def Evt {α:Type} (g:Nat→Option α) (r:α):Prop:=∃ K,∀ k,K≤k→g k=some r
section
variable {α β : Type}
theorem Evt.const {g:Option α} {r:α} (h:g=some r):Evt (fun _=>g) r:=⟨0,fun _ _=>h⟩
theorem Evt.ret (r:α):Evt (fun _=>some r) r:=Evt.const rfl
theorem Evt.bind {g:Nat→Option α} {f:Nat→α→Option β} {a:α} {r:β} (hg:Evt g a) (hf:Evt (fun k=>f k a) r):Evt (fun k=>(g k).bind (f k)) r:=by
 obtain ⟨K,hK⟩:=hg
 obtain ⟨L,hL⟩:=hf
 exact ⟨max K L,fun k hk=>by show (g k).bind (f k)=some r;rw [hK k (by omega)];exact hL k (by omega)⟩
theorem Evt.bindc {g:Option α} {f:Nat→α→Option β} {a:α} {r:β} (hg:g=some a) (hf:Evt (fun k=>f k a) r):Evt (fun k=>g.bind (f k)) r:=Evt.bind (Evt.const hg) hf
theorem Evt.step {g:Nat→Option α} {r:α} (h:Evt (fun k=>g (k+1)) r):Evt g r:=by
 obtain ⟨K,hK⟩:=h
 exact ⟨K+1,fun k hk=>by
  obtain ⟨m,rfl⟩:∃ m,k=m+1:=⟨k - 1,by omega⟩
  exact hK m (by omega)⟩
theorem Evt.pos {c:Prop} [Decidable c] {t e:Nat→Option α} {r:α} (h:c) (ht:Evt t r):Evt (fun k=>if c then t k else e k) r:=by
 obtain ⟨K,hK⟩:=ht
 exact ⟨K,fun k hk=>(if_pos h).trans (hK k hk)⟩
theorem Evt.neg {c:Prop} [Decidable c] {t e:Nat→Option α} {r:α} (h:¬ c) (ht:Evt e r):Evt (fun k=>if c then t k else e k) r:=by
 obtain ⟨K,hK⟩:=ht
 exact ⟨K,fun k hk=>(if_neg h).trans (hK k hk)⟩
theorem Evt.get {g:Nat→Option α} {r:α} (h:Evt g r):∃ k,g k=some r:=by
 obtain ⟨K,hK⟩:=h
 exact ⟨K,hK K (Nat.le_refl _)⟩
theorem Evt.cast {g:Nat→Option α} {r r':α} (h:Evt g r) (e:r=r'):Evt g r':=e ▸ h
theorem Evt.up (l:Nat→Int→Option α) (n:Nat) (R:Nat→α) (hend:Evt (fun k=>l k (n:Int)) (R n))
  (hstep:∀ i:Nat,i < n→Evt (fun k=>l k ((i+1:Nat):Int)) (R (i+1))→Evt (fun k=>l k (i:Int)) (R i)):Evt (fun k=>l k 0) (R 0):=by
 have h:∀ d i:Nat,i+d=n→Evt (fun k=>l k (i:Int)) (R i):=by
  intro d
  induction d with
  | zero =>
   intro i hi
   obtain rfl:i=n:=by omega
   exact hend
  | succ d ih =>
   intro i hi
   exact hstep i (by omega) (ih (i+1) (by omega))
 exact h n 0 (by omega)
end
theorem w64 {x:Int} (h : -9223372036854775808≤x) (h':x≤9223372036854775807):wrap64 x=x:=by unfold wrap64;omega
theorem w64s {i:Nat} (h:i < 9223372036854775807):wrap64 ((i:Int)+1)=((i+1:Nat):Int):=by
 rw [w64 (by omega) (by omega)];omega
theorem bt0 (s:ByteArray) (i:Int):0≤bt s i:=(bt_range s i).1
theorem bt255 (s:ByteArray) (i:Int):bt s i≤255:=(bt_range s i).2
theorem bt_get (s:ByteArray) (i:Nat) (h:i < (bytesOf s).length):bt s (i:Int)=(bytesOf s)[i]:=by
 rw [← rd_bytesOf]
 simp [rd,h]
theorem bytesOf_inj {s t:ByteArray} (h:bytesOf s=bytesOf t):s=t:=by
 have h1:s.data.toList=t.data.toList:=by
  refine List.map_inj_right (f:=fun b:UInt8=>(b.toNat:Int)) (fun x y hxy=>?_) |>.1 h
  exact UInt8.toNat_inj.1 (Int.ofNat_inj.1 hxy)
 cases s;cases t
 simp only [ByteArray.mk.injEq]
 exact Array.toList_inj.1 h1
theorem toList_nil_iff (s:ByteArray):s.toList=([]:List UInt8) ↔ s.size=0:=by
 rw [Lib.toList_data,← data_length,List.length_eq_zero_iff]
theorem mem_bytes (s:ByteArray) {c:Int} (h:c ∈ bytesOf s):0≤c∧c≤255:=by
 unfold bytesOf at h
 obtain ⟨b,_,rfl⟩:=List.mem_map.1 h
 have:=b.toNat_lt
 omega
theorem bytesOf_append (s t:ByteArray):bytesOf (s ++ t)=bytesOf s ++ bytesOf t:=by
 simp [bytesOf,ByteArray.data_append]
theorem bytesOf_extract (s:ByteArray) (a b:Nat):bytesOf (s.extract a b)=((bytesOf s).drop a).take (b - a):=by
 have h:=Lib.extract_toList s a b
 rw [Lib.toList_data] at h
 unfold bytesOf
 rw [h,List.map_take,List.map_drop]
theorem bytesOf_tail (s:ByteArray) (a:Nat):bytesOf (s.extract a s.size)=(bytesOf s).drop a:=by
 rw [bytesOf_extract,List.take_of_length_le]
 rw [List.length_drop,bytesOf_length]
 exact Nat.le_refl _
def ltI (c:Int):Int:=if 97=c then 0 else if 98=c then 1 else if 99=c then 2 else -1
def varI (c:Int):Int:=if 88=c then 0 else if 89=c then 1 else if 90=c then 2 else -1
def isVr (c:Int):Bool:=decide (88≤c∧c≤90)
theorem ix_abc:∀ n:Nat,n < 256→Lib.indexByte [97,98,99] n.toUInt8=ltI (n:Int):=by decide +kernel
theorem ix_XYZ:∀ n:Nat,n < 256→Lib.indexByte [88,89,90] n.toUInt8=varI (n:Int):=by decide +kernel
theorem varI_isVar (c:Int):decide (varI c ≥ 0)=isVr c:=by
 unfold varI isVr
 split
 ·subst_vars;rfl
 ·split
  ·subst_vars;rfl
  ·split
   ·subst_vars;rfl
   ·simp;omega
theorem bt_abc0:bt (⟨#[97,98,99]⟩:ByteArray) 0=97:=by decide
theorem bt_abc1:bt (⟨#[97,98,99]⟩:ByteArray) 1=98:=by decide
theorem bt_abc2:bt (⟨#[97,98,99]⟩:ByteArray) 2=99:=by decide
theorem w64_a:wrap64 1=1:=by unfold wrap64;omega
theorem w64_b:wrap64 2=2:=by unfold wrap64;omega
theorem w64_c:wrap64 3=3:=by unfold wrap64;omega
end Go.Proofs.Ytgajchjnljekgaa.Pl
namespace Go.Proofs.Ytgajchjnljekgaa.F
open Go.RowKit YtgajchjnljekgaaW.PrintWords Ytgajchjnljekgaa.Pl Ytgajchjnljekgaa.A Ytgajchjnljekgaa.Ext
theorem spec_LetterIndex_ev (c:Int):Evt (fun k=>spec_LetterIndex.f k c) (ltI c):=by
 refine ⟨4,fun k hk=>?_⟩
 obtain ⟨m,rfl⟩:∃ m,k=m+4:=⟨k - 4,by omega⟩
 unfold ltI
 by_cases h0:(97:Int)=c
 ·simp [spec_LetterIndex.f,spec_LetterIndex.l0,w64_a,w64_b,w64_c,bt_abc0,bt_abc1,bt_abc2,h0]
 ·by_cases h1:(98:Int)=c
  ·simp [spec_LetterIndex.f,spec_LetterIndex.l0,w64_a,w64_b,w64_c,bt_abc0,bt_abc1,bt_abc2,h0,h1]
  ·by_cases h2:(99:Int)=c
   ·simp [spec_LetterIndex.f,spec_LetterIndex.l0,w64_a,w64_b,w64_c,bt_abc0,bt_abc1,bt_abc2,h0,h1,h2]
   ·simp [spec_LetterIndex.f,spec_LetterIndex.l0,w64_a,w64_b,w64_c,bt_abc0,bt_abc1,bt_abc2,h0,h1,h2]
theorem impl_LetterIndex_eq {c:Int} (h0:0≤c) (h1:c≤255):impl_LetterIndex.f c=some (ltI c):=by
 obtain ⟨n,rfl⟩:=Int.eq_ofNat_of_zero_le h0
 simp only [impl_LetterIndex.f,strings_IndexByte.f,Option.bind_some]
 rw [Int.toNat_natCast]
 exact congrArg some (ix_abc n (by omega))
def allL (l:List Int):Bool:=l.all fun c=>decide (0≤ltI c)
theorem impl_isLetters_ev (s:ByteArray) (hs:s.size≤9223372036854775807):Evt (fun k=>impl_isLetters.f k s) (allL (bytesOf s)):=by
 have h:=Evt.up (fun k i=>impl_isLetters.l0 k s i) s.size (fun i=>allL ((bytesOf s).drop i)) ?_ ?_
 ·simpa [impl_isLetters.f] using h
 ·refine Evt.step ?_
  simp only [impl_isLetters.l0]
  rw [List.drop_of_length_le za92]
  exact Evt.neg (by omega) (Evt.ret _)
 ·intro i hi h
  refine Evt.step ?_
  simp only [impl_isLetters.l0]
  refine Evt.pos (by omega) (Evt.pos (by omega) (Evt.bindc (impl_LetterIndex_eq (bt0 _ _) (bt255 _ _)) ?_))
  have hl:i < (bytesOf s).length:=by rw [bytesOf_length];exact hi
  rw [List.drop_eq_getElem_cons hl,← bt_get s i hl]
  by_cases hc:ltI (bt s i) < 0
  ·exact Evt.pos hc (Evt.const (by simp [allL,show ¬ (0≤ltI (bt s i)) by omega]))
  ·rw [w64s (by omega)]
   exact Evt.neg hc (h.cast (by simp [allL,show 0≤ltI (bt s i) by omega]))
def isW (s:ByteArray):Bool:=allL (bytesOf s) && decide (s.size≤30)
theorem impl_IsWord_ev (s:ByteArray) (hs:s.size≤9223372036854775807):Evt (fun k=>impl_IsWord.f k s) (isW s):=by
 unfold isW
 simp only [impl_IsWord.f]
 by_cases h:s.size≤30
 ·exact Evt.pos (by omega) (Evt.bind (impl_isLetters_ev s hs) (Evt.const (by simp [h])))
 ·exact Evt.neg (by omega) (Evt.const (by simp [h]))
theorem spec_IsWord_ev (s:ByteArray) (hs:s.size≤9223372036854775807):Evt (fun k=>spec_IsWord.f k s) (isW s):=by
 have h:=Evt.up (fun k i=>spec_IsWord.l0 k s i) s.size (fun i=>allL ((bytesOf s).drop i) && decide (s.size≤30)) ?_ ?_
 ·simpa [spec_IsWord.f,isW] using h
 ·refine Evt.step ?_
  simp only [spec_IsWord.l0]
  rw [List.drop_of_length_le za92]
  refine Evt.neg (by omega) (Evt.const ?_)
  have e:((s.size:Int)≤30)=(s.size≤30):=by apply propext;omega
  simp [allL,e]
 ·intro i hi h
  refine Evt.step ?_
  simp only [spec_IsWord.l0]
  refine Evt.pos (by omega) (Evt.pos (by omega) (Evt.bind (spec_LetterIndex_ev _) ?_))
  have hl:i < (bytesOf s).length:=by rw [bytesOf_length];exact hi
  rw [List.drop_eq_getElem_cons hl,← bt_get s i hl]
  by_cases hc:ltI (bt s i) < 0
  ·exact Evt.pos hc (Evt.const (by simp [allL,show ¬ (0≤ltI (bt s i)) by omega]))
  ·rw [w64s (by omega)]
   exact Evt.neg hc (h.cast (by simp [allL,show 0≤ltI (bt s i) by omega]))
theorem impl_isVariable_eq {c:Int} (h0:0≤c) (h1:c≤255):impl_isVariable.f c=some (isVr c):=by
 obtain ⟨n,rfl⟩:=Int.eq_ofNat_of_zero_le h0
 simp only [impl_isVariable.f,strings_IndexByte.f,Option.bind_some]
 rw [Int.toNat_natCast,← varI_isVar,← ix_XYZ n (by omega)]
theorem spec_l8Var_eq (c:Int):spec_l8Var.f c=some (isVr c):=by
 unfold spec_l8Var.f isVr
 by_cases h:c ≥ 88
 ·rw [if_pos h];simp [show 88≤c from h]
 ·rw [if_neg h];simp [show ¬ 88≤c from h]
def isT (c:Int):Bool:=decide (0≤ltI c) || isVr c
def isTm (s:ByteArray):Bool:=(bytesOf s).all isT && decide (s.size≤12)
theorem spec_IsTerm_ev (s:ByteArray) (hs:s.size≤9223372036854775807):Evt (fun k=>spec_IsTerm.f k s) (isTm s):=by
 have h:=Evt.up (fun k i=>spec_IsTerm.l0 k s i) s.size (fun i=>((bytesOf s).drop i).all isT && decide (s.size≤12)) ?_ ?_
 ·simpa [spec_IsTerm.f,isTm] using h
 ·refine Evt.step ?_
  simp only [spec_IsTerm.l0]
  rw [List.drop_of_length_le za92]
  refine Evt.neg (by omega) (Evt.const ?_)
  have e:((s.size:Int)≤12)=(s.size≤12):=by apply propext;omega
  simp [e]
 ·intro i hi h
  refine Evt.step ?_
  simp only [spec_IsTerm.l0]
  refine Evt.pos (by omega) (Evt.pos (by omega) (Evt.bind (spec_LetterIndex_ev _) ?_))
  have hl:i < (bytesOf s).length:=by rw [bytesOf_length];exact hi
  rw [List.drop_eq_getElem_cons hl,← bt_get s i hl,w64s (by omega)]
  by_cases hc:ltI (bt s i) < 0
  ·refine Evt.pos hc (Evt.bindc (spec_l8Var_eq _) ?_)
   by_cases hv:isVr (bt s i)=true
   ·exact Evt.pos hv (h.cast (by simp [isT,hv]))
   ·exact Evt.neg hv (Evt.const (by simp [isT,hv,show ¬ (0≤ltI (bt s i)) by omega]))
  ·exact Evt.neg hc (h.cast (by simp [isT,show 0≤ltI (bt s i) by omega]))
theorem impl_IsTerm_ev (s:ByteArray):Evt (fun k=>impl_IsTerm.f k s) (isTm s):=by
 simp only [impl_IsTerm.f]
 by_cases h12:(s.size:Int) > 12
 ·exact Evt.pos h12 (Evt.const (by simp [isTm,show ¬ s.size≤12 by omega]))
 refine Evt.neg h12 ?_
 have h:=Evt.up (fun k i=>impl_IsTerm.l0 k s i) s.size (fun i=>((bytesOf s).drop i).all isT) ?_ ?_
 ·exact h.cast (by simp [isTm,show s.size≤12 by omega])
 ·refine Evt.step ?_
  simp only [impl_IsTerm.l0]
  rw [List.drop_of_length_le za92]
  exact Evt.neg (by omega) (Evt.ret _)
 ·intro i hi h
  refine Evt.step ?_
  simp only [impl_IsTerm.l0]
  refine Evt.pos (by omega) (Evt.pos (by omega) (Evt.bindc (impl_LetterIndex_eq (bt0 _ _) (bt255 _ _)) ?_))
  have hl:i < (bytesOf s).length:=by rw [bytesOf_length];exact hi
  rw [List.drop_eq_getElem_cons hl,← bt_get s i hl,w64s (by omega)]
  by_cases hc:ltI (bt s i) < 0
  ·refine Evt.pos hc (Evt.bindc (impl_isVariable_eq (bt0 _ _) (bt255 _ _)) ?_)
   by_cases hv:isVr (bt s i)=true
   ·exact Evt.pos hv (h.cast (by simp [isT,hv]))
   ·exact Evt.neg hv (Evt.const (by simp [isT,hv,show ¬ (0≤ltI (bt s i)) by omega]))
  ·exact Evt.neg hc (h.cast (by simp [isT,show 0≤ltI (bt s i) by omega]))
def cntB (l:List Int) (c:Int):Nat:=l.count c
theorem spec_CountByte_ev (s:ByteArray) (c:Int) (hs:s.size≤9223372036854775807):Evt (fun k=>spec_CountByte.f k s c) ((cntB (bytesOf s) c:Nat):Int):=by
 have h:∀ d i n:Nat,i+d=s.size→n≤i→Evt (fun k=>spec_CountByte.l0 k s c (n:Int) (i:Int)) (((n+cntB ((bytesOf s).drop i) c:Nat)):Int):=by
  intro d
  induction d with
  | zero =>
   intro i n hi hn
   refine Evt.step ?_
   simp only [spec_CountByte.l0]
   rw [List.drop_of_length_le za92]
   exact Evt.neg (by omega) (Evt.const (by simp [cntB]))
  | succ d ih =>
   intro i n hi hn
   refine Evt.step ?_
   simp only [spec_CountByte.l0]
   have hl:i < (bytesOf s).length:=by rw [bytesOf_length];omega
   rw [List.drop_eq_getElem_cons hl,← bt_get s i hl,w64s (i:=i) (by omega),w64s (i:=n) (by omega)]
   refine Evt.pos (by omega) (Evt.pos (by omega) ?_)
   by_cases hc:bt s i=c
   ·exact Evt.pos hc ((ih (i+1) (n+1) (by omega) (by omega)).cast (by simp [cntB,hc];omega))
   ·exact Evt.neg hc ((ih (i+1) n (by omega) (by omega)).cast (by simp [cntB,hc]))
 have:=h s.size 0 0 (by omega) (by omega)
 simpa [spec_CountByte.f] using this
theorem ext_size (i:Int) (h0:0≤i) (h:i < 3):((⟨#[88,89,90]⟩:ByteArray).extract (i:Int).toNat ((i+1):Int).toNat).size=1:=by
 have:i=0∨i=1∨i=2:=by omega
 rcases this with rfl|rfl|rfl <;> rfl
end Go.Proofs.Ytgajchjnljekgaa.F
namespace Go.Proofs.Ytgajchjnljekgaa.F
open Go Go.RowKit YtgajchjnljekgaaW.PrintWords Ytgajchjnljekgaa.Pl Ytgajchjnljekgaa.A Ytgajchjnljekgaa.Ext
theorem i64wrap255 (n:Nat) (h:n≤255):IntKind.i64.wrap (n:Int)=n:=by
 unfold IntKind.wrap
 simp [IntKind.signed,IntKind.bits]
 omega
theorem and255 (a:Int):0≤Go.bits .and .i64 a 255∧Go.bits .and .i64 a 255≤255:=by
 have h:(BitVec.ofInt 64 a &&& BitVec.ofInt 64 255).toNat≤255:=by
  rw [BitVec.toNat_and]
  exact Nat.le_trans Nat.and_le_right (by decide)
 have e:Go.bits .and .i64 a 255=IntKind.i64.wrap ((BitVec.ofInt 64 a &&& BitVec.ofInt 64 255).toNat:Int):=rfl
 rw [e,i64wrap255 _ h]
 omega
def Cu (b:List Int) (i:Int):Prop:=b.length≤1048576∧0≤i∧i≤b.length
theorem l1Byte_ok {b:List Int} {i:Int} (h:Int) (hc:Cu b i):∃ x i' h',spec_l1Byte.f b i h=some (x,i',h')∧0≤x∧x≤255∧Cu b i':=by
 obtain ⟨h0,h1,h2⟩:=hc
 unfold spec_l1Byte.f
 by_cases hl:i < (b.length:Int)
 ·rw [if_pos hl,if_pos h1]
  refine ⟨_,_,_,rfl,(and255 _).1,(and255 _).2,h0,?_⟩
  rw [w64 (by omega) (by omega)]
  omega
 ·rw [if_neg hl]
  exact ⟨_,_,_,rfl,(and255 _).1,(and255 _).2,h0,h1,h2⟩
theorem l1Below_ok {b:List Int} {i:Int} (h n:Int) (hc:Cu b i) (hn:1≤n) (hn':n≤256):∃ x i' h',spec_l1Below.f b i h n=some (x,i',h')∧0≤x∧x < n∧Cu b i':=by
 obtain ⟨x,i',h',e,h0,h1,hc'⟩:=l1Byte_ok h hc
 unfold spec_l1Below.f
 rw [if_neg (by omega),if_pos hn',e]
 simp only [Option.bind_some]
 rw [if_neg (by omega)]
 exact ⟨_,_,_,rfl,Int.tmod_nonneg _ h0,Int.tmod_lt_of_pos _ (by omega),hc'⟩
theorem l1Once_ok {b:List Int} {i:Int} (h n:Int) (hc:Cu b i) (hn:1≤n) (hn':n≤256):∃ x i' h',spec_l1Once.f b i h n=some (x,i',h')∧Cu b i':=by
 obtain ⟨x,i',h',e,_,_,hc'⟩:=l1Below_ok h n hc hn hn'
 unfold spec_l1Once.f
 rw [e]
 exact ⟨_,_,_,rfl,hc'⟩
theorem l1Pick_ok {b:List Int} {i:Int} (h:Int) (l:List ByteArray) (hc:Cu b i) (hn:1≤l.length) (hn':l.length≤256):∃ s i' h',spec_l1Pick.f b i h l=some (s,i',h')∧s ∈ l∧Cu b i':=by
 obtain ⟨x,i',h',e,h0,h1,hc'⟩:=l1Below_ok h (l.length:Int) hc (by omega) (by omega)
 unfold spec_l1Pick.f
 rw [e]
 simp only [Option.bind_some]
 rw [if_pos h0,if_pos h1]
 refine ⟨_,_,_,rfl,?_,hc'⟩
 have hx:x.toNat < l.length:=by omega
 unfold rdOf
 rw [List.getD_eq_getElem?_getD,List.getElem?_eq_getElem hx]
 exact List.getElem_mem hx
theorem l1New_ok (l:List Int) (hl:l.length≤1048576):∃ h,Evt (fun k=>spec_l1New.f k l) (l,0,h):=by
 have hh:∀ d i:Nat,i+d=l.length→∀ h:Int,∃ h',Evt (fun k=>spec_l1New.l0 k l h (i:Int)) (l,0,h'):=by
  intro d
  induction d with
  | zero =>
   intro i hi h
   refine ⟨h,Evt.step ?_⟩
   simp only [spec_l1New.l0]
   exact Evt.neg (by omega) (Evt.ret _)
  | succ d ih =>
   intro i hi h
   by_cases hm:(i:Int) < 4000
   ·obtain ⟨h',hn⟩:=ih (i+1) (by omega) (Go.bits .and .i64 (wrap64 ((wrap64 ((wrap64 (h * 131))+(wrap64 (rd l (i:Int)))))+7)) 1073741823)
    refine ⟨h',Evt.step ?_⟩
    simp only [spec_l1New.l0]
    rw [w64s (by omega)]
    exact Evt.pos (by omega) (Evt.pos hm (Evt.pos (by omega) hn))
   ·refine ⟨h,Evt.step ?_⟩
    simp only [spec_l1New.l0]
    exact Evt.pos (by omega) (Evt.neg hm (Evt.ret _))
 exact hh l.length 0 (by omega) _
theorem l8Draw_ok {b:List Int} {i:Int} (h:Int) (n:Nat) (vars:ByteArray) (hc:Cu b i) (hn:n≤200) (hv:vars.size≤3):∃ s i' h',Evt (fun k=>spec_l8Draw.f k b i h (n:Int) vars) (s,i',h')∧s.size≤n∧Cu b i':=by
 obtain ⟨m,i1,h1,e,m0,m1,hc1⟩:=l1Below_ok h ((n:Int)+1) hc (by omega) (by omega)
 obtain ⟨m,rfl⟩:=Int.eq_ofNat_of_zero_le m0
 have hh:∀ d j:Nat,j+d=m→∀ (acc:ByteArray) (i h:Int),acc.size≤j→Cu b i→∃ s i' h',Evt (fun k=>spec_l8Draw.l0 k vars acc (m:Int) (j:Int) b i h) (s,i',h')∧s.size≤n∧Cu b i':=by
  intro d
  induction d with
  | zero =>
   intro j hj acc i h ha hc
   refine ⟨acc,i,h,Evt.step ?_,by omega,hc⟩
   simp only [spec_l8Draw.l0]
   exact Evt.neg (by omega) (Evt.ret _)
  | succ d ih =>
   intro j hj acc i h ha hc
   obtain ⟨s,i',h',e,hs,hc'⟩:=l1Pick_ok h [(⟨#[97]⟩:ByteArray),(⟨#[98]⟩:ByteArray),(⟨#[88]⟩:ByteArray),(⟨#[89]⟩:ByteArray),(⟨#[88]⟩:ByteArray),(⟨#[97]⟩:ByteArray),(⟨#[90]⟩:ByteArray)] hc (by decide) (by decide)
   have hs1:s.size=1:=by
    simp only [List.mem_cons,List.not_mem_nil,or_false] at hs
    rcases hs with rfl|rfl|rfl|rfl|rfl|rfl|rfl <;> rfl
   obtain ⟨r,i2,h2,hr,hr2,hc2⟩:=ih (j+1) (by omega) (acc ++ s) i' h' za111 hc'
   obtain ⟨r',i3,h3,hr',hr2',hc3⟩:=ih (j+1) (by omega) acc i' h' (by omega) hc'
   by_cases c1:ltI (bt s 0) ≥ 0
   ·refine ⟨r,i2,h2,Evt.step ?_,hr2,hc2⟩
    simp only [spec_l8Draw.l0]
    rw [w64s (by omega)]
    exact Evt.pos (by omega) (Evt.bindc e (Evt.pos (show 0 < (s.size:Int) by omega) (Evt.bind (spec_LetterIndex_ev _) (Evt.pos c1 (Evt.pos (show acc.size+s.size≤9223372036854775807 by omega) hr)))))
   ·by_cases c2:((cntB (bytesOf vars) (bt s 0):Nat):Int) > 0
    ·by_cases c3:((cntB (bytesOf acc) (bt s 0):Nat):Int) < 2
     ·refine ⟨r,i2,h2,Evt.step ?_,hr2,hc2⟩
      simp only [spec_l8Draw.l0]
      rw [w64s (by omega)]
      exact Evt.pos (by omega) (Evt.bindc e (Evt.pos (show 0 < (s.size:Int) by omega) (Evt.bind (spec_LetterIndex_ev _) (Evt.neg c1 (Evt.bind (spec_CountByte_ev _ _ (by omega)) (Evt.pos c2 (Evt.bind (spec_CountByte_ev _ _ (by omega)) (Evt.pos c3 (Evt.pos (show acc.size+s.size≤9223372036854775807 by omega) hr)))))))))
     ·refine ⟨r',i3,h3,Evt.step ?_,hr2',hc3⟩
      simp only [spec_l8Draw.l0]
      rw [w64s (by omega)]
      exact Evt.pos (by omega) (Evt.bindc e (Evt.pos (show 0 < (s.size:Int) by omega) (Evt.bind (spec_LetterIndex_ev _) (Evt.neg c1 (Evt.bind (spec_CountByte_ev _ _ (by omega)) (Evt.pos c2 (Evt.bind (spec_CountByte_ev _ _ (by omega)) (Evt.neg c3 hr'))))))))
    ·refine ⟨r',i3,h3,Evt.step ?_,hr2',hc3⟩
     simp only [spec_l8Draw.l0]
     rw [w64s (by omega)]
     exact Evt.pos (by omega) (Evt.bindc e (Evt.pos (show 0 < (s.size:Int) by omega) (Evt.bind (spec_LetterIndex_ev _) (Evt.neg c1 (Evt.bind (spec_CountByte_ev _ _ (by omega)) (Evt.neg c2 hr'))))))
 obtain ⟨s,i',h',hr,hr2,hc2⟩:=hh m 0 (by omega) (⟨#[]⟩:ByteArray) i1 h1 (Nat.le_refl _) hc1
 refine ⟨s,i',h',?_,hr2,hc2⟩
 simp only [spec_l8Draw.f]
 rw [w64 (by omega) (by omega)]
 exact Evt.bindc e hr
theorem l8Any_ok {b:List Int} {i:Int} (h:Int) (hc:Cu b i):∃ s i' h',Evt (fun k=>spec_l8Any.f k b i h) (s,i',h')∧s.size≤13∧Cu b i':=by
 obtain ⟨s,i1,h1,e,hs,hc1⟩:=l8Draw_ok h 6 (⟨#[88,89,90]⟩:ByteArray) hc (by omega) (by decide)
 obtain ⟨r,i2,h2,e2,hr,hc2⟩:=l1Pick_ok h1 [(⟨#[]⟩:ByteArray),(⟨#[97,88,98]⟩:ByteArray),(⟨#[88,88]⟩:ByteArray),(⟨#[87]⟩:ByteArray),(⟨#[90,89,88]⟩:ByteArray),(⟨#[97,97,97,97,97,97,97,97,97,97,97,97]⟩:ByteArray),(⟨#[97,97,97,97,97,97,97,97,97,97,97,97,88]⟩:ByteArray),(⟨#[120]⟩:ByteArray),s] hc1 (by simp) (by simp)
 refine ⟨r,i2,h2,?_,?_,hc2⟩
 ·simp only [spec_l8Any.f]
  exact Evt.bind e (Evt.bindc e2 (Evt.ret _))
 ·simp only [List.mem_cons,List.not_mem_nil,or_false] at hr
  rcases hr with rfl|rfl|rfl|rfl|rfl|rfl|rfl|rfl|rfl
  all_goals first|decide|omega
theorem cu0 {l:List Int} (hl:l.length≤1048576):Cu l 0:=⟨hl,Int.le_refl _,by omega⟩
end Go.Proofs.Ytgajchjnljekgaa.F
namespace Go.Proofs.Ytgajchjnljekgaa.F
open Go.RowKit YtgajchjnljekgaaW.PrintWords Ytgajchjnljekgaa.Pl Ytgajchjnljekgaa.A Ytgajchjnljekgaa.Ext
def isSd (c:Int):Bool:=decide (0≤ltI c) || isVr c || decide (c=35)
theorem spec_l12Side_ev (s:ByteArray) (hs:s.size≤9223372036854775807):Evt (fun k=>spec_l12Side.f k s) ((bytesOf s).all isSd && decide (s.size≤24)):=by
 have h:=Evt.up (fun k i=>spec_l12Side.l0 k s i) s.size (fun i=>((bytesOf s).drop i).all isSd && decide (s.size≤24)) ?_ ?_
 ·simpa [spec_l12Side.f] using h
 ·refine Evt.step ?_
  simp only [spec_l12Side.l0]
  rw [List.drop_of_length_le za92]
  refine Evt.neg (by omega) (Evt.const ?_)
  have e:((s.size:Int)≤24)=(s.size≤24):=by apply propext;omega
  simp [e]
 ·intro i hi h
  refine Evt.step ?_
  simp only [spec_l12Side.l0]
  refine Evt.pos (by omega) (Evt.pos (by omega) (Evt.bind (spec_LetterIndex_ev _) ?_))
  have hl:i < (bytesOf s).length:=by rw [bytesOf_length];exact hi
  rw [List.drop_eq_getElem_cons hl,← bt_get s i hl,w64s (by omega)]
  by_cases hc:ltI (bt s i) < 0
  ·refine Evt.pos hc (Evt.bindc (spec_l8Var_eq _) ?_)
   by_cases hv:isVr (bt s i)=true
   ·exact Evt.pos hv (h.cast (by simp [isSd,hv]))
   ·refine Evt.neg hv ?_
    by_cases h35:bt s i=35
    ·exact Evt.pos h35 (h.cast (by simp [isSd,h35]))
    ·exact Evt.neg h35 (Evt.const (by simp [isSd,hv,h35,show ¬ (0≤ltI (bt s i)) by omega]))
  ·exact Evt.neg hc (h.cast (by simp [isSd,show 0≤ltI (bt s i) by omega]))
theorem impl_isSide_ev (s:ByteArray) (hs:s.size≤9223372036854775807):Evt (fun k=>impl_isSide.f k s) ((bytesOf s).all isSd):=by
 have h:=Evt.up (fun k i=>impl_isSide.l0 k s i) s.size (fun i=>((bytesOf s).drop i).all isSd) ?_ ?_
 ·simpa [impl_isSide.f] using h
 ·refine Evt.step ?_
  simp only [impl_isSide.l0]
  rw [List.drop_of_length_le za92]
  exact Evt.neg (by omega) (Evt.ret _)
 ·intro i hi h
  refine Evt.step ?_
  simp only [impl_isSide.l0]
  refine Evt.pos (by omega) (Evt.pos (by omega) ?_)
  have hl:i < (bytesOf s).length:=by rw [bytesOf_length];exact hi
  rw [List.drop_eq_getElem_cons hl,← bt_get s i hl,w64s (by omega)]
  by_cases h35:bt s i=35
  ·exact Evt.pos h35 (h.cast (by simp [isSd,h35]))
  refine Evt.neg h35 (Evt.bindc (impl_LetterIndex_eq (bt0 _ _) (bt255 _ _)) ?_)
  by_cases hc:ltI (bt s i) < 0
  ·refine Evt.pos hc (Evt.bindc (impl_isVariable_eq (bt0 _ _) (bt255 _ _)) ?_)
   by_cases hv:isVr (bt s i)=true
   ·exact Evt.pos hv (h.cast (by simp [isSd,hv]))
   ·exact Evt.neg hv (Evt.const (by simp [isSd,hv,h35,show ¬ (0≤ltI (bt s i)) by omega]))
  ·exact Evt.neg hc (h.cast (by simp [isSd,show 0≤ltI (bt s i) by omega]))
def isEq (a b:ByteArray):Bool:=((bytesOf a).all isSd && decide (a.size≤24)) && ((bytesOf b).all isSd && decide (b.size≤24))
theorem spec_IsEquation_ev (a b:ByteArray) (ha:a.size≤9223372036854775807) (hb:b.size≤9223372036854775807):Evt (fun k=>spec_IsEquation.f k a b) (isEq a b):=by
 unfold isEq
 simp only [spec_IsEquation.f]
 refine Evt.bind (spec_l12Side_ev a ha) ?_
 cases h:((bytesOf a).all isSd && decide (a.size≤24)) with
 | true=>exact Evt.pos rfl (Evt.bind (spec_l12Side_ev b hb) (Evt.const (by simp)))
 | false=>exact Evt.neg (by simp) (Evt.const (by simp))
theorem impl_IsEquation_ev (a b:ByteArray) (ha:a.size≤9223372036854775807) (hb:b.size≤9223372036854775807):Evt (fun k=>impl_IsEquation.f k a b) (isEq a b):=by
 unfold isEq
 simp only [impl_IsEquation.f]
 refine Evt.bind (impl_isSide_ev a ha) ?_
 cases h:(bytesOf a).all isSd with
 | true =>
  refine Evt.pos rfl (Evt.bind (impl_isSide_ev b hb) ?_)
  cases h2:(bytesOf b).all isSd with
  | true =>
   refine Evt.pos rfl ?_
   by_cases h3:a.size≤24
   ·refine Evt.pos (by omega) (Evt.const ?_)
    have e:((b.size:Int)≤24)=(b.size≤24):=by apply propext;omega
    simp [h3,e]
   ·exact Evt.neg (by omega) (Evt.const (by simp [h3]))
  | false=>exact Evt.neg (by simp) (Evt.const (by simp))
 | false=>exact Evt.neg (by simp) (Evt.const (by simp))
def cp:List Int→List Int→Nat
 | x :: xs,y :: ys=>if x=y then cp xs ys+1 else 0
 | _,_=>0
theorem cp_nil_r (xs:List Int):cp xs []=0:=by cases xs <;> rfl
theorem cp_nil_l (xs:List Int):cp [] xs=0:=by cases xs <;> rfl
def stripB (a b:ByteArray):ByteArray × ByteArray:=(a.extract (cp (bytesOf a) (bytesOf b)) a.size,b.extract (cp (bytesOf a) (bytesOf b)) b.size)
theorem spec_StripEquation_ev (a b:ByteArray) (ha:a.size≤9223372036854775807) (hb:b.size≤9223372036854775807):Evt (fun k=>spec_StripEquation.f k a b) (stripB a b):=by
 have h:∀ d i:Nat,i+d=a.size→i≤b.size→Evt (fun k=>spec_StripEquation.l0 k (i:Int) a b) (a.extract (i+cp ((bytesOf a).drop i) ((bytesOf b).drop i)) a.size,b.extract (i+cp ((bytesOf a).drop i) ((bytesOf b).drop i)) b.size):=by
  intro d
  induction d with
  | zero =>
   intro i hi hb2
   refine Evt.step ?_
   simp only [spec_StripEquation.l0]
   refine Evt.neg (by omega) (Evt.pos (by omega) (Evt.pos (by omega) (Evt.pos (by omega) (Evt.const ?_))))
   rw [List.drop_of_length_le (l:=bytesOf a) za92,cp_nil_l]
   simp
  | succ d ih =>
   intro i hi hb2
   have hl:i < (bytesOf a).length:=by rw [bytesOf_length];omega
   refine Evt.step ?_
   simp only [spec_StripEquation.l0]
   refine Evt.pos (by omega) ?_
   by_cases h2:i < b.size
   ·have hl2:i < (bytesOf b).length:=by rw [bytesOf_length];omega
    refine Evt.pos (by omega) (Evt.pos (by omega) ?_)
    rw [List.drop_eq_getElem_cons hl,List.drop_eq_getElem_cons hl2,← bt_get a i hl,← bt_get b i hl2,w64s (by omega)]
    by_cases hc:bt a i=bt b i
    ·refine Evt.pos hc ((ih (i+1) (by omega) (by omega)).cast ?_)
     simp only [cp,hc,if_true]
     rw [show i+1+cp ((bytesOf a).drop (i+1)) ((bytesOf b).drop (i+1))=i+(cp ((bytesOf a).drop (i+1)) ((bytesOf b).drop (i+1))+1) by omega]
    ·refine Evt.neg hc (Evt.pos (by omega) (Evt.pos (by omega) (Evt.const ?_)))
     simp [cp,hc]
   ·refine Evt.neg (by omega) (Evt.pos (by omega) (Evt.pos (by omega) (Evt.pos (by omega) (Evt.const ?_))))
    rw [List.drop_of_length_le (l:=bytesOf b) za92,cp_nil_r]
    simp
 have:=h a.size 0 (by omega) (by omega)
 simpa [spec_StripEquation.f,stripB] using this
theorem extract_all (a:ByteArray):a.extract 0 a.size=a:=bytesOf_inj (by rw [bytesOf_tail];rfl)
theorem extract_one (a:ByteArray) (n:Nat):(a.extract 1 a.size).extract n (a.extract 1 a.size).size=a.extract (n+1) a.size :=
 bytesOf_inj (by rw [bytesOf_tail,bytesOf_tail,bytesOf_tail,List.drop_drop,Nat.add_comm])
theorem impl_StripEquation_ev (a b:ByteArray):Evt (fun k=>impl_StripEquation.f k a b) (stripB a b):=by
 have h:∀ (n:Nat) (a b:ByteArray),a.size=n→Evt (fun k=>impl_StripEquation.l0 k a b) (stripB a b):=by
  intro n
  induction n with
  | zero =>
   intro a b hn
   refine Evt.step ?_
   simp only [impl_StripEquation.l0]
   refine Evt.pos ((toList_nil_iff a).2 hn) (Evt.const ?_)
   have e:bytesOf a = []:=List.length_eq_zero_iff.1 (by rw [bytesOf_length];exact hn)
   simp only [stripB,e,cp_nil_l,extract_all]
  | succ n ih =>
   intro a b hn
   refine Evt.step ?_
   simp only [impl_StripEquation.l0]
   refine Evt.neg (fun h=>by rw [toList_nil_iff] at h;omega) ?_
   by_cases hb:b.size=0
   ·refine Evt.pos ((toList_nil_iff b).2 hb) (Evt.const ?_)
    have e:bytesOf b = []:=List.length_eq_zero_iff.1 (by rw [bytesOf_length];exact hb)
    simp only [stripB,e,cp_nil_r,extract_all]
   ·refine Evt.neg (fun h=>hb ((toList_nil_iff b).1 h)) (Evt.pos (by omega) (Evt.pos (by omega) ?_))
    have hl:0 < (bytesOf a).length:=by rw [bytesOf_length];omega
    have hl2:0 < (bytesOf b).length:=by rw [bytesOf_length];omega
    have ea:bytesOf a=bt a 0 :: (bytesOf a).drop 1:=by
     have:=List.drop_eq_getElem_cons hl
     rw [List.drop_zero,← bt_get a 0 hl] at this
     exact this
    have eb:bytesOf b=bt b 0 :: (bytesOf b).drop 1:=by
     have:=List.drop_eq_getElem_cons hl2
     rw [List.drop_zero,← bt_get b 0 hl2] at this
     exact this
    by_cases hc:bt a 0=bt b 0
    ·refine Evt.pos hc (Evt.pos (by omega) (Evt.pos (by omega) ((ih _ _ ?_).cast ?_)))
     ·rw [← bytesOf_length,bytesOf_tail,List.length_drop,bytesOf_length];omega
     ·have e1:cp (bytesOf a) (bytesOf b)=cp ((bytesOf a).drop 1) ((bytesOf b).drop 1)+1:=by
       rw [ea,eb]
       simp [cp,hc]
      simp only [stripB,extract_one,bytesOf_tail,e1]
    ·refine Evt.neg hc (Evt.const ?_)
     have e1:cp (bytesOf a) (bytesOf b)=0:=by
      rw [ea,eb]
      simp [cp,hc]
     simp only [stripB,e1,extract_all]
 exact h a.size a b rfl
theorem size_append' (a b:ByteArray):(a ++ b).size=a.size+b.size:=ByteArray.size_append
theorem stripB_size (a b:ByteArray):(stripB a b).1.size≤a.size∧(stripB a b).2.size≤b.size:=by
 unfold stripB
 constructor
 ·rw [← bytesOf_length,bytesOf_tail,List.length_drop,bytesOf_length];omega
 ·rw [← bytesOf_length,bytesOf_tail,List.length_drop,bytesOf_length];omega
theorem spec_l12Hard_ev (s:ByteArray) (hs:s.size≤9223372036854775807):Evt (fun k=>spec_l12Hard.f k s) (!(bytesOf s).all isVr):=by
 have h:=Evt.up (fun k i=>spec_l12Hard.l0 k s i) s.size (fun i => !((bytesOf s).drop i).all isVr) ?_ ?_
 ·simpa [spec_l12Hard.f] using h
 ·refine Evt.step ?_
  simp only [spec_l12Hard.l0]
  rw [List.drop_of_length_le za92]
  exact Evt.neg (by omega) (Evt.const rfl)
 ·intro i hi h
  refine Evt.step ?_
  simp only [spec_l12Hard.l0]
  refine Evt.pos (by omega) (Evt.pos (by omega) (Evt.bindc (spec_l8Var_eq _) ?_))
  have hl:i < (bytesOf s).length:=by rw [bytesOf_length];exact hi
  rw [List.drop_eq_getElem_cons hl,← bt_get s i hl,w64s (by omega)]
  by_cases hv:isVr (bt s i)=true
  ·exact Evt.pos hv (h.cast (by simp [hv]))
  ·exact Evt.neg hv (Evt.const (by simp [hv]))
theorem impl_onlyVariables_ev (s:ByteArray) (hs:s.size≤9223372036854775807):Evt (fun k=>impl_onlyVariables.f k s) ((bytesOf s).all isVr):=by
 have h:=Evt.up (fun k i=>impl_onlyVariables.l0 k s i) s.size (fun i=>((bytesOf s).drop i).all isVr) ?_ ?_
 ·simpa [impl_onlyVariables.f] using h
 ·refine Evt.step ?_
  simp only [impl_onlyVariables.l0]
  rw [List.drop_of_length_le za92]
  exact Evt.neg (by omega) (Evt.const rfl)
 ·intro i hi h
  refine Evt.step ?_
  simp only [impl_onlyVariables.l0]
  refine Evt.pos (by omega) (Evt.pos (by omega) (Evt.bindc (impl_isVariable_eq (bt0 _ _) (bt255 _ _)) ?_))
  have hl:i < (bytesOf s).length:=by rw [bytesOf_length];exact hi
  rw [List.drop_eq_getElem_cons hl,← bt_get s i hl,w64s (by omega)]
  by_cases hv:isVr (bt s i)=true
  ·exact Evt.pos hv (h.cast (by simp [hv]))
  ·exact Evt.neg hv (Evt.const (by simp [hv]))
def clashS (a b:ByteArray):Bool:=if a.size=0∨b.size=0 then !(bytesOf (a ++ b)).all isVr else !isVr (bt a 0) && !isVr (bt b 0)
def clashB (a b:ByteArray):Bool:=clashS (stripB a b).1 (stripB a b).2
theorem spec_IsClash_ev (a b:ByteArray) (h:a.size+b.size≤9223372036854775807):Evt (fun k=>spec_IsClash.f k a b) (clashB a b):=by
 unfold clashB
 simp only [spec_IsClash.f]
 refine Evt.bind (spec_StripEquation_ev a b (by omega) (by omega)) ?_
 have hs:=stripB_size a b
 generalize stripB a b=p at hs ⊢
 obtain ⟨x,y⟩:=p
 simp only at hs ⊢
 have hj:∀ e:Bool,e=decide (x.size=0∨y.size=0)→Evt (fun k=>spec_IsClash.j0 k e x y) (clashS x y):=by
  intro e he
  refine Evt.step ?_
  simp only [spec_IsClash.j0]
  unfold clashS
  by_cases hc:x.size=0∨y.size=0
  ·rw [if_pos hc]
   refine Evt.pos (by rw [he];exact decide_eq_true hc) (Evt.pos (by omega) (Evt.bind (spec_l12Hard_ev _ (by rw [size_append'];omega)) (Evt.const rfl)))
  ·rw [if_neg hc]
   refine Evt.neg (by rw [he,decide_eq_false hc];decide) (Evt.pos (by omega) (Evt.bindc (spec_l8Var_eq _) ?_))
   by_cases hv:isVr (bt x 0)=true
   ·exact Evt.pos hv (Evt.const (by simp [hv]))
   ·exact Evt.neg hv (Evt.pos (by omega) (Evt.bindc (spec_l8Var_eq _) (Evt.const (by simp [hv]))))
 by_cases h0:x.size=0
 ·exact Evt.pos ((toList_nil_iff x).2 h0) (hj _ (by simp [h0]))
 ·refine Evt.neg (fun e=>h0 ((toList_nil_iff x).1 e)) (hj _ ?_)
  rw [Bool.eq_iff_iff]
  simp [h0,toList_nil_iff]
theorem impl_IsClash_ev (a b:ByteArray) (h:a.size+b.size≤9223372036854775807):Evt (fun k=>impl_IsClash.f k a b) (clashB a b):=by
 unfold clashB
 simp only [impl_IsClash.f]
 refine Evt.bind (impl_StripEquation_ev a b) ?_
 have hs:=stripB_size a b
 generalize stripB a b=p at hs ⊢
 obtain ⟨x,y⟩:=p
 simp only at hs ⊢
 have hj:∀ e:Bool,e=decide (x.size=0∨y.size=0)→Evt (fun k=>impl_IsClash.j0 k e x y) (clashS x y):=by
  intro e he
  refine Evt.step ?_
  simp only [impl_IsClash.j0]
  unfold clashS
  by_cases hc:x.size=0∨y.size=0
  ·rw [if_pos hc]
   refine Evt.pos (by rw [he];exact decide_eq_true hc) (Evt.pos (by omega) (Evt.bind (impl_onlyVariables_ev _ (by rw [size_append'];omega)) (Evt.const rfl)))
  ·rw [if_neg hc]
   refine Evt.neg (by rw [he,decide_eq_false hc];decide) (Evt.pos (by omega) (Evt.bindc (impl_isVariable_eq (bt0 _ _) (bt255 _ _)) ?_))
   by_cases hv:isVr (bt x 0)=true
   ·exact Evt.pos hv (Evt.const (by simp [hv]))
   ·exact Evt.neg hv (Evt.pos (by omega) (Evt.bindc (impl_isVariable_eq (bt0 _ _) (bt255 _ _)) (Evt.const (by simp [hv]))))
 by_cases h0:x.size=0
 ·exact Evt.pos ((toList_nil_iff x).2 h0) (hj _ (by simp [h0]))
 ·refine Evt.neg (fun e=>h0 ((toList_nil_iff x).1 e)) (hj _ ?_)
  rw [Bool.eq_iff_iff]
  simp [h0,toList_nil_iff]
end Go.Proofs.Ytgajchjnljekgaa.F
namespace Go.Proofs.Ytgajchjnljekgaa.F
open Go Go.RowKit YtgajchjnljekgaaW.PrintWords Ytgajchjnljekgaa.Pl Ytgajchjnljekgaa.A Ytgajchjnljekgaa.Ext
def pairM (x y:Int):List S33:=if isVr x=true then ⟨x,(⟨#[]⟩:ByteArray)⟩ :: (if (isVr y || decide (0≤ltI y))=true then [⟨x,strOfNums [y,x]⟩] else []) else []
theorem pairM_len (x y:Int):(pairM x y).length≤2:=by
 unfold pairM
 repeat' split
 all_goals simp
theorem spec_l12First_ev (x y:Int):Evt (fun k=>spec_l12First.f k x y) (pairM x y):=by
 simp only [spec_l12First.f]
 unfold pairM
 refine Evt.bindc rfl (Evt.bindc (spec_l8Var_eq _) ?_)
 by_cases hx:isVr x=true
 ·rw [if_pos hx]
  refine Evt.pos hx (Evt.pos (by simp) (Evt.bindc rfl (Evt.bindc (spec_l8Var_eq _) ?_)))
  by_cases hy:isVr y=true
  ·exact Evt.pos hy (Evt.pos (by simp) ((Evt.ret _).cast (by simp [hy])))
  ·refine Evt.neg hy (Evt.bind (spec_LetterIndex_ev _) ?_)
   by_cases hl:ltI y ≥ 0
   ·exact Evt.pos hl (Evt.pos (by simp) ((Evt.ret _).cast (by simp [show 0≤ltI y from hl])))
   ·exact Evt.neg hl ((Evt.ret _).cast (by simp [hy,show ¬ 0≤ltI y from hl]))
 ·rw [if_neg hx]
  exact Evt.neg hx (Evt.ret _)
def movesS (a b:ByteArray):List S33 :=
 if (a.size=0∧b.size=0)∨clashB a b=true then [] else if a.size=0 then [⟨bt b 0,(⟨#[]⟩:ByteArray)⟩] else if b.size=0 then [⟨bt a 0,(⟨#[]⟩:ByteArray)⟩] else pairM (bt a 0) (bt b 0) ++ pairM (bt b 0) (bt a 0)
def movesB (a b:ByteArray):List S33:=movesS (stripB a b).1 (stripB a b).2
theorem movesB_len (a b:ByteArray):(movesB a b).length≤4:=by
 unfold movesB movesS
 have h1:=pairM_len (bt (stripB a b).1 0) (bt (stripB a b).2 0)
 have h2:=pairM_len (bt (stripB a b).2 0) (bt (stripB a b).1 0)
 repeat' split
 all_goals simp
 omega
theorem nil_iff (a:ByteArray):a.toList=([]:List UInt8) ↔ a.size=0:=toList_nil_iff a
theorem spec_MovesOf_ev (a b:ByteArray) (h:a.size+b.size≤9223372036854775807):Evt (fun k=>spec_MovesOf.f k a b) (movesB a b):=by
 simp only [spec_MovesOf.f]
 refine Evt.bind (spec_StripEquation_ev a b (by omega) (by omega)) ?_
 have hsz:=stripB_size a b
 unfold movesB
 generalize hp:(stripB a b).1=p at hsz ⊢
 generalize hq:(stripB a b).2=q at hsz ⊢
 have hc:=spec_IsClash_ev p q (by omega)
 have hj:∀ x:Bool,(x=true ↔ ((p.size=0∧q.size=0)∨clashB p q=true))→Evt (fun k=>spec_MovesOf.j0 k x p q) (movesS p q):=by
  intro x hx
  refine Evt.step ?_
  simp only [spec_MovesOf.j0]
  unfold movesS
  by_cases h0:(p.size=0∧q.size=0)∨clashB p q=true
  ·rw [if_pos h0]
   exact Evt.pos (hx.2 h0) (Evt.ret _)
  ·rw [if_neg h0]
   refine Evt.neg (fun h=>h0 (hx.1 h)) ?_
   have hpq:¬ (p.size=0∧q.size=0):=fun h=>h0 (.inl h)
   by_cases h1:p.size=0
   ·rw [if_pos h1]
    exact Evt.pos ((nil_iff p).2 h1) (Evt.pos (by omega) (Evt.ret _))
   ·rw [if_neg h1]
    refine Evt.neg (fun h=>h1 ((nil_iff p).1 h)) ?_
    by_cases h2:q.size=0
    ·rw [if_pos h2]
     exact Evt.pos ((nil_iff q).2 h2) (Evt.pos (by omega) (Evt.ret _))
    ·rw [if_neg h2]
     have l1:=pairM_len (bt p 0) (bt q 0)
     have l2:=pairM_len (bt q 0) (bt p 0)
     exact Evt.neg (fun h=>h2 ((nil_iff q).1 h)) (Evt.pos (by omega) (Evt.pos (by omega) (Evt.bind (spec_l12First_ev _ _) (Evt.bind (spec_l12First_ev _ _) (Evt.pos (by omega) (Evt.ret _))))))
 by_cases h1:p.size=0
 ·refine Evt.pos ((nil_iff p).2 h1) ?_
  by_cases h2:q.size=0
  ·exact Evt.pos ((nil_iff q).2 h2) (hj true (by simp [h1,h2]))
  ·exact Evt.neg (fun h=>h2 ((nil_iff q).1 h)) (Evt.bind hc (hj _ (by simp [h2])))
 ·exact Evt.neg (fun h=>h1 ((nil_iff p).1 h)) (Evt.bind hc (hj _ (by simp [h1])))
theorem app_nil_l {p q:ByteArray} (h:p.size=0):p ++ q=q:=by
 apply bytesOf_inj
 rw [bytesOf_append]
 have:bytesOf p = []:=List.length_eq_zero_iff.1 (by rw [bytesOf_length];exact h)
 rw [this,List.nil_append]
theorem app_nil_r {p q:ByteArray} (h:q.size=0):p ++ q=p:=by
 apply bytesOf_inj
 rw [bytesOf_append]
 have:bytesOf q = []:=List.length_eq_zero_iff.1 (by rw [bytesOf_length];exact h)
 rw [this,List.append_nil]
theorem impl_MovesOf_step (x y:Int) (hx:0≤x∧x≤255) (hy:0≤y∧y≤255) (l:List S46) (i:Nat) (hi:i < l.length) (hl:l.length=2) (e:rd_T46 l (i:Int)=⟨x,y⟩) (acc r:List S33) (ha:acc.length≤4) (hn:Evt (fun k=>impl_MovesOf.l0 k (acc ++ pairM x y) l (l.length:Int) ((i+1:Nat):Int)) r):Evt (fun k=>impl_MovesOf.l0 k acc l (l.length:Int) (i:Int)) r:=by
 refine Evt.step ?_
 simp only [impl_MovesOf.l0]
 rw [e,w64s (by omega)]
 unfold pairM at hn
 refine Evt.pos (by omega) (Evt.pos (by omega) (Evt.pos (by omega) (Evt.bindc (impl_isVariable_eq hx.1 hx.2) ?_)))
 by_cases hv:isVr x=true
 ·rw [if_pos hv] at hn
  refine Evt.pos hv (Evt.pos (by omega) (Evt.bindc rfl (Evt.bindc (impl_isVariable_eq hy.1 hy.2) ?_)))
  by_cases hw:isVr y=true
  ·rw [if_pos (by simp [hw])] at hn
   exact Evt.pos hw (Evt.pos (by simp;omega) (by simpa using hn))
  ·refine Evt.neg hw (Evt.bindc (impl_LetterIndex_eq hy.1 hy.2) ?_)
   by_cases hq:ltI y ≥ 0
   ·rw [if_pos (by simp [show 0≤ltI y from hq])] at hn
    exact Evt.pos hq (Evt.pos (by simp;omega) (by simpa using hn))
   ·rw [if_neg (by simp [hw];omega)] at hn
    exact Evt.neg hq (by simpa using hn)
 ·rw [if_neg hv] at hn
  exact Evt.neg hv (by simpa using hn)
theorem impl_MovesOf_ev (a b:ByteArray) (h:a.size+b.size≤9223372036854775807):Evt (fun k=>impl_MovesOf.f k a b) (movesB a b):=by
 simp only [impl_MovesOf.f]
 refine Evt.bind (impl_StripEquation_ev a b) ?_
 have hsz:=stripB_size a b
 unfold movesB
 generalize hp:(stripB a b).1=p at hsz ⊢
 generalize hq:(stripB a b).2=q at hsz ⊢
 have hc:=impl_IsClash_ev p q (by omega)
 have hj1t:(p.size=0∨q.size=0)→¬ (p.size=0∧q.size=0)→Evt (fun k=>impl_MovesOf.j1 k true p q) (if p.size=0 then [(⟨bt q 0,(⟨#[]⟩:ByteArray)⟩:S33)] else [⟨bt p 0,(⟨#[]⟩:ByteArray)⟩]):=by
  intro h1 h2
  refine Evt.step ?_
  simp only [impl_MovesOf.j1]
  refine Evt.pos trivial (Evt.pos (by omega) (Evt.pos za111 ((Evt.ret _).cast ?_)))
  by_cases h3:p.size=0
  ·rw [if_pos h3,app_nil_l h3]
  ·rw [if_neg h3,app_nil_r (by omega)]
 have hj1f:¬ p.size=0→¬ q.size=0→Evt (fun k=>impl_MovesOf.j1 k false p q) (pairM (bt p 0) (bt q 0) ++ pairM (bt q 0) (bt p 0)):=by
  intro h1 h2
  have l1:=pairM_len (bt p 0) (bt q 0)
  refine Evt.step ?_
  simp only [impl_MovesOf.j1]
  refine Evt.neg (by decide) (Evt.pos (by omega) (Evt.pos (by omega) (Evt.bindc rfl ?_)))
  refine impl_MovesOf_step (bt p 0) (bt q 0) ⟨bt0 _ _,bt255 _ _⟩ ⟨bt0 _ _,bt255 _ _⟩ [⟨bt p 0,bt q 0⟩,⟨bt q 0,bt p 0⟩] 0 (by simp) rfl rfl [] _ (by simp) ?_
  refine impl_MovesOf_step (bt q 0) (bt p 0) ⟨bt0 _ _,bt255 _ _⟩ ⟨bt0 _ _,bt255 _ _⟩ [⟨bt p 0,bt q 0⟩,⟨bt q 0,bt p 0⟩] 1 (by simp) rfl rfl _ _ (by simp;omega) ?_
  refine Evt.step ?_
  simp only [impl_MovesOf.l0]
  exact Evt.neg (by simp) ((Evt.ret _).cast (by simp))
 have hj:∀ x:Bool,(x=true ↔ ((p.size=0∧q.size=0)∨clashB p q=true))→Evt (fun k=>impl_MovesOf.j0 k x p q) (movesS p q):=by
  intro x hx
  refine Evt.step ?_
  simp only [impl_MovesOf.j0]
  unfold movesS
  by_cases h0:(p.size=0∧q.size=0)∨clashB p q=true
  ·rw [if_pos h0]
   exact Evt.pos (hx.2 h0) (Evt.ret _)
  ·rw [if_neg h0]
   refine Evt.neg (fun h=>h0 (hx.1 h)) ?_
   have hpq:¬ (p.size=0∧q.size=0):=fun h=>h0 (.inl h)
   by_cases h1:p.size=0
   ·have:=hj1t (.inl h1) hpq
    rw [if_pos h1] at this ⊢
    exact Evt.pos ((nil_iff p).2 h1) this
   ·rw [if_neg h1]
    refine Evt.neg (fun h=>h1 ((nil_iff p).1 h)) ?_
    by_cases h2:q.size=0
    ·have:=hj1t (.inr h2) hpq
     rw [if_neg h1] at this
     rw [if_pos h2,show (q.toList == ([]:List UInt8))=true by rw [(nil_iff q).2 h2];rfl]
     exact this
    ·have e:(q.toList == ([]:List UInt8))=false:=by
      rw [beq_eq_false_iff_ne]
      exact fun h=>h2 ((nil_iff q).1 h)
     rw [if_neg h2,e]
     exact hj1f h1 h2
 refine Evt.pos (by omega) ?_
 by_cases h1:p.size=0∧q.size=0
 ·refine Evt.pos ((nil_iff _).2 za111) (hj true (by simp [h1]))
 ·refine Evt.neg (fun h=>h1 ?_) (Evt.bind hc (hj _ (by simp only [h1,false_or])))
  have:=(nil_iff _).1 h
  rw [ByteArray.size_append] at this
  omega
end Go.Proofs.Ytgajchjnljekgaa.F
namespace Go.Proofs.Ytgajchjnljekgaa.F
open Go.RowKit YtgajchjnljekgaaW.PrintWords Ytgajchjnljekgaa.Pl Ytgajchjnljekgaa.A Ytgajchjnljekgaa.Ext
theorem impl_CountByte_ev (s:ByteArray) (c:Int) (hs:s.size≤9223372036854775807):Evt (fun k=>impl_CountByte.f k s c) ((cntB (bytesOf s) c:Nat):Int):=by
 have h:∀ d i n:Nat,i+d=s.size→n≤i→Evt (fun k=>impl_CountByte.l0 k s c (n:Int) (i:Int)) (((n+cntB ((bytesOf s).drop i) c:Nat)):Int):=by
  intro d
  induction d with
  | zero =>
   intro i n hi hn
   refine Evt.step ?_
   simp only [impl_CountByte.l0]
   rw [List.drop_of_length_le za92]
   exact Evt.neg (by omega) (Evt.const (by simp [cntB]))
  | succ d ih =>
   intro i n hi hn
   refine Evt.step ?_
   simp only [impl_CountByte.l0]
   have hl:i < (bytesOf s).length:=by rw [bytesOf_length];omega
   rw [List.drop_eq_getElem_cons hl,← bt_get s i hl,w64s (i:=i) (by omega),w64s (i:=n) (by omega)]
   refine Evt.pos (by omega) (Evt.pos (by omega) ?_)
   by_cases hc:bt s i=c
   ·exact Evt.pos hc ((ih (i+1) (n+1) (by omega) (by omega)).cast (by simp [cntB,hc];omega))
   ·exact Evt.neg hc ((ih (i+1) n (by omega) (by omega)).cast (by simp [cntB,hc]))
 have:=h s.size 0 0 (by omega) (by omega)
 simpa [impl_CountByte.f] using this
theorem cntB_le (s:ByteArray) (c:Int):cntB (bytesOf s) c≤s.size:=by
 have:=List.count_le_length (a:=c) (l:=bytesOf s)
 rw [bytesOf_length] at this
 exact this
theorem cntB_append (a b:ByteArray) (c:Int):cntB (bytesOf (a ++ b)) c=cntB (bytesOf a) c+cntB (bytesOf b) c:=by
 unfold cntB
 rw [bytesOf_append,List.count_append]
def twice (a b:ByteArray):Nat→Int→Bool
 | 0,_=>true
 | n+1,i=>decide (cntB (bytesOf a) (bt (⟨#[88,89,90]⟩:ByteArray) i)+cntB (bytesOf b) (bt (⟨#[88,89,90]⟩:ByteArray) i)≤2) && twice a b n (i+1)
def isQd (a b:ByteArray):Bool:=twice a b 3 0 && isEq a b
theorem spec_IsQuadratic_ev (a b:ByteArray) (h:a.size+b.size≤9223372036854775807):Evt (fun k=>spec_IsQuadratic.f k a b) (isQd a b):=by
 have hh:∀ (n:Nat) (i:Int),0≤i→i+n=3→Evt (fun k=>spec_IsQuadratic.l0 k i a b) (twice a b n i && isEq a b):=by
  intro n
  induction n with
  | zero =>
   intro i h0 hi
   refine Evt.step ?_
   simp only [spec_IsQuadratic.l0]
   exact Evt.neg (by omega) (Evt.bind (spec_IsEquation_ev a b (by omega) (by omega)) (Evt.const (by simp [twice])))
  | succ n ih =>
   intro i h0 hi
   have hw:wrap64 (i+1)=i+1:=w64 (by omega) (by omega)
   refine Evt.step ?_
   simp only [spec_IsQuadratic.l0,hw]
   refine Evt.pos (by omega) (Evt.pos (by omega) (Evt.bind (spec_CountByte_ev a _ (by omega)) (Evt.bind (spec_CountByte_ev b _ (by omega)) ?_)))
   have h1:=cntB_le a (bt (⟨#[88,89,90]⟩:ByteArray) i)
   have h2:=cntB_le b (bt (⟨#[88,89,90]⟩:ByteArray) i)
   rw [w64 (by omega) (by omega)]
   unfold twice
   by_cases hc:cntB (bytesOf a) (bt (⟨#[88,89,90]⟩:ByteArray) i)+cntB (bytesOf b) (bt (⟨#[88,89,90]⟩:ByteArray) i)≤2
   ·exact Evt.neg (by omega) ((ih (i+1) (by omega) (by omega)).cast (by simp [hc]))
   ·exact Evt.pos (by omega) (Evt.const (by simp [hc]))
 simpa [spec_IsQuadratic.f,isQd] using hh 3 0 (by omega) (by omega)
theorem impl_IsQuadratic_ev (a b:ByteArray) (h:a.size+b.size≤9223372036854775807):Evt (fun k=>impl_IsQuadratic.f k a b) (isQd a b):=by
 have hh:∀ (n:Nat) (i:Int),0≤i→i+n=3→Evt (fun k=>impl_IsQuadratic.l0 k i a b) (twice a b n i):=by
  intro n
  induction n with
  | zero =>
   intro i h0 hi
   refine Evt.step ?_
   simp only [impl_IsQuadratic.l0]
   exact Evt.neg (by omega) (Evt.const rfl)
  | succ n ih =>
   intro i h0 hi
   have hw:wrap64 (i+1)=i+1:=w64 (by omega) (by omega)
   refine Evt.step ?_
   simp only [impl_IsQuadratic.l0,hw]
   refine Evt.pos (by omega) (Evt.pos (by omega) (Evt.pos (by omega) (Evt.bind (impl_CountByte_ev (a ++ b) _ (by rw [size_append'];omega)) ?_)))
   have h1:=cntB_le a (bt (⟨#[88,89,90]⟩:ByteArray) i)
   have h2:=cntB_le b (bt (⟨#[88,89,90]⟩:ByteArray) i)
   rw [cntB_append]
   unfold twice
   by_cases hc:cntB (bytesOf a) (bt (⟨#[88,89,90]⟩:ByteArray) i)+cntB (bytesOf b) (bt (⟨#[88,89,90]⟩:ByteArray) i)≤2
   ·exact Evt.neg (by omega) ((ih (i+1) (by omega) (by omega)).cast (by simp [hc]))
   ·exact Evt.pos (by omega) (Evt.const (by simp [hc]))
 unfold isQd
 simp only [impl_IsQuadratic.f]
 refine Evt.bind (impl_IsEquation_ev a b (by omega) (by omega)) ?_
 cases he:isEq a b with
 | true=>exact Evt.pos rfl ((hh 3 0 (by omega) (by omega)).cast (by simp))
 | false=>exact Evt.neg (by simp) (Evt.const (by simp))
theorem bytesOf_strOf (s:ByteArray):strOfNums (bytesOf s)=s:=by
 apply bytesOf_inj
 unfold strOfNums bytesOf
 simp
theorem one_byte (s:ByteArray) (i:Nat) (h:i < s.size):bytesOf (s.extract i (i+1)) = [bt s (i:Int)]:=by
 have hl:i < (bytesOf s).length:=by rw [bytesOf_length];exact h
 rw [bytesOf_extract,List.drop_eq_getElem_cons hl,bt_get s i hl,show i+1 - i=1 by omega]
 rfl
theorem size_le_of (s:ByteArray):s.size=(bytesOf s).length:=(bytesOf_length s).symm
theorem repl_len (G:Int→ByteArray × Bool) (l acc:List Int) (h:acc.length≤1048576):(repl G l acc).length≤1048576:=by
 induction l generalizing acc with
 | nil=>exact h
 | cons c l ih =>
  unfold repl
  by_cases h2:(acc ++ (if (G c).2=true then bytesOf (G c).1 else [c])).length > 1048576
  ·rw [if_pos h2]
   exact Nat.zero_le _
  ·rw [if_neg h2]
   exact ih _ (by omega)
theorem strOfNums_size (l:List Int):(strOfNums l).size=l.length:=by
 unfold strOfNums
 show (List.toArray _).size=_
 simp
theorem replB_size (G:Int→ByteArray × Bool) (s:ByteArray):(replB G s).size≤1048576:=by
 have:=repl_len G (bytesOf s) [] (by simp)
 unfold replB
 rw [strOfNums_size]
 exact this
theorem impl_ReplaceVar_eq (s b:ByteArray) (c:Int) (hs:s.size≤9223372036854775807) (hb:b.size≤1048576):impl_ReplaceVar.f s c b=some (replB (fun x=>(b,x == c)) s):=by
 unfold impl_ReplaceVar.f
 rw [if_pos ⟨hs,hb⟩]
theorem spec_ReplaceVar_ev (s b:ByteArray) (c:Int) (hs:s.size≤9223372036854775807) (hb:b.size≤1048576):Evt (fun k=>spec_ReplaceVar.f k s c b) (replB (fun x=>(b,x == c)) s):=by
 have h:∀ (d i:Nat) (acc:ByteArray),i+d=s.size→acc.size≤1048576→Evt (fun k=>spec_ReplaceVar.l0 k s c b acc (i:Int)) (strOfNums (repl (fun x=>(b,x == c)) ((bytesOf s).drop i) (bytesOf acc))):=by
  intro d
  induction d with
  | zero =>
   intro i acc hi ha
   refine Evt.step ?_
   simp only [spec_ReplaceVar.l0]
   refine Evt.neg (by omega) (Evt.const ?_)
   rw [List.drop_of_length_le za92]
   exact congrArg some (bytesOf_strOf acc).symm
  | succ d ih =>
   intro i acc hi ha
   have hl:i < (bytesOf s).length:=by rw [bytesOf_length];omega
   have hx:((s.extract i (i+1)).size:Nat)=1:=by rw [size_le_of,one_byte s i (by omega)];rfl
   refine Evt.step ?_
   simp only [spec_ReplaceVar.l0]
   rw [w64s (by omega),Int.toNat_natCast,Int.toNat_natCast]
   rw [List.drop_eq_getElem_cons hl,← bt_get s i hl]
   refine Evt.pos (by omega) (Evt.pos (by omega) ?_)
   by_cases hc:bt s i=c
   ·have e:(if (bt s (i:Int) == c)=true then bytesOf b else [bt s (i:Int)])=bytesOf b:=by rw [hc];simp
    refine Evt.pos hc (Evt.pos (by omega) ?_)
    by_cases hbig:((acc ++ b).size:Int) > 1048576
    ·refine Evt.pos hbig (Evt.const ?_)
     unfold repl
     simp only [e]
     rw [if_pos (by rw [← bytesOf_append,bytesOf_length];omega)]
     rfl
    ·refine Evt.neg hbig ((ih (i+1) (acc ++ b) (by omega) (by omega)).cast ?_)
     rw [bytesOf_append]
     conv=>rhs;unfold repl
     simp only [e]
     rw [if_neg (by rw [← bytesOf_append,bytesOf_length];omega)]
   ·have e:(if (bt s (i:Int) == c)=true then bytesOf b else [bt s (i:Int)]) = [bt s (i:Int)]:=by simp [hc]
    refine Evt.neg hc (Evt.pos (by omega) (Evt.pos (by omega) (Evt.pos (by omega) ?_)))
    by_cases hbig:((acc ++ s.extract i (i+1)).size:Int) > 1048576
    ·refine Evt.pos hbig (Evt.const ?_)
     unfold repl
     simp only [e]
     rw [if_pos (by rw [← one_byte s i (by omega),← bytesOf_append,bytesOf_length];omega)]
     rfl
    ·refine Evt.neg hbig ((ih (i+1) (acc ++ s.extract i (i+1)) (by omega) (by omega)).cast ?_)
     rw [bytesOf_append,one_byte s i (by omega)]
     conv=>rhs;unfold repl
     simp only [e]
     rw [if_neg (by rw [← one_byte s i (by omega),← bytesOf_append,bytesOf_length];omega)]
 have:=h s.size 0 (⟨#[]⟩:ByteArray) (by omega) (by decide)
 rw [show bytesOf (⟨#[]⟩:ByteArray) = [] from rfl] at this
 simpa [spec_ReplaceVar.f,replB] using this
end Go.Proofs.Ytgajchjnljekgaa.F
namespace Go.Proofs.Ytgajchjnljekgaa.F
open Go Go.RowKit YtgajchjnljekgaaW.PrintWords Ytgajchjnljekgaa.Pl Ytgajchjnljekgaa.A Ytgajchjnljekgaa.Ext
def rs (x:Int) (w l:List Int):List Int:=l.flatMap fun c=>if c=x then w else [c]
theorem rs_cons (x:Int) (w:List Int) (c:Int) (l:List Int):rs x w (c :: l)=(if c=x then w else [c]) ++ rs x w l:=by simp [rs]
theorem rs_append (x:Int) (w l r:List Int):rs x w (l ++ r)=rs x w l ++ rs x w r:=by simp [rs]
def stL (l r:List Int):List Int × List Int:=(l.drop (cp l r),r.drop (cp l r))
theorem cp_app (c p q:List Int):cp (c ++ p) (c ++ q)=c.length+cp p q:=by
 induction c with
 | nil=>simp
 | cons x c ih=>simp only [List.cons_append,List.length_cons];rw [cp,if_pos rfl,ih];omega
theorem stL_app (c p q:List Int):stL (c ++ p) (c ++ q)=stL p q:=by
 unfold stL
 rw [cp_app]
 simp
theorem stL_common (l r:List Int):∃ c,l=c ++ (stL l r).1∧r=c ++ (stL l r).2:=by
 induction l generalizing r with
 | nil=>exact ⟨[],rfl,by simp [stL,cp_nil_l]⟩
 | cons x l ih =>
  cases r with
  | nil=>exact ⟨[],by simp [stL,cp_nil_r],rfl⟩
  | cons y r =>
   by_cases h:x=y
   ·subst h
    obtain ⟨c,h1,h2⟩:=ih r
    have e:stL (x :: l) (x :: r)=stL l r:=stL_app [x] l r
    rw [e]
    exact ⟨x :: c,by rw [List.cons_append,← h1],by rw [List.cons_append,← h2]⟩
   ·have e:cp (x :: l) (y :: r)=0:=by rw [cp,if_neg h]
    exact ⟨[],by simp [stL,e],by simp [stL,e]⟩
theorem stL_ne (l r p q:List Int) (x y:Int) (h:stL l r=(x :: p,y :: q)):x ≠ y:=by
 induction l generalizing r with
 | nil=>simp [stL,cp_nil_l] at h
 | cons a l ih =>
  cases r with
  | nil=>simp [stL,cp_nil_r] at h
  | cons b r =>
   by_cases hab:a=b
   ·subst hab
    rw [show stL (a :: l) (a :: r)=stL l r from stL_app [a] l r] at h
    exact ih r h
   ·have e:cp (a :: l) (b :: r)=0:=by rw [cp,if_neg hab]
    simp [stL,e] at h
    rw [← h.1.1,← h.2.1]
    exact hab
theorem cnt_drop (l:List Int) (n:Nat) (v:Int):(l.drop n).count v≤l.count v:=(List.drop_sublist n l).count_le v
theorem rs_len (x:Int) (w l:List Int):(rs x w l).length+l.count x=l.length+l.count x * w.length:=by
 induction l with
 | nil=>simp [rs]
 | cons c l ih =>
  rw [rs_cons,List.length_append,List.length_cons,List.count_cons]
  by_cases h:c=x
  ·rw [if_pos h,if_pos (by simpa using h),Nat.add_mul];omega
  ·rw [if_neg h,if_neg (by simpa using h)];simp;omega
theorem rs_cnt (x:Int) (w l:List Int) (v:Int):(rs x w l).count v=(if v=x then 0 else l.count v)+l.count x * w.count v:=by
 induction l with
 | nil=>simp [rs]
 | cons c l ih =>
  rw [rs_cons,List.count_append,ih,List.count_cons,List.count_cons]
  by_cases h:c=x
  ·subst h
   rw [if_pos rfl,if_pos (show (c == c)=true by simp),Nat.add_mul]
   by_cases hv:v=c
   ·simp only [if_pos hv];omega
   ·have e:¬ (c == v)=true:=by simpa using fun e=>hv e.symm
    simp only [if_neg hv,if_neg e];omega
  ·rw [if_neg h,if_neg (show ¬ (c == x)=true by simpa using h),Nat.add_zero]
   by_cases hv:v=x
   ·have e:([c]:List Int).count v=0:=by rw [hv,List.count_eq_zero];simpa using fun e=>h e.symm
    simp only [if_pos hv,e];omega
   ·have e:([c]:List Int).count v=if (c == v)=true then 1 else 0:=by rw [List.count_cons,List.count_nil,Nat.zero_add]
    simp only [if_neg hv,e];omega
def isMv (x:Int) (w p q:List Int):Prop:=w = []∨∃ y p' q',w = [y,x]∧x ≠ y∧((p=x :: p'∧q=y :: q')∨(p=y :: p'∧q=x :: q'))
def tw (l r:List Int):Prop:=∀ v:Int,88≤v→v≤90→l.count v+r.count v≤2
theorem tw_stL {l r:List Int} (h:tw l r):tw (stL l r).1 (stL l r).2:=fun v h1 h2=>by
 have:=h v h1 h2
 have e1:=cnt_drop l (cp l r) v
 have e2:=cnt_drop r (cp l r) v
 show (l.drop _).count v+(r.drop _).count v≤2
 omega
theorem stL_len (l r:List Int):(stL l r).1.length≤l.length∧(stL l r).2.length≤r.length:=by
 unfold stL
 simp
theorem mv_two {x y:Int} {p' q':List Int} (hx:88≤x) (hx':x≤90) (hne:x ≠ y) (ht:tw (x :: p') (y :: q')) :
  (x :: rs x [y,x] p').length+(rs x [y,x] q').length≤(x :: p').length+(y :: q').length∧tw (x :: rs x [y,x] p') (rs x [y,x] q'):=by
 have hc:=ht x hx hx'
 rw [List.count_cons_self,List.count_cons_of_ne hne.symm] at hc
 have l1:=rs_len x [y,x] p'
 have l2:=rs_len x [y,x] q'
 simp only [List.length_cons,List.length_nil] at l1 l2 ⊢
 refine ⟨by omega,fun v h1 h2=>?_⟩
 have hv:=ht v h1 h2
 have c1:=rs_cnt x [y,x] p' v
 have c2:=rs_cnt x [y,x] q' v
 by_cases hvx:v=x
 ·subst hvx
  rw [List.count_cons_self]
  rw [if_pos rfl,List.count_cons_of_ne hne.symm,List.count_cons_self,List.count_nil] at c1 c2
  omega
 ·rw [List.count_cons_of_ne (fun e=>hvx e.symm)]
  rw [if_neg hvx] at c1 c2
  rw [List.count_cons_of_ne (fun e=>hvx e.symm)] at hv
  by_cases hvy:v=y
  ·subst hvy
   rw [List.count_cons_self] at hv
   rw [List.count_cons_self,List.count_cons_of_ne hne,List.count_nil] at c1 c2
   omega
  ·rw [List.count_cons_of_ne (fun e=>hvy e.symm)] at hv
   rw [List.count_cons_of_ne (fun e=>hvy e.symm),List.count_cons_of_ne (fun e=>hvx e.symm),List.count_nil] at c1 c2
   omega
theorem mv_ok {x:Int} {w p q:List Int} (hx:88≤x) (hx':x≤90) (ht:tw p q) (hm:isMv x w p q) :
  (stL (rs x w p) (rs x w q)).1.length+(stL (rs x w p) (rs x w q)).2.length≤p.length+q.length∧tw (stL (rs x w p) (rs x w q)).1 (stL (rs x w p) (rs x w q)).2:=by
 rcases hm with rfl|⟨y,p',q',rfl,hne,⟨rfl,rfl⟩|⟨rfl,rfl⟩⟩
 ·have l1:=rs_len x [] p
  have l2:=rs_len x [] q
  have l3:=stL_len (rs x [] p) (rs x [] q)
  simp only [List.length_nil,Nat.mul_zero] at l1 l2
  refine ⟨by omega,tw_stL fun v h1 h2=>?_⟩
  have:=ht v h1 h2
  rw [rs_cnt,rs_cnt,List.count_nil]
  split <;> omega
 ·have h:=mv_two hx hx' hne ht
  have e:stL (rs x [y,x] (x :: p')) (rs x [y,x] (y :: q'))=stL (x :: rs x [y,x] p') (rs x [y,x] q'):=by
   rw [rs_cons,rs_cons,if_pos rfl,if_neg hne.symm]
   exact stL_app [y] _ _
  rw [e]
  have l3:=stL_len (x :: rs x [y,x] p') (rs x [y,x] q')
  exact ⟨by omega,tw_stL h.2⟩
 ·have ht':tw (x :: q') (y :: p'):=fun v h1 h2=>by have:=ht v h1 h2;omega
  have h:=mv_two hx hx' hne ht'
  have e:stL (rs x [y,x] (y :: p')) (rs x [y,x] (x :: q'))=stL (rs x [y,x] p') (x :: rs x [y,x] q'):=by
   rw [rs_cons,rs_cons,if_pos rfl,if_neg hne.symm]
   exact stL_app [y] _ _
  rw [e]
  have l3:=stL_len (rs x [y,x] p') (x :: rs x [y,x] q')
  exact ⟨by omega,tw_stL fun v h1 h2=>by have:=h.2 v h1 h2;omega⟩
theorem mv_all {x:Int} {w a b:List Int} (hx:88≤x) (hx':x≤90) (ht:tw a b) (hm:isMv x w (stL a b).1 (stL a b).2) :
  (stL (rs x w a) (rs x w b)).1.length+(stL (rs x w a) (rs x w b)).2.length≤(stL a b).1.length+(stL a b).2.length∧tw (stL (rs x w a) (rs x w b)).1 (stL (rs x w a) (rs x w b)).2:=by
 obtain ⟨c,h1,h2⟩:=stL_common a b
 have ht':=tw_stL ht
 generalize (stL a b).1=p at *
 generalize (stL a b).2=q at *
 subst h1;subst h2
 rw [rs_append,rs_append,stL_app]
 exact mv_ok hx hx' ht' hm
theorem bytesOf_nums:∀ l:List Int,(∀ c ∈ l,0≤c∧c≤255)→bytesOf (strOfNums l)=l:=by
 intro l h
 unfold bytesOf strOfNums
 simp only [List.map_map]
 conv=>rhs;rw [← List.map_id l]
 apply List.map_congr_left
 intro c hc
 have:=h c hc
 simp
 omega
theorem repl_rs (x:Int) (w:ByteArray) (l:List Int):∀ acc:List Int,acc.length+(rs x (bytesOf w) l).length≤1048576→repl (fun c=>(w,c == x)) l acc=acc ++ rs x (bytesOf w) l:=by
 induction l with
 | nil=>intro acc _;simp [repl,rs]
 | cons c l ih =>
  intro acc h
  have e:(if (c == x)=true then bytesOf w else [c])=(if c=x then bytesOf w else [c]):=by simp
  rw [rs_cons,List.length_append] at h
  unfold repl
  simp only [e]
  rw [if_neg (by rw [List.length_append];omega),ih _ (by rw [List.length_append];omega),rs_cons,List.append_assoc]
theorem rs_bytes (x:Int) (w:ByteArray) (l:List Int) (hl:∀ c ∈ l,0≤c∧c≤255):∀ c ∈ rs x (bytesOf w) l,0≤c∧c≤255:=by
 intro c hc
 obtain ⟨y,hy,hc⟩:=List.mem_flatMap.1 hc
 split at hc
 ·exact mem_bytes w hc
 ·obtain rfl:=List.mem_singleton.1 hc;exact hl _ hy
theorem replB_rs (x:Int) (w s:ByteArray) (h:(rs x (bytesOf w) (bytesOf s)).length≤1048576):bytesOf (replB (fun c=>(w,c == x)) s)=rs x (bytesOf w) (bytesOf s):=by
 unfold replB
 rw [repl_rs x w (bytesOf s) [] (by simpa using h),List.nil_append]
 exact bytesOf_nums _ (rs_bytes x w _ fun c hc=>mem_bytes s hc)
theorem stripB_bytes (a b:ByteArray):bytesOf (stripB a b).1=(stL (bytesOf a) (bytesOf b)).1∧bytesOf (stripB a b).2=(stL (bytesOf a) (bytesOf b)).2:=by
 unfold stripB stL
 exact ⟨bytesOf_tail _ _,bytesOf_tail _ _⟩
theorem bytes_cons (p:ByteArray) (h:¬ p.size=0):∃ l,bytesOf p=bt p 0 :: l:=by
 cases e:bytesOf p with
 | nil=>exact absurd (by rw [← bytesOf_length,e];rfl) h
 | cons c l =>
  have hl:0 < (bytesOf p).length:=by rw [e];simp
  have:=bt_get p 0 hl
  simp only [e] at this
  exact ⟨l,by rw [show bt p 0=c from this]⟩
theorem isVr_iff (c:Int):isVr c=true ↔ 88≤c∧c≤90:=by simp [isVr]
theorem pairM_mv {x y:Int} {p' q':List Int} (hx:0≤x∧x≤255) (hy:0≤y∧y≤255) (hne:x ≠ y) (m:S33) (h:m ∈ pairM x y) :
  (88≤m.f0∧m.f0≤90)∧m.f1.size≤2∧isMv m.f0 (bytesOf m.f1) (x :: p') (y :: q')∧isMv m.f0 (bytesOf m.f1) (y :: q') (x :: p'):=by
 unfold pairM at h
 by_cases hv:isVr x=true
 ·rw [if_pos hv] at h
  rcases List.mem_cons.1 h with rfl|h
  ·exact ⟨(isVr_iff x).1 hv,Nat.zero_le _,.inl rfl,.inl rfl⟩
  ·split at h
   ·obtain rfl:=List.mem_singleton.1 h
    have e:bytesOf (strOfNums [y,x]) = [y,x]:=bytesOf_nums _ (by intro c hc;simp only [List.mem_cons,List.not_mem_nil,or_false] at hc;rcases hc with rfl|rfl <;> assumption)
    have hz:(strOfNums [y,x]).size≤2:=by rw [strOfNums_size];exact Nat.le_refl _
    refine ⟨(isVr_iff x).1 hv,hz,?_,?_⟩
    ·exact .inr ⟨y,p',q',e,hne,.inl ⟨rfl,rfl⟩⟩
    ·exact .inr ⟨y,q',p',e,hne,.inr ⟨rfl,rfl⟩⟩
   ·cases h
 ·rw [if_neg hv] at h;cases h
theorem moves_mv (a b:ByteArray) (m:S33) (h:m ∈ movesB a b):(88≤m.f0∧m.f0≤90)∧m.f1.size≤2∧isMv m.f0 (bytesOf m.f1) (stL (bytesOf a) (bytesOf b)).1 (stL (bytesOf a) (bytesOf b)).2:=by
 obtain ⟨e1,e2⟩:=stripB_bytes a b
 unfold movesB movesS at h
 rw [← e1,← e2]
 have hst:stL (bytesOf a) (bytesOf b)=(bytesOf (stripB a b).1,bytesOf (stripB a b).2):=by rw [e1,e2]
 clear e1 e2
 have hcl:clashB (stripB a b).1 (stripB a b).2=clashB (stripB a b).1 (stripB a b).2:=rfl
 have hs2:stL (bytesOf (stripB a b).1) (bytesOf (stripB a b).2)=(bytesOf (stripB a b).1,bytesOf (stripB a b).2):=by
  obtain ⟨c,h1,h2⟩:=stL_common (bytesOf a) (bytesOf b)
  rw [hst] at h1 h2
  have:=hst
  rw [h1,h2,stL_app] at this
  exact this
 generalize (stripB a b).1=p at *
 generalize (stripB a b).2=q at *
 have hcs:clashB p q=clashS p q:=by
  obtain ⟨f1,f2⟩:=stripB_bytes p q
  rw [hs2] at f1 f2
  unfold clashB
  rw [bytesOf_inj f1,bytesOf_inj f2]
 rw [hcs] at h
 by_cases h0:(p.size=0∧q.size=0)∨clashS p q=true
 ·rw [if_pos h0] at h;cases h
 rw [if_neg h0] at h
 have h0a:¬ (p.size=0∧q.size=0):=fun z=>h0 (.inl z)
 have h0b:¬ clashS p q=true:=fun z=>h0 (.inr z)
 have hall:p.size=0∨q.size=0→∀ c ∈ bytesOf p ++ bytesOf q,isVr c=true:=by
  intro hz
  unfold clashS at h0b
  rw [if_pos hz,bytesOf_append] at h0b
  simp only [Bool.not_eq_true,Bool.not_eq_false,Bool.not_eq_eq_eq_not,List.all_append,Bool.and_eq_true,List.all_eq_true,Bool.not_true,Bool.not_false] at h0b
  intro c hc
  rcases List.mem_append.1 hc with h|h
  ·exact h0b.1 c h
  ·exact h0b.2 c h
 by_cases h1:p.size=0
 ·rw [if_pos h1] at h
  obtain rfl:=List.mem_singleton.1 h
  obtain ⟨l,hl⟩:=bytes_cons q (by omega)
  exact ⟨(isVr_iff _).1 (hall (.inl h1) _ (by rw [hl];simp)),Nat.zero_le _,.inl rfl⟩
 rw [if_neg h1] at h
 by_cases h2:q.size=0
 ·rw [if_pos h2] at h
  obtain rfl:=List.mem_singleton.1 h
  obtain ⟨l,hl⟩:=bytes_cons p h1
  exact ⟨(isVr_iff _).1 (hall (.inr h2) _ (by rw [hl];simp)),Nat.zero_le _,.inl rfl⟩
 rw [if_neg h2] at h
 obtain ⟨l,hl⟩:=bytes_cons p h1
 obtain ⟨r,hr⟩:=bytes_cons q h2
 rw [hl,hr] at hst ⊢
 have hne:=stL_ne _ _ _ _ _ _ hst
 rcases List.mem_append.1 h with h|h
 ·obtain ⟨g1,g2,g3,_⟩:=pairM_mv ⟨bt0 _ _,bt255 _ _⟩ ⟨bt0 _ _,bt255 _ _⟩ hne m h
  exact ⟨g1,g2,g3⟩
 ·obtain ⟨g1,g2,_,g4⟩:=pairM_mv ⟨bt0 _ _,bt255 _ _⟩ ⟨bt0 _ _,bt255 _ _⟩ hne.symm m h
  exact ⟨g1,g2,g4⟩
def applyB (a b:ByteArray) (m:Int) (s:ByteArray):ByteArray × ByteArray:=stripB (replB (fun x=>(s,x == m)) a) (replB (fun x=>(s,x == m)) b)
theorem isQd_tw {a b:ByteArray} (h:isQd a b=true):tw (bytesOf a) (bytesOf b)∧a.size≤24∧b.size≤24:=by
 simp only [isQd,isEq,Bool.and_eq_true,decide_eq_true_eq,twice] at h
 obtain ⟨⟨h0,h1,h2,_⟩,⟨_,h3⟩,_,h4⟩:=h
 refine ⟨fun v hv hv' => ?_,h3,h4⟩
 have e:v=88∨v=89∨v=90:=by omega
 rcases e with rfl|rfl|rfl
 ·exact h0
 ·exact h1
 ·exact h2
theorem quad_move (a b:ByteArray) (h:isQd a b=true) (m:S33) (hm:m ∈ movesB a b) :
  (applyB a b m.f0 m.f1).1.size+(applyB a b m.f0 m.f1).2.size≤(stripB a b).1.size+(stripB a b).2.size∧∀ v:Int,88≤v→v≤90→cntB (bytesOf ((applyB a b m.f0 m.f1).1 ++ (applyB a b m.f0 m.f1).2)) v≤2:=by
 obtain ⟨ht,ha,hb⟩:=isQd_tw h
 obtain ⟨hv,hs,hi⟩:=moves_mv a b m hm
 have la:(bytesOf a).length≤24:=by rw [bytesOf_length];exact ha
 have lb:(bytesOf b).length≤24:=by rw [bytesOf_length];exact hb
 have rl:∀ l:List Int,l.length≤24→(rs m.f0 (bytesOf m.f1) l).length≤1048576:=by
  intro l hl
  have h1:=rs_len m.f0 (bytesOf m.f1) l
  have h2:=List.count_le_length (a:=m.f0) (l:=l)
  rw [bytesOf_length] at h1
  have h3:l.count m.f0 * m.f1.size≤24 * 2:=Nat.mul_le_mul (by omega) hs
  omega
 have ra:=replB_rs m.f0 m.f1 a (rl _ la)
 have rb:=replB_rs m.f0 m.f1 b (rl _ lb)
 obtain ⟨f1,f2⟩:=stripB_bytes (replB (fun x=>(m.f1,x == m.f0)) a) (replB (fun x=>(m.f1,x == m.f0)) b)
 rw [ra,rb] at f1 f2
 obtain ⟨g1,g2⟩:=stripB_bytes a b
 obtain ⟨k1,k2⟩:=mv_all hv.1 hv.2 ht hi
 unfold applyB
 refine ⟨?_,fun v hv1 hv2=>?_⟩
 ·rw [← f1,← f2,← g1,← g2] at k1
  simpa only [bytesOf_length] using k1
 ·have:=k2 v hv1 hv2
  rw [cntB_append]
  unfold cntB
  rw [f1,f2]
  exact this
theorem l12Draw_ok {b:List Int} {i:Int} (h:Int) (hc:Cu b i):∃ p q i' h',Evt (fun k=>spec_l12Draw.f k b i h) (p,q,i',h')∧p.size≤5∧q.size≤1048576∧Cu b i':=by
 obtain ⟨p,i1,h1,e1,s1,c1⟩:=l8Draw_ok h 5 (⟨#[88,89,90]⟩:ByteArray) hc (by omega) (by decide)
 have l1:∀ d j:Nat,j+d=3→∀ (q:ByteArray) (i h:Int),q.size≤1048576→Cu b i→∃ q' i' h',Evt (fun k=>spec_l12Draw.l1 k p q (j:Int) b i h) (p,q',i',h')∧q'.size≤1048576∧Cu b i':=by
  intro d
  induction d with
  | zero =>
   intro j hj q i h hq hc
   refine ⟨q,i,h,Evt.step ?_,hq,hc⟩
   simp only [spec_l12Draw.l1]
   exact Evt.neg (by omega) (Evt.ret _)
  | succ d ih =>
   intro j hj q i h hq hc
   by_cases hx:((cntB (bytesOf (p ++ q)) (bt (⟨#[88,89,90]⟩:ByteArray) (j:Int)):Nat):Int) > 2
   ·obtain ⟨q',i',h',e,k1,k2⟩:=ih (j+1) (by omega) (replB (fun x=>((⟨#[97]⟩:ByteArray),x == bt (⟨#[88,89,90]⟩:ByteArray) (j:Int))) q) i h (replB_size _ _) hc
    refine ⟨q',i',h',Evt.step ?_,k1,k2⟩
    simp only [spec_l12Draw.l1]
    rw [w64s (by omega)]
    exact Evt.pos (by omega) (Evt.pos (by omega) (Evt.pos (by omega) (Evt.bind (spec_CountByte_ev _ _ za111) (Evt.pos hx (Evt.bind (spec_ReplaceVar_ev q _ _ (by omega) (by decide)) e)))))
   ·obtain ⟨q',i',h',e,k1,k2⟩:=ih (j+1) (by omega) q i h hq hc
    refine ⟨q',i',h',Evt.step ?_,k1,k2⟩
    simp only [spec_l12Draw.l1]
    rw [w64s (by omega)]
    exact Evt.pos (by omega) (Evt.pos (by omega) (Evt.pos (by omega) (Evt.bind (spec_CountByte_ev _ _ za111) (Evt.neg hx e))))
 have l0:∀ d j:Nat,j+d=3→∀ (v:ByteArray) (i h:Int),v.size≤j→Cu b i→∃ q' i' h',Evt (fun k=>spec_l12Draw.l0 k p v (j:Int) b i h) (p,q',i',h')∧q'.size≤1048576∧Cu b i':=by
  intro d
  induction d with
  | zero =>
   intro j hj v i h hv hc
   obtain ⟨q,i2,h2,e2,s2,c2⟩:=l8Draw_ok h 5 v hc (by omega) (by omega)
   obtain ⟨q',i',h',e,k1,k2⟩:=l1 3 0 (by omega) q i2 h2 (by omega) c2
   refine ⟨q',i',h',Evt.step ?_,k1,k2⟩
   simp only [spec_l12Draw.l0]
   exact Evt.neg (by omega) (Evt.bind e2 e)
  | succ d ih =>
   intro j hj v i h hv hc
   by_cases hx:((cntB (bytesOf p) (bt (⟨#[88,89,90]⟩:ByteArray) (j:Int)):Nat):Int) < 2
   ·have hz:=ext_size (j:Int) (by omega) (by omega)
    obtain ⟨q',i',h',e,k1,k2⟩:=ih (j+1) (by omega) (v ++ ((⟨#[88,89,90]⟩:ByteArray).extract (j:Int).toNat (((j+1:Nat):Int)).toNat)) i h (by rw [ByteArray.size_append,show (((j+1:Nat):Int))=(j:Int)+1 by omega,hz];omega) hc
    refine ⟨q',i',h',Evt.step ?_,k1,k2⟩
    simp only [spec_l12Draw.l0]
    rw [w64s (by omega)]
    exact Evt.pos (by omega) (Evt.pos (by omega) (Evt.bind (spec_CountByte_ev _ _ (by omega)) (Evt.pos hx (Evt.pos (by omega) (Evt.pos (by omega) (Evt.pos (by rw [show (((j+1:Nat):Int))=(j:Int)+1 by omega,hz];omega) e))))))
   ·obtain ⟨q',i',h',e,k1,k2⟩:=ih (j+1) (by omega) v i h (by omega) hc
    refine ⟨q',i',h',Evt.step ?_,k1,k2⟩
    simp only [spec_l12Draw.l0]
    rw [w64s (by omega)]
    exact Evt.pos (by omega) (Evt.pos (by omega) (Evt.bind (spec_CountByte_ev _ _ (by omega)) (Evt.neg hx e)))
 obtain ⟨q,i2,h2,e2,s2,c2⟩:=l0 3 0 (by omega) (⟨#[]⟩:ByteArray) i1 h1 (Nat.le_refl _) c1
 refine ⟨p,q,i2,h2,?_,s1,s2,c2⟩
 simp only [spec_l12Draw.f]
 exact Evt.bind e1 e2
theorem l12Bent_ok {b:List Int} {i:Int} (h:Int) (hc:Cu b i):∃ p q i' h',Evt (fun k=>spec_l12Bent.f k b i h) (p,q,i',h')∧p.size≤40∧q.size≤1048580∧Cu b i':=by
 obtain ⟨p,q,i1,h1,e1,s1,s2,c1⟩:=l12Draw_ok h hc
 obtain ⟨o,i2,h2,e2,_,_,c2⟩:=l1Below_ok h1 10 c1 za96 za96
 simp only [spec_l12Bent.f]
 have z35:(⟨#[35]⟩:ByteArray).size=1:=rfl
 by_cases z0:o=0
 ·obtain ⟨u,i3,h3,e3,s3,c3⟩:=l8Draw_ok h2 3 (⟨#[88,89,90]⟩:ByteArray) c2 za96 (by decide)
  exact ⟨_,_,_,_,Evt.bind e1 (Evt.bindc e2 (Evt.pos z0 (Evt.pos za96 (Evt.bind e3 (Evt.pos (by (try dsimp only);rw [ByteArray.size_append,z35];omega) (Evt.ret _)))))),by (try dsimp only);rw [ByteArray.size_append,ByteArray.size_append,z35];omega,za96,c3⟩
 by_cases z1:o=1
 ·obtain ⟨u,i3,h3,e3,s3,c3⟩:=l8Any_ok h2 c2
  exact ⟨_,_,_,_,Evt.bind e1 (Evt.bindc e2 (Evt.neg z0 (Evt.pos z1 (Evt.bind e3 (Evt.ret _))))),za96,za96,c3⟩
 by_cases z2:o=2
 ·refine ⟨_,_,_,_,Evt.bind e1 (Evt.bindc e2 (Evt.neg z0 (Evt.neg z1 (Evt.pos z2 (Evt.pos za96 (Evt.ret _)))))),?_,za96,c2⟩
  (try dsimp only)
  rw [ByteArray.size_append]
  show 24+p.size≤40
  omega
 by_cases z3:o=3
 ·refine ⟨_,_,_,_,Evt.bind e1 (Evt.bindc e2 (Evt.neg z0 (Evt.neg z1 (Evt.neg z2 (Evt.pos z3 (Evt.pos za96 (Evt.pos za96 (Evt.ret _)))))))),?_,?_,c2⟩
  ·(try dsimp only)
   rw [ByteArray.size_append,z35];omega
  ·(try dsimp only)
   rw [ByteArray.size_append]
   show 2+q.size≤1048580
   omega
 ·exact ⟨_,_,_,_,Evt.bind e1 (Evt.bindc e2 (Evt.neg z0 (Evt.neg z1 (Evt.neg z2 (Evt.neg z3 (Evt.ret _)))))),za96,za96,c2⟩
theorem drawMovesOf_ok (l:List Int) (hl:l.length≤1048576):∃ p q,Evt (fun k=>spec_DrawMovesOf.f k l) (p,q)∧p.size≤40∧q.size≤1048580:=by
 obtain ⟨h,e0⟩:=l1New_ok l hl
 obtain ⟨p,q,i1,h1,e1,s1,s2,_⟩:=l12Bent_ok h (cu0 hl)
 refine ⟨p,q,?_,s1,s2⟩
 simp only [spec_DrawMovesOf.f]
 exact Evt.bind e0 (Evt.bind e1 (Evt.ret _))
theorem mv_at (l:List S33) (i:Int) (h0:0≤i) (h:i < l.length):rd_T33 l i ∈ l:=by
 have hx:i.toNat < l.length:=by omega
 unfold rd_T33
 rw [List.getD_eq_getElem?_getD,List.getElem?_eq_getElem hx]
 exact List.getElem_mem hx
theorem drawApplyMove_ok (l:List Int) (hl:l.length≤1048576):∃ p q m s,Evt (fun k=>spec_DrawApplyMove.f k l) (p,q,m,s)∧p.size≤40∧q.size≤1048580∧s.size≤2:=by
 obtain ⟨h,e0⟩:=l1New_ok l hl
 obtain ⟨p,q,i1,h1,e1,s1,s2,c1⟩:=l12Bent_ok h (cu0 hl)
 have hm:=spec_MovesOf_ev p q (by omega)
 have l4:=movesB_len p q
 have jt:∀ {i h:Int},Cu l i→∃ m s,Evt (fun k=>spec_DrawApplyMove.j0 k (movesB p q) true l i h p q) (p,q,m,s)∧s.size≤2:=by
  intro i h hc
  obtain ⟨o,i2,h2,e2,o0,o1,c2⟩:=l1Below_ok h 3 hc (by omega) (by omega)
  obtain ⟨s,i3,h3,e3,hs,c3⟩:=l1Pick_ok h2 [(⟨#[]⟩:ByteArray),(⟨#[97,88]⟩:ByteArray),(⟨#[98]⟩:ByteArray)] c2 (by decide) (by decide)
  refine ⟨bt (⟨#[88,89,90]⟩:ByteArray) o,s,Evt.step ?_,?_⟩
  ·simp only [spec_DrawApplyMove.j0]
   exact Evt.pos trivial (Evt.bindc e2 (Evt.pos o0 (Evt.pos o1 (Evt.bindc e3 (Evt.ret _)))))
  ·simp only [List.mem_cons,List.not_mem_nil,or_false] at hs
   rcases hs with rfl|rfl|rfl <;> decide
 by_cases hn:((movesB p q).length:Int)=0
 ·obtain ⟨m,s,e,hs⟩:=jt (h:=h1) c1
  refine ⟨p,q,m,s,?_,s1,s2,hs⟩
  simp only [spec_DrawApplyMove.f]
  exact Evt.bind e0 (Evt.bind e1 (Evt.bind hm (Evt.pos hn e)))
 ·obtain ⟨o,i2,h2,e2,c2⟩:=l1Once_ok h1 10 c1 (by omega) (by omega)
  cases o with
  | true =>
   obtain ⟨m,s,e,hs⟩:=jt (h:=h2) c2
   refine ⟨p,q,m,s,?_,s1,s2,hs⟩
   simp only [spec_DrawApplyMove.f]
   exact Evt.bind e0 (Evt.bind e1 (Evt.bind hm (Evt.neg hn (Evt.bindc e2 e))))
  | false =>
   obtain ⟨u,i3,h3,e3,u0,u1,c3⟩:=l1Below_ok h2 ((movesB p q).length:Int) c2 (by omega) (by omega)
   have hmem:=mv_at (movesB p q) u u0 u1
   refine ⟨p,q,(rd_T33 (movesB p q) u).f0,(rd_T33 (movesB p q) u).f1,?_,s1,s2,(moves_mv p q _ hmem).2.1⟩
   simp only [spec_DrawApplyMove.f]
   refine Evt.bind e0 (Evt.bind e1 (Evt.bind hm (Evt.neg hn (Evt.bindc e2 (Evt.step ?_)))))
   simp only [spec_DrawApplyMove.j0]
   exact Evt.neg (by decide) (Evt.bindc e3 (Evt.pos u0 (Evt.pos u1 (Evt.ret _))))
end Go.Proofs.Ytgajchjnljekgaa.F
namespace Go.Proofs.Ytgajchjnljekgaa.F
open Go.RowKit YtgajchjnljekgaaW.PrintWords Ytgajchjnljekgaa.Pl Ytgajchjnljekgaa.A Ytgajchjnljekgaa.Ext
def Evt2 {α:Type} (g:Nat→Nat→Option α) (r:α):Prop:=∃ K,∀ i j,K≤i→K≤j→g i j=some r
theorem Evt2.ret {α:Type} (r:α):Evt2 (fun _ _=>some r) r:=⟨0,fun _ _ _ _=>rfl⟩
theorem Evt2.bind {α β:Type} {g:Nat→Option α} {f:Nat→Nat→α→Option β} {a:α} {r:β} (hg:Evt g a) (hf:Evt2 (fun i j=>f i j a) r):Evt2 (fun i j=>(g i).bind (f i j)) r:=by
 obtain ⟨K,hK⟩:=hg
 obtain ⟨L,hL⟩:=hf
 exact ⟨max K L,fun i j hi hj=>by show (g i).bind (f i j)=some r;rw [hK i (by omega)];exact hL i j (by omega) (by omega)⟩
theorem Evt2.pos {α:Type} {c:Prop} [Decidable c] {t e:Nat→Nat→Option α} {r:α} (h:c) (ht:Evt2 t r):Evt2 (fun i j=>if c then t i j else e i j) r:=by
 obtain ⟨K,hK⟩:=ht
 exact ⟨K,fun i j hi hj=>by show (if c then t i j else e i j)=some r;rw [if_pos h];exact hK i j hi hj⟩
theorem Evt2.neg {α:Type} {c:Prop} [Decidable c] {t e:Nat→Nat→Option α} {r:α} (h:¬ c) (he:Evt2 e r):Evt2 (fun i j=>if c then t i j else e i j) r:=by
 obtain ⟨K,hK⟩:=he
 exact ⟨K,fun i j hi hj=>by show (if c then t i j else e i j)=some r;rw [if_neg h];exact hK i j hi hj⟩
theorem Evt2.step {α:Type} {g:Nat→Nat→Option α} {r:α} (h:Evt2 (fun i j=>g i (j+1)) r):Evt2 g r:=by
 obtain ⟨K,hK⟩:=h
 refine ⟨K+1,fun i j hi hj=>?_⟩
 obtain ⟨j,rfl⟩:∃ m,j=m+1:=⟨j - 1,by omega⟩
 exact hK i j (by omega) (by omega)
theorem Evt2.cast {α:Type} {g:Nat→Nat→Option α} {r r':α} (h:Evt2 g r) (e:r=r'):Evt2 g r':=e ▸ h
def cntN:Nat→List S58→Nat
 | 0,_=>0
 | d+1,xs=>(xs.map fun y=>2+cntN d y.f2).sum
def htN:Nat→S58→Bool
 | 0,_=>false
 | d+1,x=>x.f2.all (htN d)
def Bd (l:List S58) (c:Nat):Prop:=(∀ d,cntN d l≤2 * c)∧∃ N,∀ d,N≤d→l.all (htN d)=true
inductive Sm : S58 → Prop
 | mk (a:Int) (b:ByteArray) (l:List S58) (h:l.length≤1048576) (hs:∀ x ∈ l,Sm x) (hb:∃ c,c≤1048576∧Bd l c):Sm ⟨a,b,l⟩
theorem Sm.len {x:S58} (h:Sm x):x.f2.length≤1048576:=by cases h;assumption
theorem rxI_at (l:List S58) (i:Nat) (h:i < l.length):rd_T58 l (i:Int)=l[i]:=by simp [rd_T58,h]
theorem rx_eta (y:S58):(⟨y.f0,y.f1,y.f2⟩:S58)=y:=by cases y;rfl
theorem csI_at (l:List S61) (i:Nat) (h:i < l.length):rd_T61 l (i:Int)=l[i]:=by simp [rd_T61,h]
def CsSm (y:S61):Prop:=Sm y.f3∧y.f4.length≤1048576∧y.f1.size≤1048576∧y.f2.size≤1048576
end Go.Proofs.Ytgajchjnljekgaa.F
