/- FnExactFormatProblemCard: what its proof needs, put together by this session's program wip/merge.py out of the texts that wip/xp.py printed and of this session's own. -/
import Derived.Test.YtdchpohiiigobaaDoorQFnExactFormatProblemCard2
set_option linter.unusedVariables false
set_option linter.unusedSimpArgs false
set_option linter.unusedSectionVars false
set_option maxHeartbeats 8000000
set_option maxRecDepth 100000
namespace Go.Proofs.YtdchpohiiigobaaDoor.A
open Go.RowKit YtdchpohiiigobaaDoor.Ext YtdchpohiiigobaaDoorW.PrintWords YtdchpohiiigobaaDoorW.PrintLast YtdchpohiiigobaaDoorW.PrintMore
attribute [local go_sem] max2_int min2_int max_two min_two max_three min_three max_four min_four
def spec_FormatConstraint.l0:Nat→ByteArray→Int→Int→ByteArray→ByteArray→Int→ByteArray→List (S32)→List Int→Int→Option (ByteArray)
 | 0,_,_,_,_,_,_,_,_,_,_=>none
 | k+1,x3,x4,x6002000,x6002001,x6002002,x6002003,x6002004,x6002005,x6002006,x6002007=>if x4 < (x6002006.length:Int) then (if x3.size+1≤9223372036854775807 then (if 0≤x4 then ((spec_FormatInt.f k (rd x6002006 x4)).bind fun t6012=>(if (x3 ++ (⟨#[32]⟩:ByteArray)).size+t6012.size≤9223372036854775807 then (spec_FormatConstraint.l0 k ((x3 ++ (⟨#[32]⟩:ByteArray)) ++ t6012) (wrap64 (x4+1)) x6002000 x6002001 x6002002 x6002003 x6002004 x6002005 x6002006 x6002007) else (none))) else (none)) else (none)) else (if x3.size+1≤9223372036854775807 then ((spec_FormatInt.f k x6002007).bind fun t6013=>(if (x3 ++ (⟨#[32]⟩:ByteArray)).size+t6013.size≤9223372036854775807 then (some ((x3 ++ (⟨#[32]⟩:ByteArray)) ++ t6013)) else (none))) else (none))
def spec_FormatConstraint.f (k:Nat) (a0_0:Int) (a0_1:ByteArray) (a0_2:ByteArray) (a0_3:Int) (a0_4:ByteArray) (l0_5:List (S32)) (l0_6:List Int) (a0_7:Int):Option (ByteArray):=(spec_IsValidConstraint.f k a0_0 a0_1 a0_2 a0_3 a0_4 l0_5 l0_6 a0_7).bind fun t6002=>(if t6002=true then (if a0_0=1 then ((spec_l9Term.f a0_1).bind fun t6003=>(if t6003.size+3≤9223372036854775807 then ((spec_l9Term.f a0_2).bind fun t6004=>(if (t6003 ++ (⟨#[32,61,32]⟩:ByteArray)).size+t6004.size≤9223372036854775807 then (some ((t6003 ++ (⟨#[32,61,32]⟩:ByteArray)) ++ t6004)) else (none))) else (none))) else (if a0_0=2 then ((spec_l9Term.f a0_1).bind fun t6005=>(if t6005.size+4≤9223372036854775807 then ((spec_l9Term.f a0_2).bind fun t6006=>(if (t6005 ++ (⟨#[32,33,61,32]⟩:ByteArray)).size+t6006.size≤9223372036854775807 then (some ((t6005 ++ (⟨#[32,33,61,32]⟩:ByteArray)) ++ t6006)) else (none))) else (none))) else (if a0_0=3 then ((spec_l9Term.f a0_1).bind fun t6007=>(if t6007.size+4≤9223372036854775807 then ((spec_FormatRegex.f k a0_3 a0_4 l0_5).bind fun t6008=>(if (t6007 ++ (⟨#[32,105,110,32]⟩:ByteArray)).size+t6008.size≤9223372036854775807 then (some ((t6007 ++ (⟨#[32,105,110,32]⟩:ByteArray)) ++ t6008)) else (none))) else (none))) else (if a0_0=4 then ((spec_l9Term.f a0_1).bind fun t6009=>(if t6009.size+5≤9223372036854775807 then ((spec_FormatRegex.f k a0_3 a0_4 l0_5).bind fun t6010=>(if (t6009 ++ (⟨#[32,111,117,116,32]⟩:ByteArray)).size+t6010.size≤9223372036854775807 then (some ((t6009 ++ (⟨#[32,111,117,116,32]⟩:ByteArray)) ++ t6010)) else (none))) else (none))) else (spec_FormatConstraint.l0 k (⟨#[108,101,110]⟩:ByteArray) 0 a0_0 a0_1 a0_2 a0_3 a0_4 l0_5 l0_6 a0_7))))) else (some (⟨#[]⟩:ByteArray)))
theorem spec_FormatConstraint.mono_l:∀ k,(∀ y0 y1 y2 y3 y4 y5 y6 y7 y8 y9,LeO (spec_FormatConstraint.l0 k y0 y1 y2 y3 y4 y5 y6 y7 y8 y9) (spec_FormatConstraint.l0 (k+1) y0 y1 y2 y3 y4 y5 y6 y7 y8 y9))
 | 0=>fun _ _ _ _ _ _ _ _ _ _ r h=>by simp [spec_FormatConstraint.l0] at h
 | k+1=>by
  have ih0:=spec_FormatConstraint.mono_l k
  ·intro y0 y1 y2 y3 y4 y5 y6 y7 y8 y9
   unfold spec_FormatConstraint.l0
   repeat' first
   | with_reducible first|exact ih0 _ _ _ _ _ _ _ _ _ _|exact spec_FormatInt.mono _ _|exact spec_FormatRegex.mono _ _ _ _|exact spec_IsValidConstraint.mono _ _ _ _ _ _ _ _ _|exact LeO.refl _|exact LeO.none _|refine LeO.ite ?_ ?_|refine LeO.bind ?_ (fun _=>?_)
theorem spec_FormatConstraint.mono:∀ a0 a1 a2 a3 a4 a5 a6 a7 k,LeO (spec_FormatConstraint.f k a0 a1 a2 a3 a4 a5 a6 a7) (spec_FormatConstraint.f (k+1) a0 a1 a2 a3 a4 a5 a6 a7):=by
 intro a0 a1 a2 a3 a4 a5 a6 a7 k
 have ih0:=spec_FormatConstraint.mono_l k
 unfold spec_FormatConstraint.f
 repeat' first
  | with_reducible first|exact ih0 _ _ _ _ _ _ _ _ _ _|exact spec_FormatInt.mono _ _|exact spec_FormatRegex.mono _ _ _ _|exact spec_IsValidConstraint.mono _ _ _ _ _ _ _ _ _|exact LeO.refl _|exact LeO.none _|refine LeO.ite ?_ ?_|refine LeO.bind ?_ (fun _=>?_)
def spec_FormatConstraint.T5:Bool × List (List Nat × List Nat):=(true,[([],[]),([0],[0]),([1],[1]),([2],[2]),([],[]),([4],[4]),([5,2],[5]),([3,6],[3,6]),([7,6,0,1,2,3,4,5,6,7],[7])])
def spec_FormatConstraint.B5:List Nat:=[0,1,3,7,0,16,55,127,255]
theorem spec_FormatConstraint.tab5:rtab .any (opsOf Tryd.f6 5)=spec_FormatConstraint.T5:=by kernel_rfl
theorem spec_FormatConstraint.bits5:waitsOk spec_FormatConstraint.T5.2 spec_FormatConstraint.B5=true:=by kernel_rfl
def spec_FormatConstraint.T7:Bool × List (List Nat × List Nat):=(true,[([],[]),([0],[0]),([1],[1]),([2],[2]),([],[]),([4],[4]),([5,2],[5]),([3,6],[3,6]),([7,6,0,1,2,3,4,5,6,7],[7])])
def spec_FormatConstraint.B7:List Nat:=[0,1,3,7,0,16,55,127,255]
theorem spec_FormatConstraint.tab7:rtab .any (opsOf Tryd.f6 7)=spec_FormatConstraint.T7:=by kernel_rfl
theorem spec_FormatConstraint.bits7:waitsOk spec_FormatConstraint.T7.2 spec_FormatConstraint.B7=true:=by kernel_rfl
def spec_FormatConstraint.T9:Bool × List (List Nat × List Nat):=(true,[([],[]),([0],[0]),([1],[1]),([2],[2]),([],[]),([4],[4]),([5,2],[5]),([3,6],[3,6]),([7,6,0,1,2,3,4,5,6,7],[7])])
def spec_FormatConstraint.B9:List Nat:=[0,1,3,7,0,16,55,127,255]
theorem spec_FormatConstraint.tab9:rtab .any (opsOf Tryd.f6 9)=spec_FormatConstraint.T9:=by kernel_rfl
theorem spec_FormatConstraint.bits9:waitsOk spec_FormatConstraint.T9.2 spec_FormatConstraint.B9=true:=by kernel_rfl
def spec_FormatConstraint.T11:Bool × List (List Nat × List Nat):=(true,[([],[]),([0],[0]),([1],[1]),([2],[2]),([],[]),([4],[4]),([5,2],[5]),([3,6],[3,6]),([7,6,0,1,2,3,4,5,6,7],[7])])
def spec_FormatConstraint.B11:List Nat:=[0,1,3,7,0,16,55,127,255]
theorem spec_FormatConstraint.tab11:rtab .any (opsOf Tryd.f6 11)=spec_FormatConstraint.T11:=by kernel_rfl
theorem spec_FormatConstraint.bits11:waitsOk spec_FormatConstraint.T11.2 spec_FormatConstraint.B11=true:=by kernel_rfl
theorem spec_FormatConstraint.calls (k:Nat) (a0_0:Int) (a0_1:ByteArray) (a0_2:ByteArray) (a0_3:Int) (a0_4:ByteArray) (A0_5:Option Addr) (c0_5:Nat) (l0_5:List (S32)) (A0_6:Option Addr) (c0_6:Nat) (l0_6:List Int) (a0_7:Int) (r:ByteArray) (w:World) (hr0_5:Kd.C k32 w A0_5 l0_5.length l0_5) (hc0_5:l0_5.length≤c0_5) (hr0_6:Kd.C (Kd.int .i64) w A0_6 l0_6.length l0_6) (hc0_6:l0_6.length≤c0_6) (h:spec_FormatConstraint.f k a0_0 a0_1 a0_2 a0_3 a0_4 l0_5 l0_6 a0_7=some r) :
  Calls Tryd.prog 6 #[.agg #[.int .i64 a0_0,.string a0_1,.string a0_2,.int .i64 a0_3,.string a0_4,.slice A0_5 l0_5.length c0_5,.slice A0_6 l0_6.length c0_6,.int .i64 a0_7]] w fun e w'=>e = .returned (.string r)∧Below w.heap.size w w':=by
 have hu34:=Tryd.underlying34
 have hu32:=Tryd.underlying32
 have HR0_5:=zk hr0_5
 have HC0_5:=zk hc0_5
 clear hr0_5 hc0_5
 have HR0_6:=zk hr0_6
 have HC0_6:=zk hc0_6
 clear hr0_6 hc0_6
 have HB:=zk (Below.refl w.heap.size w)
 have H:((spec_IsValidConstraint.f k a0_0 a0_1 a0_2 a0_3 a0_4 l0_5 l0_6 a0_7).bind fun t6002=>(if t6002=true then (if a0_0=1 then ((spec_l9Term.f a0_1).bind fun t6003=>(if t6003.size+3≤9223372036854775807 then ((spec_l9Term.f a0_2).bind fun t6004=>(if (t6003 ++ (⟨#[32,61,32]⟩:ByteArray)).size+t6004.size≤9223372036854775807 then (some ((t6003 ++ (⟨#[32,61,32]⟩:ByteArray)) ++ t6004)) else (none))) else (none))) else (if a0_0=2 then ((spec_l9Term.f a0_1).bind fun t6005=>(if t6005.size+4≤9223372036854775807 then ((spec_l9Term.f a0_2).bind fun t6006=>(if (t6005 ++ (⟨#[32,33,61,32]⟩:ByteArray)).size+t6006.size≤9223372036854775807 then (some ((t6005 ++ (⟨#[32,33,61,32]⟩:ByteArray)) ++ t6006)) else (none))) else (none))) else (if a0_0=3 then ((spec_l9Term.f a0_1).bind fun t6007=>(if t6007.size+4≤9223372036854775807 then ((spec_FormatRegex.f k a0_3 a0_4 l0_5).bind fun t6008=>(if (t6007 ++ (⟨#[32,105,110,32]⟩:ByteArray)).size+t6008.size≤9223372036854775807 then (some ((t6007 ++ (⟨#[32,105,110,32]⟩:ByteArray)) ++ t6008)) else (none))) else (none))) else (if a0_0=4 then ((spec_l9Term.f a0_1).bind fun t6009=>(if t6009.size+5≤9223372036854775807 then ((spec_FormatRegex.f k a0_3 a0_4 l0_5).bind fun t6010=>(if (t6009 ++ (⟨#[32,111,117,116,32]⟩:ByteArray)).size+t6010.size≤9223372036854775807 then (some ((t6009 ++ (⟨#[32,111,117,116,32]⟩:ByteArray)) ++ t6010)) else (none))) else (none))) else (spec_FormatConstraint.l0 k (⟨#[108,101,110]⟩:ByteArray) 0 a0_0 a0_1 a0_2 a0_3 a0_4 l0_5 l0_6 a0_7))))) else (some (⟨#[]⟩:ByteArray))))=some r:=h
 clear h
 replace H:=zo H
 obtain ⟨t6002,A20,H⟩:=H
 replace H:(if t6002=true then (if a0_0=1 then ((spec_l9Term.f a0_1).bind fun t6003=>(if t6003.size+3≤9223372036854775807 then ((spec_l9Term.f a0_2).bind fun t6004=>(if (t6003 ++ (⟨#[32,61,32]⟩:ByteArray)).size+t6004.size≤9223372036854775807 then (some ((t6003 ++ (⟨#[32,61,32]⟩:ByteArray)) ++ t6004)) else (none))) else (none))) else (if a0_0=2 then ((spec_l9Term.f a0_1).bind fun t6005=>(if t6005.size+4≤9223372036854775807 then ((spec_l9Term.f a0_2).bind fun t6006=>(if (t6005 ++ (⟨#[32,33,61,32]⟩:ByteArray)).size+t6006.size≤9223372036854775807 then (some ((t6005 ++ (⟨#[32,33,61,32]⟩:ByteArray)) ++ t6006)) else (none))) else (none))) else (if a0_0=3 then ((spec_l9Term.f a0_1).bind fun t6007=>(if t6007.size+4≤9223372036854775807 then ((spec_FormatRegex.f k a0_3 a0_4 l0_5).bind fun t6008=>(if (t6007 ++ (⟨#[32,105,110,32]⟩:ByteArray)).size+t6008.size≤9223372036854775807 then (some ((t6007 ++ (⟨#[32,105,110,32]⟩:ByteArray)) ++ t6008)) else (none))) else (none))) else (if a0_0=4 then ((spec_l9Term.f a0_1).bind fun t6009=>(if t6009.size+5≤9223372036854775807 then ((spec_FormatRegex.f k a0_3 a0_4 l0_5).bind fun t6010=>(if (t6009 ++ (⟨#[32,111,117,116,32]⟩:ByteArray)).size+t6010.size≤9223372036854775807 then (some ((t6009 ++ (⟨#[32,111,117,116,32]⟩:ByteArray)) ++ t6010)) else (none))) else (none))) else (spec_FormatConstraint.l0 k (⟨#[108,101,110]⟩:ByteArray) 0 a0_0 a0_1 a0_2 a0_3 a0_4 l0_5 l0_6 a0_7))))) else (some (⟨#[]⟩:ByteArray)))=some r:=H
 have A2:=zk A20
 clear A20
 by_cases c3:t6002=true
 subst c3
 have H1:(if a0_0=1 then ((spec_l9Term.f a0_1).bind fun t6003=>(if t6003.size+3≤9223372036854775807 then ((spec_l9Term.f a0_2).bind fun t6004=>(if (t6003 ++ (⟨#[32,61,32]⟩:ByteArray)).size+t6004.size≤9223372036854775807 then (some ((t6003 ++ (⟨#[32,61,32]⟩:ByteArray)) ++ t6004)) else (none))) else (none))) else (if a0_0=2 then ((spec_l9Term.f a0_1).bind fun t6005=>(if t6005.size+4≤9223372036854775807 then ((spec_l9Term.f a0_2).bind fun t6006=>(if (t6005 ++ (⟨#[32,33,61,32]⟩:ByteArray)).size+t6006.size≤9223372036854775807 then (some ((t6005 ++ (⟨#[32,33,61,32]⟩:ByteArray)) ++ t6006)) else (none))) else (none))) else (if a0_0=3 then ((spec_l9Term.f a0_1).bind fun t6007=>(if t6007.size+4≤9223372036854775807 then ((spec_FormatRegex.f k a0_3 a0_4 l0_5).bind fun t6008=>(if (t6007 ++ (⟨#[32,105,110,32]⟩:ByteArray)).size+t6008.size≤9223372036854775807 then (some ((t6007 ++ (⟨#[32,105,110,32]⟩:ByteArray)) ++ t6008)) else (none))) else (none))) else (if a0_0=4 then ((spec_l9Term.f a0_1).bind fun t6009=>(if t6009.size+5≤9223372036854775807 then ((spec_FormatRegex.f k a0_3 a0_4 l0_5).bind fun t6010=>(if (t6009 ++ (⟨#[32,111,117,116,32]⟩:ByteArray)).size+t6010.size≤9223372036854775807 then (some ((t6009 ++ (⟨#[32,111,117,116,32]⟩:ByteArray)) ++ t6010)) else (none))) else (none))) else (spec_FormatConstraint.l0 k (⟨#[108,101,110]⟩:ByteArray) 0 a0_0 a0_1 a0_2 a0_3 a0_4 l0_5 l0_6 a0_7)))))=some r:=by rw [if_pos rfl] at H;exact H
 clear H
 have H:=H1
 clear H1
 by_cases c4:a0_0=1
 rw [if_pos c4] at H
 have c4b0:(a0_0 == 1)=true:=beq_iff_eq.mpr c4
 have c4b1:(a0_0 != 1)=false:=bne_eq_false_iff_eq.mpr c4
 clear c4
 replace H:=zo H
 obtain ⟨t6003,A50,H⟩:=H
 replace H:(if t6003.size+3≤9223372036854775807 then ((spec_l9Term.f a0_2).bind fun t6004=>(if (t6003 ++ (⟨#[32,61,32]⟩:ByteArray)).size+t6004.size≤9223372036854775807 then (some ((t6003 ++ (⟨#[32,61,32]⟩:ByteArray)) ++ t6004)) else (none))) else (none))=some r:=H
 have A5:=zk A50
 clear A50
 by_cases c6:t6003.size+3≤9223372036854775807
 rw [if_pos c6] at H
 have c6z:=c6
 try simp at c6z
 try replace c6z:=eq_false (Nat.not_lt.2 c6z)
 have c6b0:=eq_true c6
 have c6b1:decide (t6003.size+3≤9223372036854775807)=true:=decide_eq_true c6
 try have c6b2:(9223372036854775807 < t6003.size+3)=False:=eq_false (Nat.not_lt.2 c6)
 replace H:=zo H
 obtain ⟨t6004,A70,H⟩:=H
 replace H:(if (t6003 ++ (⟨#[32,61,32]⟩:ByteArray)).size+t6004.size≤9223372036854775807 then (some ((t6003 ++ (⟨#[32,61,32]⟩:ByteArray)) ++ t6004)) else (none))=some r:=H
 have A7:=zk A70
 clear A70
 by_cases c8:(t6003 ++ (⟨#[32,61,32]⟩:ByteArray)).size+t6004.size≤9223372036854775807
 ·rw [if_pos c8] at H
  have c8z:=c8
  try simp at c8z
  try replace c8z:=eq_false (Nat.not_lt.2 c8z)
  have c8b0:=eq_true c8
  have c8b1:decide ((t6003 ++ (⟨#[32,61,32]⟩:ByteArray)).size+t6004.size≤9223372036854775807)=true:=decide_eq_true c8
  try have c8y:(9223372036854775807 < t6003.size+3+t6004.size)=False:=eq_false (by have q_:=c8;simp only [ByteArray.size_append,show (⟨#[32,61,32]⟩:ByteArray).size=3 from rfl] at q_;omega)
  try have c8b2:(9223372036854775807 < (t6003 ++ (⟨#[32,61,32]⟩:ByteArray)).size+t6004.size)=False:=eq_false (Nat.not_lt.2 c8)
  obtain rfl:=zi H
  go_enter Tryd.func6,Tryd.ntmps6
  try go_wp2_with (first|((with_reducible refine gate_dst (N:=1) rfl ?_);refine zE (N:=1) (cs:=#[.int .i64 a0_0,.string a0_1,.string a0_2,.int .i64 a0_3,.string a0_4,.slice A0_5 l0_5.length c0_5,.slice A0_6 l0_6.length c0_6,.int .i64 a0_7]) (t:=34) ?_;intro gb6001 hg w9 hbox hb;have n0_:=zk (below_step za2 hb);have n1_:=zk (hbox);have n2_:=zk (zs (w:=w) hg za2);have n3_:=zk (zs (w:=w) hg za2);clear HB;have HB:=n0_;have BK6001:=n1_;have GW6001:=n2_;have GE6001:=n3_;clear n0_ n1_ n2_ n3_;clear hb hbox hg;obtain ⟨hcz10_0,hcz10_1,hcz10_2,hcz10_3,hcz10_4,hcz10_5,hcz10_6,hcz10_7,hfz10_0,hfz10_1,hfz10_2,hfz10_3,hfz10_4,hfz10_5,hfz10_6,hfz10_7⟩:=blk8 BK6001.out)|((with_reducible refine gate_callee (f:=17) rfl ?_);refine goesL_ (some 6) rfl rfl Tryd.func17 (by kernel_rfl) rfl #[.agg #[.int .i64 a0_0,.string a0_1,.string a0_2,.int .i64 a0_3,.string a0_4,.slice A0_5 l0_5.length c0_5,.slice A0_6 l0_6.length c0_6,.int .i64 a0_7]] rfl za5 ?_;(with_reducible refine (spec_IsValidConstraint.calls k a0_0 a0_1 a0_2 a0_3 a0_4 _ _ l0_5 _ _ l0_6 a0_7 _ _ ?side1 ?side2 ?side3 ?side4 A2.out).mono ?_);(case side1=>repeat (first|exact (Kd.C_below HR0_5.out HB.out)|(with_reducible refine Kd.C_alloc ?_ _)|(with_reducible refine Kd.C_drewN ?_ _)|(with_reducible refine Kd.C_drew ?_)));(case side2=>exact HC0_5.out);(case side3=>repeat (first|exact (Kd.C_below HR0_6.out HB.out)|(with_reducible refine Kd.C_alloc ?_ _)|(with_reducible refine Kd.C_drewN ?_ _)|(with_reducible refine Kd.C_drew ?_)));(case side4=>exact HC0_6.out);rintro e w11 ⟨rfl,hb⟩;refine ⟨_,rfl,?_⟩;have n0_:=zk (zb BK6001.out hb);have n1_:=zk (below_step za2 hb);clear BK6001;clear HB;have BK6001:=n0_;have HB:=n1_;clear n0_ n1_;(try clear hb);(try clear hb2);(try clear hk);(try clear hi);obtain ⟨hcz12_0,hcz12_1,hcz12_2,hcz12_3,hcz12_4,hcz12_5,hcz12_6,hcz12_7,hfz12_0,hfz12_1,hfz12_2,hfz12_3,hfz12_4,hfz12_5,hfz12_6,hfz12_7⟩:=blk8 BK6001.out))
  have n0_:=zk (blk_drew BK6001.out)
  have n1_:=zk (below_drew1 HB.out)
  clear BK6001
  clear HB
  have BK6001:=n0_
  have HB:=n1_
  clear n0_ n1_
  refine start_ (n:=9) (S:=fun w'=>w'.cell? ⟨gb6001,0,none⟩=some (.int .i64 a0_0)∧w'.cell? ⟨gb6001,1,none⟩=some (.string a0_1)∧w'.cell? ⟨gb6001,2,none⟩=some (.string a0_2)∧w'.cell? ⟨gb6001,3,none⟩=some (.int .i64 a0_3)∧w'.cell? ⟨gb6001,4,none⟩=some (.string a0_4)∧w'.cell? ⟨gb6001,5,none⟩=some (.slice A0_5 l0_5.length c0_5)∧w'.cell? ⟨gb6001,6,none⟩=some (.slice A0_6 l0_6.length c0_6)∧w'.cell? ⟨gb6001,7,none⟩=some (.int .i64 a0_7)) (ds:=[]) #[false,false,false,false,false,false,false,false,false] (by kernel_rfl) rfl rfl ⟨(blk_cell BK6001.out 0).trans rfl,(blk_cell BK6001.out 1).trans rfl,(blk_cell BK6001.out 2).trans rfl,(blk_cell BK6001.out 3).trans rfl,(blk_cell BK6001.out 4).trans rfl,(blk_cell BK6001.out 5).trans rfl,(blk_cell BK6001.out 6).trans rfl,(blk_cell BK6001.out 7).trans rfl⟩ (fun hHeld=>?_);refine with_tabW spec_FormatConstraint.tab5 spec_FormatConstraint.bits5 (fun HT_ HW_=>?_)
  generalize w11.drew=w13 at BK6001 HB hHeld ⊢
  refine pure_ (i:=0) (N:=some 12) (v:=?_) (a':=?_) #[true,false,false,false,false,false,false,false,false] rfl rfl (any_of HT_.out (by kernel_rfl)) (fun _ _ _ h=>h) (Or.inl ⟨by rfl,?_⟩) ?_ ?_
  rotate_left
  · intro w'
    go_simp
    exact zr2
  rotate_left
  · simp only [Act.put,zt,zu,zv,i64_w,i32_w]
    rfl
  refine pure_ (i:=4) (N:=some 16) (v:=?_) (a':=?_) #[true,false,false,false,true,false,false,false,false] rfl rfl (any_of HT_.out (by kernel_rfl)) (fun _ _ _ h=>h) (Or.inl ⟨by rfl,?_⟩) ?_ ?_
  rotate_left
  · intro w'
    go_simp
    exact zr2
  rotate_left
  · simp only [Act.put,zt,zu,zv,i64_w,i32_w]
    rfl
  refine take_ (i:=1) (N:=some 13) (v:=?_) (a':=?_) #[true,true,false,false,true,false,false,false,false] rfl rfl (take_ofW HT_.out HW_.out (by kernel_rfl)) (fun _ _ _ h=>h) (Or.inl ⟨by rfl,?_⟩) hHeld ?_ ?_
  rotate_left
  · rintro w' ⟨s0,s1,s2,s3,s4,s5,s6,s7⟩
    go_simp
    exact zr2
  rotate_left
  · simp only [Act.put,zt,zu,zv,i64_w,i32_w]
    rfl
  refine take_ (i:=5) (N:=some 17) (v:=?_) (a':=?_) #[true,true,false,false,true,true,false,false,false] rfl rfl (take_ofW HT_.out HW_.out (by kernel_rfl)) (fun _ _ _ h=>h) (Or.inl ⟨by rfl,?_⟩) hHeld ?_ ?_
  rotate_left
  · rintro w' ⟨s0,s1,s2,s3,s4,s5,s6,s7⟩
    go_simp
    exact zr2
  rotate_left
  · simp only [Act.put,zt,zu,zv,i64_w,i32_w]
    rfl
  refine one_ (i:=2) (N:=some 14) #[true,true,true,false,true,true,false,false,false] rfl rfl (one_of HT_.out (by kernel_rfl)) (by decide) (fun K hK=>?_)
  refine goes_ Tryd.func18 (by kernel_rfl) rfl #[.string a0_1] (by rfl) rfl rfl za5 ?_
  with_reducible refine (spec_l9Term.calls a0_1 t6003 _ A5.out).mono ?_
  rintro e w' ⟨rfl,⟨nd,rfl⟩⟩
  refine ⟨_,rfl,?_⟩
  refine hK.out _ _ ⟨(blk_cell BK6001.out 0).trans rfl,(blk_cell BK6001.out 1).trans rfl,(blk_cell BK6001.out 2).trans rfl,(blk_cell BK6001.out 3).trans rfl,(blk_cell BK6001.out 4).trans rfl,(blk_cell BK6001.out 5).trans rfl,(blk_cell BK6001.out 6).trans rfl,(blk_cell BK6001.out 7).trans rfl⟩ (fun hHeld=>?_)
  clear hK K
  refine norm_ (a':=?_) ?_ ?_
  rotate_left
  · show Act.put _ (some 14) _=_
    simp only [Act.put,zt,zu,zv,i64_w,i32_w]
    rfl
  refine pure_ (i:=3) (N:=some 15) (v:=?_) (a':=?_) #[true,true,true,true,true,true,false,false,false] rfl rfl (any_of HT_.out (by kernel_rfl)) (fun _ _ _ h=>h) (Or.inl ⟨by rfl,?_⟩) ?_ ?_
  rotate_left
  · intro w'
    go_simp
    exact zr2
  rotate_left
  · simp only [Act.put,zt,zu,zv,i64_w,i32_w]
    rfl
  refine one_ (i:=6) (N:=some 18) #[true,true,true,true,true,true,true,false,false] rfl rfl (one_of HT_.out (by kernel_rfl)) (by decide) (fun K hK=>?_)
  refine goes_ Tryd.func18 (by kernel_rfl) rfl #[.string a0_2] (by rfl) rfl rfl za5 ?_
  with_reducible refine (spec_l9Term.calls a0_2 t6004 _ A7.out).mono ?_
  rintro e w' ⟨rfl,⟨nd,rfl⟩⟩
  refine ⟨_,rfl,?_⟩
  refine hK.out _ _ ⟨(blk_cell BK6001.out 0).trans rfl,(blk_cell BK6001.out 1).trans rfl,(blk_cell BK6001.out 2).trans rfl,(blk_cell BK6001.out 3).trans rfl,(blk_cell BK6001.out 4).trans rfl,(blk_cell BK6001.out 5).trans rfl,(blk_cell BK6001.out 6).trans rfl,(blk_cell BK6001.out 7).trans rfl⟩ (fun hHeld=>?_)
  clear hK K
  refine norm_ (a':=?_) ?_ ?_
  rotate_left
  · show Act.put _ (some 18) _=_
    simp only [Act.put,zt,zu,zv,i64_w,i32_w]
    rfl
  refine pure_ (i:=7) (N:=some 19) (v:=?_) (a':=?_) #[true,true,true,true,true,true,true,true,false] rfl rfl (any_of HT_.out (by kernel_rfl)) (fun _ _ _ h=>h) (Or.inl ⟨by rfl,?_⟩) ?_ ?_
  rotate_left
  · intro w'
    go_simp
    exact zr2
  rotate_left
  · simp only [Act.put,zt,zu,zv,i64_w,i32_w]
    rfl
  refine pure_ (i:=8) (N:=some 2) (v:=?_) (a':=?_) #[true,true,true,true,true,true,true,true,true] rfl rfl (any_of HT_.out (by kernel_rfl)) (fun _ _ _ h=>h) (Or.inl ⟨by rfl,?_⟩) ?_ ?_
  rotate_left
  · intro w'
    go_simp
    exact zr2
  rotate_left
  · simp only [Act.put,zt,zu,zv,i64_w,i32_w]
    rfl
  refine done_ (done_of HT_.out (by kernel_rfl)) ?_
  try go_wp2
  go_ret
  exact ⟨za6,za2⟩
 ·rw [if_neg c8] at H
  exact absurd H (by simp)
 ·rw [if_neg c6] at H
  exact absurd H (by simp)
 rw [if_neg c4] at H
 have c4b0:(a0_0 == 1)=false:=beq_eq_false_iff_ne.mpr c4
 have c4b1:(a0_0 != 1)=true:=bne_iff_ne.mpr c4
 by_cases c14:a0_0=2
 rw [if_pos c14] at H
 have c14b0:(a0_0 == 2)=true:=beq_iff_eq.mpr c14
 have c14b1:(a0_0 != 2)=false:=bne_eq_false_iff_eq.mpr c14
 clear c14
 replace H:=zo H
 obtain ⟨t6005,A150,H⟩:=H
 replace H:(if t6005.size+4≤9223372036854775807 then ((spec_l9Term.f a0_2).bind fun t6006=>(if (t6005 ++ (⟨#[32,33,61,32]⟩:ByteArray)).size+t6006.size≤9223372036854775807 then (some ((t6005 ++ (⟨#[32,33,61,32]⟩:ByteArray)) ++ t6006)) else (none))) else (none))=some r:=H
 have A15:=zk A150
 clear A150
 by_cases c16:t6005.size+4≤9223372036854775807
 rw [if_pos c16] at H
 have c16z:=c16
 try simp at c16z
 try replace c16z:=eq_false (Nat.not_lt.2 c16z)
 have c16b0:=eq_true c16
 have c16b1:decide (t6005.size+4≤9223372036854775807)=true:=decide_eq_true c16
 try have c16b2:(9223372036854775807 < t6005.size+4)=False:=eq_false (Nat.not_lt.2 c16)
 replace H:=zo H
 obtain ⟨t6006,A170,H⟩:=H
 replace H:(if (t6005 ++ (⟨#[32,33,61,32]⟩:ByteArray)).size+t6006.size≤9223372036854775807 then (some ((t6005 ++ (⟨#[32,33,61,32]⟩:ByteArray)) ++ t6006)) else (none))=some r:=H
 have A17:=zk A170
 clear A170
 by_cases c18:(t6005 ++ (⟨#[32,33,61,32]⟩:ByteArray)).size+t6006.size≤9223372036854775807
 ·rw [if_pos c18] at H
  have c18z:=c18
  try simp at c18z
  try replace c18z:=eq_false (Nat.not_lt.2 c18z)
  have c18b0:=eq_true c18
  have c18b1:decide ((t6005 ++ (⟨#[32,33,61,32]⟩:ByteArray)).size+t6006.size≤9223372036854775807)=true:=decide_eq_true c18
  try have c18y:(9223372036854775807 < t6005.size+4+t6006.size)=False:=eq_false (by have q_:=c18;simp only [ByteArray.size_append,show (⟨#[32,33,61,32]⟩:ByteArray).size=4 from rfl] at q_;omega)
  try have c18b2:(9223372036854775807 < (t6005 ++ (⟨#[32,33,61,32]⟩:ByteArray)).size+t6006.size)=False:=eq_false (Nat.not_lt.2 c18)
  obtain rfl:=zi H
  go_enter Tryd.func6,Tryd.ntmps6
  try go_wp2_with (first|((with_reducible refine gate_dst (N:=1) rfl ?_);refine zE (N:=1) (cs:=#[.int .i64 a0_0,.string a0_1,.string a0_2,.int .i64 a0_3,.string a0_4,.slice A0_5 l0_5.length c0_5,.slice A0_6 l0_6.length c0_6,.int .i64 a0_7]) (t:=34) ?_;intro gb6001 hg w19 hbox hb;have n0_:=zk (below_step za2 hb);have n1_:=zk (hbox);have n2_:=zk (zs (w:=w) hg za2);have n3_:=zk (zs (w:=w) hg za2);clear HB;have HB:=n0_;have BK6001:=n1_;have GW6001:=n2_;have GE6001:=n3_;clear n0_ n1_ n2_ n3_;clear hb hbox hg;obtain ⟨hcz20_0,hcz20_1,hcz20_2,hcz20_3,hcz20_4,hcz20_5,hcz20_6,hcz20_7,hfz20_0,hfz20_1,hfz20_2,hfz20_3,hfz20_4,hfz20_5,hfz20_6,hfz20_7⟩:=blk8 BK6001.out)|((with_reducible refine gate_callee (f:=17) rfl ?_);refine goesL_ (some 6) rfl rfl Tryd.func17 (by kernel_rfl) rfl #[.agg #[.int .i64 a0_0,.string a0_1,.string a0_2,.int .i64 a0_3,.string a0_4,.slice A0_5 l0_5.length c0_5,.slice A0_6 l0_6.length c0_6,.int .i64 a0_7]] rfl za5 ?_;(with_reducible refine (spec_IsValidConstraint.calls k a0_0 a0_1 a0_2 a0_3 a0_4 _ _ l0_5 _ _ l0_6 a0_7 _ _ ?side1 ?side2 ?side3 ?side4 A2.out).mono ?_);(case side1=>repeat (first|exact (Kd.C_below HR0_5.out HB.out)|(with_reducible refine Kd.C_alloc ?_ _)|(with_reducible refine Kd.C_drewN ?_ _)|(with_reducible refine Kd.C_drew ?_)));(case side2=>exact HC0_5.out);(case side3=>repeat (first|exact (Kd.C_below HR0_6.out HB.out)|(with_reducible refine Kd.C_alloc ?_ _)|(with_reducible refine Kd.C_drewN ?_ _)|(with_reducible refine Kd.C_drew ?_)));(case side4=>exact HC0_6.out);rintro e w21 ⟨rfl,hb⟩;refine ⟨_,rfl,?_⟩;have n0_:=zk (zb BK6001.out hb);have n1_:=zk (below_step za2 hb);clear BK6001;clear HB;have BK6001:=n0_;have HB:=n1_;clear n0_ n1_;(try clear hb);(try clear hb2);(try clear hk);(try clear hi);obtain ⟨hcz22_0,hcz22_1,hcz22_2,hcz22_3,hcz22_4,hcz22_5,hcz22_6,hcz22_7,hfz22_0,hfz22_1,hfz22_2,hfz22_3,hfz22_4,hfz22_5,hfz22_6,hfz22_7⟩:=blk8 BK6001.out))
  have n0_:=zk (blk_drew BK6001.out)
  have n1_:=zk (below_drew1 HB.out)
  clear BK6001
  clear HB
  have BK6001:=n0_
  have HB:=n1_
  clear n0_ n1_
  refine start_ (n:=9) (S:=fun w'=>w'.cell? ⟨gb6001,0,none⟩=some (.int .i64 a0_0)∧w'.cell? ⟨gb6001,1,none⟩=some (.string a0_1)∧w'.cell? ⟨gb6001,2,none⟩=some (.string a0_2)∧w'.cell? ⟨gb6001,3,none⟩=some (.int .i64 a0_3)∧w'.cell? ⟨gb6001,4,none⟩=some (.string a0_4)∧w'.cell? ⟨gb6001,5,none⟩=some (.slice A0_5 l0_5.length c0_5)∧w'.cell? ⟨gb6001,6,none⟩=some (.slice A0_6 l0_6.length c0_6)∧w'.cell? ⟨gb6001,7,none⟩=some (.int .i64 a0_7)) (ds:=[]) #[false,false,false,false,false,false,false,false,false] (by kernel_rfl) rfl rfl ⟨(blk_cell BK6001.out 0).trans rfl,(blk_cell BK6001.out 1).trans rfl,(blk_cell BK6001.out 2).trans rfl,(blk_cell BK6001.out 3).trans rfl,(blk_cell BK6001.out 4).trans rfl,(blk_cell BK6001.out 5).trans rfl,(blk_cell BK6001.out 6).trans rfl,(blk_cell BK6001.out 7).trans rfl⟩ (fun hHeld=>?_);refine with_tabW spec_FormatConstraint.tab7 spec_FormatConstraint.bits7 (fun HT_ HW_=>?_)
  generalize w21.drew=w23 at BK6001 HB hHeld ⊢
  refine pure_ (i:=0) (N:=some 22) (v:=?_) (a':=?_) #[true,false,false,false,false,false,false,false,false] rfl rfl (any_of HT_.out (by kernel_rfl)) (fun _ _ _ h=>h) (Or.inl ⟨by rfl,?_⟩) ?_ ?_
  rotate_left
  · intro w'
    go_simp
    exact zr2
  rotate_left
  · simp only [Act.put,zt,zu,zv,i64_w,i32_w]
    rfl
  refine pure_ (i:=4) (N:=some 26) (v:=?_) (a':=?_) #[true,false,false,false,true,false,false,false,false] rfl rfl (any_of HT_.out (by kernel_rfl)) (fun _ _ _ h=>h) (Or.inl ⟨by rfl,?_⟩) ?_ ?_
  rotate_left
  · intro w'
    go_simp
    exact zr2
  rotate_left
  · simp only [Act.put,zt,zu,zv,i64_w,i32_w]
    rfl
  refine take_ (i:=1) (N:=some 23) (v:=?_) (a':=?_) #[true,true,false,false,true,false,false,false,false] rfl rfl (take_ofW HT_.out HW_.out (by kernel_rfl)) (fun _ _ _ h=>h) (Or.inl ⟨by rfl,?_⟩) hHeld ?_ ?_
  rotate_left
  · rintro w' ⟨s0,s1,s2,s3,s4,s5,s6,s7⟩
    go_simp
    exact zr2
  rotate_left
  · simp only [Act.put,zt,zu,zv,i64_w,i32_w]
    rfl
  refine take_ (i:=5) (N:=some 27) (v:=?_) (a':=?_) #[true,true,false,false,true,true,false,false,false] rfl rfl (take_ofW HT_.out HW_.out (by kernel_rfl)) (fun _ _ _ h=>h) (Or.inl ⟨by rfl,?_⟩) hHeld ?_ ?_
  rotate_left
  · rintro w' ⟨s0,s1,s2,s3,s4,s5,s6,s7⟩
    go_simp
    exact zr2
  rotate_left
  · simp only [Act.put,zt,zu,zv,i64_w,i32_w]
    rfl
  refine one_ (i:=2) (N:=some 24) #[true,true,true,false,true,true,false,false,false] rfl rfl (one_of HT_.out (by kernel_rfl)) (by decide) (fun K hK=>?_)
  refine goes_ Tryd.func18 (by kernel_rfl) rfl #[.string a0_1] (by rfl) rfl rfl za5 ?_
  with_reducible refine (spec_l9Term.calls a0_1 t6005 _ A15.out).mono ?_
  rintro e w' ⟨rfl,⟨nd,rfl⟩⟩
  refine ⟨_,rfl,?_⟩
  refine hK.out _ _ ⟨(blk_cell BK6001.out 0).trans rfl,(blk_cell BK6001.out 1).trans rfl,(blk_cell BK6001.out 2).trans rfl,(blk_cell BK6001.out 3).trans rfl,(blk_cell BK6001.out 4).trans rfl,(blk_cell BK6001.out 5).trans rfl,(blk_cell BK6001.out 6).trans rfl,(blk_cell BK6001.out 7).trans rfl⟩ (fun hHeld=>?_)
  clear hK K
  refine norm_ (a':=?_) ?_ ?_
  rotate_left
  · show Act.put _ (some 24) _=_
    simp only [Act.put,zt,zu,zv,i64_w,i32_w]
    rfl
  refine pure_ (i:=3) (N:=some 25) (v:=?_) (a':=?_) #[true,true,true,true,true,true,false,false,false] rfl rfl (any_of HT_.out (by kernel_rfl)) (fun _ _ _ h=>h) (Or.inl ⟨by rfl,?_⟩) ?_ ?_
  rotate_left
  · intro w'
    go_simp
    exact zr2
  rotate_left
  · simp only [Act.put,zt,zu,zv,i64_w,i32_w]
    rfl
  refine one_ (i:=6) (N:=some 28) #[true,true,true,true,true,true,true,false,false] rfl rfl (one_of HT_.out (by kernel_rfl)) (by decide) (fun K hK=>?_)
  refine goes_ Tryd.func18 (by kernel_rfl) rfl #[.string a0_2] (by rfl) rfl rfl za5 ?_
  with_reducible refine (spec_l9Term.calls a0_2 t6006 _ A17.out).mono ?_
  rintro e w' ⟨rfl,⟨nd,rfl⟩⟩
  refine ⟨_,rfl,?_⟩
  refine hK.out _ _ ⟨(blk_cell BK6001.out 0).trans rfl,(blk_cell BK6001.out 1).trans rfl,(blk_cell BK6001.out 2).trans rfl,(blk_cell BK6001.out 3).trans rfl,(blk_cell BK6001.out 4).trans rfl,(blk_cell BK6001.out 5).trans rfl,(blk_cell BK6001.out 6).trans rfl,(blk_cell BK6001.out 7).trans rfl⟩ (fun hHeld=>?_)
  clear hK K
  refine norm_ (a':=?_) ?_ ?_
  rotate_left
  · show Act.put _ (some 28) _=_
    simp only [Act.put,zt,zu,zv,i64_w,i32_w]
    rfl
  refine pure_ (i:=7) (N:=some 29) (v:=?_) (a':=?_) #[true,true,true,true,true,true,true,true,false] rfl rfl (any_of HT_.out (by kernel_rfl)) (fun _ _ _ h=>h) (Or.inl ⟨by rfl,?_⟩) ?_ ?_
  rotate_left
  · intro w'
    go_simp
    exact zr2
  rotate_left
  · simp only [Act.put,zt,zu,zv,i64_w,i32_w]
    rfl
  refine pure_ (i:=8) (N:=some 2) (v:=?_) (a':=?_) #[true,true,true,true,true,true,true,true,true] rfl rfl (any_of HT_.out (by kernel_rfl)) (fun _ _ _ h=>h) (Or.inl ⟨by rfl,?_⟩) ?_ ?_
  rotate_left
  · intro w'
    go_simp
    exact zr2
  rotate_left
  · simp only [Act.put,zt,zu,zv,i64_w,i32_w]
    rfl
  refine done_ (done_of HT_.out (by kernel_rfl)) ?_
  try go_wp2
  go_ret
  exact ⟨za6,za2⟩
 ·rw [if_neg c18] at H
  exact absurd H (by simp)
 ·rw [if_neg c16] at H
  exact absurd H (by simp)
 rw [if_neg c14] at H
 have c14b0:(a0_0 == 2)=false:=beq_eq_false_iff_ne.mpr c14
 have c14b1:(a0_0 != 2)=true:=bne_iff_ne.mpr c14
 by_cases c24:a0_0=3
 rw [if_pos c24] at H
 have c24b0:(a0_0 == 3)=true:=beq_iff_eq.mpr c24
 have c24b1:(a0_0 != 3)=false:=bne_eq_false_iff_eq.mpr c24
 clear c24
 replace H:=zo H
 obtain ⟨t6007,A250,H⟩:=H
 replace H:(if t6007.size+4≤9223372036854775807 then ((spec_FormatRegex.f k a0_3 a0_4 l0_5).bind fun t6008=>(if (t6007 ++ (⟨#[32,105,110,32]⟩:ByteArray)).size+t6008.size≤9223372036854775807 then (some ((t6007 ++ (⟨#[32,105,110,32]⟩:ByteArray)) ++ t6008)) else (none))) else (none))=some r:=H
 have A25:=zk A250
 clear A250
 by_cases c26:t6007.size+4≤9223372036854775807
 rw [if_pos c26] at H
 have c26z:=c26
 try simp at c26z
 try replace c26z:=eq_false (Nat.not_lt.2 c26z)
 have c26b0:=eq_true c26
 have c26b1:decide (t6007.size+4≤9223372036854775807)=true:=decide_eq_true c26
 try have c26b2:(9223372036854775807 < t6007.size+4)=False:=eq_false (Nat.not_lt.2 c26)
 replace H:=zo H
 obtain ⟨t6008,A270,H⟩:=H
 replace H:(if (t6007 ++ (⟨#[32,105,110,32]⟩:ByteArray)).size+t6008.size≤9223372036854775807 then (some ((t6007 ++ (⟨#[32,105,110,32]⟩:ByteArray)) ++ t6008)) else (none))=some r:=H
 have A27:=zk A270
 clear A270
 by_cases c28:(t6007 ++ (⟨#[32,105,110,32]⟩:ByteArray)).size+t6008.size≤9223372036854775807
 ·rw [if_pos c28] at H
  have c28z:=c28
  try simp at c28z
  try replace c28z:=eq_false (Nat.not_lt.2 c28z)
  have c28b0:=eq_true c28
  have c28b1:decide ((t6007 ++ (⟨#[32,105,110,32]⟩:ByteArray)).size+t6008.size≤9223372036854775807)=true:=decide_eq_true c28
  try have c28y:(9223372036854775807 < t6007.size+4+t6008.size)=False:=eq_false (by have q_:=c28;simp only [ByteArray.size_append,show (⟨#[32,105,110,32]⟩:ByteArray).size=4 from rfl] at q_;omega)
  try have c28b2:(9223372036854775807 < (t6007 ++ (⟨#[32,105,110,32]⟩:ByteArray)).size+t6008.size)=False:=eq_false (Nat.not_lt.2 c28)
  obtain rfl:=zi H
  go_enter Tryd.func6,Tryd.ntmps6
  try go_wp2_with (first|((with_reducible refine gate_dst (N:=1) rfl ?_);refine zE (N:=1) (cs:=#[.int .i64 a0_0,.string a0_1,.string a0_2,.int .i64 a0_3,.string a0_4,.slice A0_5 l0_5.length c0_5,.slice A0_6 l0_6.length c0_6,.int .i64 a0_7]) (t:=34) ?_;intro gb6001 hg w29 hbox hb;have n0_:=zk (below_step za2 hb);have n1_:=zk (hbox);have n2_:=zk (zs (w:=w) hg za2);have n3_:=zk (zs (w:=w) hg za2);clear HB;have HB:=n0_;have BK6001:=n1_;have GW6001:=n2_;have GE6001:=n3_;clear n0_ n1_ n2_ n3_;clear hb hbox hg;obtain ⟨hcz30_0,hcz30_1,hcz30_2,hcz30_3,hcz30_4,hcz30_5,hcz30_6,hcz30_7,hfz30_0,hfz30_1,hfz30_2,hfz30_3,hfz30_4,hfz30_5,hfz30_6,hfz30_7⟩:=blk8 BK6001.out)|((with_reducible refine gate_callee (f:=17) rfl ?_);refine goesL_ (some 6) rfl rfl Tryd.func17 (by kernel_rfl) rfl #[.agg #[.int .i64 a0_0,.string a0_1,.string a0_2,.int .i64 a0_3,.string a0_4,.slice A0_5 l0_5.length c0_5,.slice A0_6 l0_6.length c0_6,.int .i64 a0_7]] rfl za5 ?_;(with_reducible refine (spec_IsValidConstraint.calls k a0_0 a0_1 a0_2 a0_3 a0_4 _ _ l0_5 _ _ l0_6 a0_7 _ _ ?side1 ?side2 ?side3 ?side4 A2.out).mono ?_);(case side1=>repeat (first|exact (Kd.C_below HR0_5.out HB.out)|(with_reducible refine Kd.C_alloc ?_ _)|(with_reducible refine Kd.C_drewN ?_ _)|(with_reducible refine Kd.C_drew ?_)));(case side2=>exact HC0_5.out);(case side3=>repeat (first|exact (Kd.C_below HR0_6.out HB.out)|(with_reducible refine Kd.C_alloc ?_ _)|(with_reducible refine Kd.C_drewN ?_ _)|(with_reducible refine Kd.C_drew ?_)));(case side4=>exact HC0_6.out);rintro e w31 ⟨rfl,hb⟩;refine ⟨_,rfl,?_⟩;have n0_:=zk (zb BK6001.out hb);have n1_:=zk (below_step za2 hb);clear BK6001;clear HB;have BK6001:=n0_;have HB:=n1_;clear n0_ n1_;(try clear hb);(try clear hb2);(try clear hk);(try clear hi);obtain ⟨hcz32_0,hcz32_1,hcz32_2,hcz32_3,hcz32_4,hcz32_5,hcz32_6,hcz32_7,hfz32_0,hfz32_1,hfz32_2,hfz32_3,hfz32_4,hfz32_5,hfz32_6,hfz32_7⟩:=blk8 BK6001.out))
  have n0_:=zk (blk_drew BK6001.out)
  have n1_:=zk (below_drew1 HB.out)
  clear BK6001
  clear HB
  have BK6001:=n0_
  have HB:=n1_
  clear n0_ n1_
  refine start_ (n:=9) (S:=fun w'=>w'.cell? ⟨gb6001,0,none⟩=some (.int .i64 a0_0)∧w'.cell? ⟨gb6001,1,none⟩=some (.string a0_1)∧w'.cell? ⟨gb6001,2,none⟩=some (.string a0_2)∧w'.cell? ⟨gb6001,3,none⟩=some (.int .i64 a0_3)∧w'.cell? ⟨gb6001,4,none⟩=some (.string a0_4)∧w'.cell? ⟨gb6001,5,none⟩=some (.slice A0_5 l0_5.length c0_5)∧w'.cell? ⟨gb6001,6,none⟩=some (.slice A0_6 l0_6.length c0_6)∧w'.cell? ⟨gb6001,7,none⟩=some (.int .i64 a0_7)) (ds:=[]) #[false,false,false,false,false,false,false,false,false] (by kernel_rfl) rfl rfl ⟨(blk_cell BK6001.out 0).trans rfl,(blk_cell BK6001.out 1).trans rfl,(blk_cell BK6001.out 2).trans rfl,(blk_cell BK6001.out 3).trans rfl,(blk_cell BK6001.out 4).trans rfl,(blk_cell BK6001.out 5).trans rfl,(blk_cell BK6001.out 6).trans rfl,(blk_cell BK6001.out 7).trans rfl⟩ (fun hHeld=>?_);refine with_tabW spec_FormatConstraint.tab9 spec_FormatConstraint.bits9 (fun HT_ HW_=>?_)
  generalize w31.drew=w33 at BK6001 HB hHeld ⊢
  refine pure_ (i:=0) (N:=some 32) (v:=?_) (a':=?_) #[true,false,false,false,false,false,false,false,false] rfl rfl (any_of HT_.out (by kernel_rfl)) (fun _ _ _ h=>h) (Or.inl ⟨by rfl,?_⟩) ?_ ?_
  rotate_left
  · intro w'
    go_simp
    exact zr2
  rotate_left
  · simp only [Act.put,zt,zu,zv,i64_w,i32_w]
    rfl
  refine pure_ (i:=4) (N:=some 36) (v:=?_) (a':=?_) #[true,false,false,false,true,false,false,false,false] rfl rfl (any_of HT_.out (by kernel_rfl)) (fun _ _ _ h=>h) (Or.inl ⟨by rfl,?_⟩) ?_ ?_
  rotate_left
  · intro w'
    go_simp
    exact zr2
  rotate_left
  · simp only [Act.put,zt,zu,zv,i64_w,i32_w]
    rfl
  refine take_ (i:=1) (N:=some 33) (v:=?_) (a':=?_) #[true,true,false,false,true,false,false,false,false] rfl rfl (take_ofW HT_.out HW_.out (by kernel_rfl)) (fun _ _ _ h=>h) (Or.inl ⟨by rfl,?_⟩) hHeld ?_ ?_
  rotate_left
  · rintro w' ⟨s0,s1,s2,s3,s4,s5,s6,s7⟩
    go_simp
    exact zr2
  rotate_left
  · simp only [Act.put,zt,zu,zv,i64_w,i32_w]
    rfl
  refine take_ (i:=5) (N:=some 37) (v:=?_) (a':=?_) #[true,true,false,false,true,true,false,false,false] rfl rfl (take_ofW HT_.out HW_.out (by kernel_rfl)) (fun _ _ _ h=>h) (Or.inl ⟨by rfl,?_⟩) hHeld ?_ ?_
  rotate_left
  · rintro w' ⟨s0,s1,s2,s3,s4,s5,s6,s7⟩
    go_simp
    exact zr2
  rotate_left
  · simp only [Act.put,zt,zu,zv,i64_w,i32_w]
    rfl
  refine one_ (i:=2) (N:=some 34) #[true,true,true,false,true,true,false,false,false] rfl rfl (one_of HT_.out (by kernel_rfl)) (by decide) (fun K hK=>?_)
  refine goes_ Tryd.func18 (by kernel_rfl) rfl #[.string a0_1] (by rfl) rfl rfl za5 ?_
  with_reducible refine (spec_l9Term.calls a0_1 t6007 _ A25.out).mono ?_
  rintro e w' ⟨rfl,⟨nd,rfl⟩⟩
  refine ⟨_,rfl,?_⟩
  refine hK.out _ _ ⟨(blk_cell BK6001.out 0).trans rfl,(blk_cell BK6001.out 1).trans rfl,(blk_cell BK6001.out 2).trans rfl,(blk_cell BK6001.out 3).trans rfl,(blk_cell BK6001.out 4).trans rfl,(blk_cell BK6001.out 5).trans rfl,(blk_cell BK6001.out 6).trans rfl,(blk_cell BK6001.out 7).trans rfl⟩ (fun hHeld=>?_)
  clear hK K
  refine norm_ (a':=?_) ?_ ?_
  rotate_left
  · show Act.put _ (some 34) _=_
    simp only [Act.put,zt,zu,zv,i64_w,i32_w]
    rfl
  refine pure_ (i:=3) (N:=some 35) (v:=?_) (a':=?_) #[true,true,true,true,true,true,false,false,false] rfl rfl (any_of HT_.out (by kernel_rfl)) (fun _ _ _ h=>h) (Or.inl ⟨by rfl,?_⟩) ?_ ?_
  rotate_left
  · intro w'
    go_simp
    exact zr2
  rotate_left
  · simp only [Act.put,zt,zu,zv,i64_w,i32_w]
    rfl
  refine one_ (i:=6) (N:=some 38) #[true,true,true,true,true,true,true,false,false] rfl rfl (one_of HT_.out (by kernel_rfl)) (by decide) (fun K hK=>?_)
  refine goes_ Tryd.func19 (by kernel_rfl) rfl #[.agg #[.int .i64 a0_3,.string a0_4,.slice A0_5 l0_5.length c0_5]] (by rfl) rfl rfl za5 ?_
  with_reducible refine (spec_FormatRegex.calls k a0_3 a0_4 _ _ l0_5 t6008 _ ?side1 ?side2 A27.out).mono ?_
  (case side1=>repeat (first|exact (Kd.C_below HR0_5.out za2)|(with_reducible refine Kd.C_alloc ?_ _)|(with_reducible refine Kd.C_drewN ?_ _)|(with_reducible refine Kd.C_drew ?_)))
  (case side2=>exact HC0_5.out)
  rintro e w34 ⟨rfl,hb⟩
  refine ⟨_,rfl,?_⟩
  have n0_:=zk (zb BK6001.out hb)
  have n1_:=zk (below_step za2 hb)
  clear BK6001
  clear HB
  have BK6001:=n0_
  have HB:=n1_
  clear n0_ n1_
  (try clear hb)
  (try clear hb2)
  (try clear hk)
  (try clear hi)
  refine hK.out _ _ ⟨(blk_cell BK6001.out 0).trans rfl,(blk_cell BK6001.out 1).trans rfl,(blk_cell BK6001.out 2).trans rfl,(blk_cell BK6001.out 3).trans rfl,(blk_cell BK6001.out 4).trans rfl,(blk_cell BK6001.out 5).trans rfl,(blk_cell BK6001.out 6).trans rfl,(blk_cell BK6001.out 7).trans rfl⟩ (fun hHeld=>?_)
  clear hK K
  refine norm_ (a':=?_) ?_ ?_
  rotate_left
  · show Act.put _ (some 38) _=_
    simp only [Act.put,zt,zu,zv,i64_w,i32_w]
    rfl
  refine pure_ (i:=7) (N:=some 39) (v:=?_) (a':=?_) #[true,true,true,true,true,true,true,true,false] rfl rfl (any_of HT_.out (by kernel_rfl)) (fun _ _ _ h=>h) (Or.inl ⟨by rfl,?_⟩) ?_ ?_
  rotate_left
  · intro w'
    go_simp
    exact zr2
  rotate_left
  · simp only [Act.put,zt,zu,zv,i64_w,i32_w]
    rfl
  refine pure_ (i:=8) (N:=some 2) (v:=?_) (a':=?_) #[true,true,true,true,true,true,true,true,true] rfl rfl (any_of HT_.out (by kernel_rfl)) (fun _ _ _ h=>h) (Or.inl ⟨by rfl,?_⟩) ?_ ?_
  rotate_left
  · intro w'
    go_simp
    exact zr2
  rotate_left
  · simp only [Act.put,zt,zu,zv,i64_w,i32_w]
    rfl
  refine done_ (done_of HT_.out (by kernel_rfl)) ?_
  try go_wp2
  go_ret
  exact ⟨za6,za2⟩
 ·rw [if_neg c28] at H
  exact absurd H (by simp)
 ·rw [if_neg c26] at H
  exact absurd H (by simp)
 rw [if_neg c24] at H
 have c24b0:(a0_0 == 3)=false:=beq_eq_false_iff_ne.mpr c24
 have c24b1:(a0_0 != 3)=true:=bne_iff_ne.mpr c24
 by_cases c35:a0_0=4
 rw [if_pos c35] at H
 have c35b0:(a0_0 == 4)=true:=beq_iff_eq.mpr c35
 have c35b1:(a0_0 != 4)=false:=bne_eq_false_iff_eq.mpr c35
 clear c35
 replace H:=zo H
 obtain ⟨t6009,A360,H⟩:=H
 replace H:(if t6009.size+5≤9223372036854775807 then ((spec_FormatRegex.f k a0_3 a0_4 l0_5).bind fun t6010=>(if (t6009 ++ (⟨#[32,111,117,116,32]⟩:ByteArray)).size+t6010.size≤9223372036854775807 then (some ((t6009 ++ (⟨#[32,111,117,116,32]⟩:ByteArray)) ++ t6010)) else (none))) else (none))=some r:=H
 have A36:=zk A360
 clear A360
 by_cases c37:t6009.size+5≤9223372036854775807
 rw [if_pos c37] at H
 have c37z:=c37
 try simp at c37z
 try replace c37z:=eq_false (Nat.not_lt.2 c37z)
 have c37b0:=eq_true c37
 have c37b1:decide (t6009.size+5≤9223372036854775807)=true:=decide_eq_true c37
 try have c37b2:(9223372036854775807 < t6009.size+5)=False:=eq_false (Nat.not_lt.2 c37)
 replace H:=zo H
 obtain ⟨t6010,A380,H⟩:=H
 replace H:(if (t6009 ++ (⟨#[32,111,117,116,32]⟩:ByteArray)).size+t6010.size≤9223372036854775807 then (some ((t6009 ++ (⟨#[32,111,117,116,32]⟩:ByteArray)) ++ t6010)) else (none))=some r:=H
 have A38:=zk A380
 clear A380
 by_cases c39:(t6009 ++ (⟨#[32,111,117,116,32]⟩:ByteArray)).size+t6010.size≤9223372036854775807
 ·rw [if_pos c39] at H
  have c39z:=c39
  try simp at c39z
  try replace c39z:=eq_false (Nat.not_lt.2 c39z)
  have c39b0:=eq_true c39
  have c39b1:decide ((t6009 ++ (⟨#[32,111,117,116,32]⟩:ByteArray)).size+t6010.size≤9223372036854775807)=true:=decide_eq_true c39
  try have c39y:(9223372036854775807 < t6009.size+5+t6010.size)=False:=eq_false (by have q_:=c39;simp only [ByteArray.size_append,show (⟨#[32,111,117,116,32]⟩:ByteArray).size=5 from rfl] at q_;omega)
  try have c39b2:(9223372036854775807 < (t6009 ++ (⟨#[32,111,117,116,32]⟩:ByteArray)).size+t6010.size)=False:=eq_false (Nat.not_lt.2 c39)
  obtain rfl:=zi H
  go_enter Tryd.func6,Tryd.ntmps6
  try go_wp2_with (first|((with_reducible refine gate_dst (N:=1) rfl ?_);refine zE (N:=1) (cs:=#[.int .i64 a0_0,.string a0_1,.string a0_2,.int .i64 a0_3,.string a0_4,.slice A0_5 l0_5.length c0_5,.slice A0_6 l0_6.length c0_6,.int .i64 a0_7]) (t:=34) ?_;intro gb6001 hg w40 hbox hb;have n0_:=zk (below_step za2 hb);have n1_:=zk (hbox);have n2_:=zk (zs (w:=w) hg za2);have n3_:=zk (zs (w:=w) hg za2);clear HB;have HB:=n0_;have BK6001:=n1_;have GW6001:=n2_;have GE6001:=n3_;clear n0_ n1_ n2_ n3_;clear hb hbox hg;obtain ⟨hcz41_0,hcz41_1,hcz41_2,hcz41_3,hcz41_4,hcz41_5,hcz41_6,hcz41_7,hfz41_0,hfz41_1,hfz41_2,hfz41_3,hfz41_4,hfz41_5,hfz41_6,hfz41_7⟩:=blk8 BK6001.out)|((with_reducible refine gate_callee (f:=17) rfl ?_);refine goesL_ (some 6) rfl rfl Tryd.func17 (by kernel_rfl) rfl #[.agg #[.int .i64 a0_0,.string a0_1,.string a0_2,.int .i64 a0_3,.string a0_4,.slice A0_5 l0_5.length c0_5,.slice A0_6 l0_6.length c0_6,.int .i64 a0_7]] rfl za5 ?_;(with_reducible refine (spec_IsValidConstraint.calls k a0_0 a0_1 a0_2 a0_3 a0_4 _ _ l0_5 _ _ l0_6 a0_7 _ _ ?side1 ?side2 ?side3 ?side4 A2.out).mono ?_);(case side1=>repeat (first|exact (Kd.C_below HR0_5.out HB.out)|(with_reducible refine Kd.C_alloc ?_ _)|(with_reducible refine Kd.C_drewN ?_ _)|(with_reducible refine Kd.C_drew ?_)));(case side2=>exact HC0_5.out);(case side3=>repeat (first|exact (Kd.C_below HR0_6.out HB.out)|(with_reducible refine Kd.C_alloc ?_ _)|(with_reducible refine Kd.C_drewN ?_ _)|(with_reducible refine Kd.C_drew ?_)));(case side4=>exact HC0_6.out);rintro e w42 ⟨rfl,hb⟩;refine ⟨_,rfl,?_⟩;have n0_:=zk (zb BK6001.out hb);have n1_:=zk (below_step za2 hb);clear BK6001;clear HB;have BK6001:=n0_;have HB:=n1_;clear n0_ n1_;(try clear hb);(try clear hb2);(try clear hk);(try clear hi);obtain ⟨hcz43_0,hcz43_1,hcz43_2,hcz43_3,hcz43_4,hcz43_5,hcz43_6,hcz43_7,hfz43_0,hfz43_1,hfz43_2,hfz43_3,hfz43_4,hfz43_5,hfz43_6,hfz43_7⟩:=blk8 BK6001.out))
  have n0_:=zk (blk_drew BK6001.out)
  have n1_:=zk (below_drew1 HB.out)
  clear BK6001
  clear HB
  have BK6001:=n0_
  have HB:=n1_
  clear n0_ n1_
  refine start_ (n:=9) (S:=fun w'=>w'.cell? ⟨gb6001,0,none⟩=some (.int .i64 a0_0)∧w'.cell? ⟨gb6001,1,none⟩=some (.string a0_1)∧w'.cell? ⟨gb6001,2,none⟩=some (.string a0_2)∧w'.cell? ⟨gb6001,3,none⟩=some (.int .i64 a0_3)∧w'.cell? ⟨gb6001,4,none⟩=some (.string a0_4)∧w'.cell? ⟨gb6001,5,none⟩=some (.slice A0_5 l0_5.length c0_5)∧w'.cell? ⟨gb6001,6,none⟩=some (.slice A0_6 l0_6.length c0_6)∧w'.cell? ⟨gb6001,7,none⟩=some (.int .i64 a0_7)) (ds:=[]) #[false,false,false,false,false,false,false,false,false] (by kernel_rfl) rfl rfl ⟨(blk_cell BK6001.out 0).trans rfl,(blk_cell BK6001.out 1).trans rfl,(blk_cell BK6001.out 2).trans rfl,(blk_cell BK6001.out 3).trans rfl,(blk_cell BK6001.out 4).trans rfl,(blk_cell BK6001.out 5).trans rfl,(blk_cell BK6001.out 6).trans rfl,(blk_cell BK6001.out 7).trans rfl⟩ (fun hHeld=>?_);refine with_tabW spec_FormatConstraint.tab11 spec_FormatConstraint.bits11 (fun HT_ HW_=>?_)
  generalize w42.drew=w44 at BK6001 HB hHeld ⊢
  refine pure_ (i:=0) (N:=some 42) (v:=?_) (a':=?_) #[true,false,false,false,false,false,false,false,false] rfl rfl (any_of HT_.out (by kernel_rfl)) (fun _ _ _ h=>h) (Or.inl ⟨by rfl,?_⟩) ?_ ?_
  rotate_left
  · intro w'
    go_simp
    exact zr2
  rotate_left
  · simp only [Act.put,zt,zu,zv,i64_w,i32_w]
    rfl
  refine pure_ (i:=4) (N:=some 46) (v:=?_) (a':=?_) #[true,false,false,false,true,false,false,false,false] rfl rfl (any_of HT_.out (by kernel_rfl)) (fun _ _ _ h=>h) (Or.inl ⟨by rfl,?_⟩) ?_ ?_
  rotate_left
  · intro w'
    go_simp
    exact zr2
  rotate_left
  · simp only [Act.put,zt,zu,zv,i64_w,i32_w]
    rfl
  refine take_ (i:=1) (N:=some 43) (v:=?_) (a':=?_) #[true,true,false,false,true,false,false,false,false] rfl rfl (take_ofW HT_.out HW_.out (by kernel_rfl)) (fun _ _ _ h=>h) (Or.inl ⟨by rfl,?_⟩) hHeld ?_ ?_
  rotate_left
  · rintro w' ⟨s0,s1,s2,s3,s4,s5,s6,s7⟩
    go_simp
    exact zr2
  rotate_left
  · simp only [Act.put,zt,zu,zv,i64_w,i32_w]
    rfl
  refine take_ (i:=5) (N:=some 47) (v:=?_) (a':=?_) #[true,true,false,false,true,true,false,false,false] rfl rfl (take_ofW HT_.out HW_.out (by kernel_rfl)) (fun _ _ _ h=>h) (Or.inl ⟨by rfl,?_⟩) hHeld ?_ ?_
  rotate_left
  · rintro w' ⟨s0,s1,s2,s3,s4,s5,s6,s7⟩
    go_simp
    exact zr2
  rotate_left
  · simp only [Act.put,zt,zu,zv,i64_w,i32_w]
    rfl
  refine one_ (i:=2) (N:=some 44) #[true,true,true,false,true,true,false,false,false] rfl rfl (one_of HT_.out (by kernel_rfl)) (by decide) (fun K hK=>?_)
  refine goes_ Tryd.func18 (by kernel_rfl) rfl #[.string a0_1] (by rfl) rfl rfl za5 ?_
  with_reducible refine (spec_l9Term.calls a0_1 t6009 _ A36.out).mono ?_
  rintro e w' ⟨rfl,⟨nd,rfl⟩⟩
  refine ⟨_,rfl,?_⟩
  refine hK.out _ _ ⟨(blk_cell BK6001.out 0).trans rfl,(blk_cell BK6001.out 1).trans rfl,(blk_cell BK6001.out 2).trans rfl,(blk_cell BK6001.out 3).trans rfl,(blk_cell BK6001.out 4).trans rfl,(blk_cell BK6001.out 5).trans rfl,(blk_cell BK6001.out 6).trans rfl,(blk_cell BK6001.out 7).trans rfl⟩ (fun hHeld=>?_)
  clear hK K
  refine norm_ (a':=?_) ?_ ?_
  rotate_left
  · show Act.put _ (some 44) _=_
    simp only [Act.put,zt,zu,zv,i64_w,i32_w]
    rfl
  refine pure_ (i:=3) (N:=some 45) (v:=?_) (a':=?_) #[true,true,true,true,true,true,false,false,false] rfl rfl (any_of HT_.out (by kernel_rfl)) (fun _ _ _ h=>h) (Or.inl ⟨by rfl,?_⟩) ?_ ?_
  rotate_left
  · intro w'
    go_simp
    exact zr2
  rotate_left
  · simp only [Act.put,zt,zu,zv,i64_w,i32_w]
    rfl
  refine one_ (i:=6) (N:=some 48) #[true,true,true,true,true,true,true,false,false] rfl rfl (one_of HT_.out (by kernel_rfl)) (by decide) (fun K hK=>?_)
  refine goes_ Tryd.func19 (by kernel_rfl) rfl #[.agg #[.int .i64 a0_3,.string a0_4,.slice A0_5 l0_5.length c0_5]] (by rfl) rfl rfl za5 ?_
  with_reducible refine (spec_FormatRegex.calls k a0_3 a0_4 _ _ l0_5 t6010 _ ?side1 ?side2 A38.out).mono ?_
  (case side1=>repeat (first|exact (Kd.C_below HR0_5.out za2)|(with_reducible refine Kd.C_alloc ?_ _)|(with_reducible refine Kd.C_drewN ?_ _)|(with_reducible refine Kd.C_drew ?_)))
  (case side2=>exact HC0_5.out)
  rintro e w45 ⟨rfl,hb⟩
  refine ⟨_,rfl,?_⟩
  have n0_:=zk (zb BK6001.out hb)
  have n1_:=zk (below_step za2 hb)
  clear BK6001
  clear HB
  have BK6001:=n0_
  have HB:=n1_
  clear n0_ n1_
  (try clear hb)
  (try clear hb2)
  (try clear hk)
  (try clear hi)
  refine hK.out _ _ ⟨(blk_cell BK6001.out 0).trans rfl,(blk_cell BK6001.out 1).trans rfl,(blk_cell BK6001.out 2).trans rfl,(blk_cell BK6001.out 3).trans rfl,(blk_cell BK6001.out 4).trans rfl,(blk_cell BK6001.out 5).trans rfl,(blk_cell BK6001.out 6).trans rfl,(blk_cell BK6001.out 7).trans rfl⟩ (fun hHeld=>?_)
  clear hK K
  refine norm_ (a':=?_) ?_ ?_
  rotate_left
  · show Act.put _ (some 48) _=_
    simp only [Act.put,zt,zu,zv,i64_w,i32_w]
    rfl
  refine pure_ (i:=7) (N:=some 49) (v:=?_) (a':=?_) #[true,true,true,true,true,true,true,true,false] rfl rfl (any_of HT_.out (by kernel_rfl)) (fun _ _ _ h=>h) (Or.inl ⟨by rfl,?_⟩) ?_ ?_
  rotate_left
  · intro w'
    go_simp
    exact zr2
  rotate_left
  · simp only [Act.put,zt,zu,zv,i64_w,i32_w]
    rfl
  refine pure_ (i:=8) (N:=some 2) (v:=?_) (a':=?_) #[true,true,true,true,true,true,true,true,true] rfl rfl (any_of HT_.out (by kernel_rfl)) (fun _ _ _ h=>h) (Or.inl ⟨by rfl,?_⟩) ?_ ?_
  rotate_left
  · intro w'
    go_simp
    exact zr2
  rotate_left
  · simp only [Act.put,zt,zu,zv,i64_w,i32_w]
    rfl
  refine done_ (done_of HT_.out (by kernel_rfl)) ?_
  try go_wp2
  go_ret
  exact ⟨za6,za2⟩
 ·rw [if_neg c39] at H
  exact absurd H (by simp)
 ·rw [if_neg c37] at H
  exact absurd H (by simp)
 ·rw [if_neg c35] at H
  have c35b0:(a0_0 == 4)=false:=beq_eq_false_iff_ne.mpr c35
  have c35b1:(a0_0 != 4)=true:=bne_iff_ne.mpr c35
  have H':=zk H
  clear H
  go_enter Tryd.func6,Tryd.ntmps6
  go_wp2_with (first|((with_reducible refine gate_dst (N:=1) rfl ?_);refine zE (N:=1) (cs:=#[.int .i64 a0_0,.string a0_1,.string a0_2,.int .i64 a0_3,.string a0_4,.slice A0_5 l0_5.length c0_5,.slice A0_6 l0_6.length c0_6,.int .i64 a0_7]) (t:=34) ?_;intro gb6001 hg w46 hbox hb;have n0_:=zk (below_step za2 hb);have n1_:=zk (hbox);have n2_:=zk (zs (w:=w) hg za2);have n3_:=zk (zs (w:=w) hg za2);clear HB;have HB:=n0_;have BK6001:=n1_;have GW6001:=n2_;have GE6001:=n3_;clear n0_ n1_ n2_ n3_;clear hb hbox hg;obtain ⟨hcz47_0,hcz47_1,hcz47_2,hcz47_3,hcz47_4,hcz47_5,hcz47_6,hcz47_7,hfz47_0,hfz47_1,hfz47_2,hfz47_3,hfz47_4,hfz47_5,hfz47_6,hfz47_7⟩:=blk8 BK6001.out)|((with_reducible refine gate_callee (f:=17) rfl ?_);refine goesL_ (some 6) rfl rfl Tryd.func17 (by kernel_rfl) rfl #[.agg #[.int .i64 a0_0,.string a0_1,.string a0_2,.int .i64 a0_3,.string a0_4,.slice A0_5 l0_5.length c0_5,.slice A0_6 l0_6.length c0_6,.int .i64 a0_7]] rfl za5 ?_;(with_reducible refine (spec_IsValidConstraint.calls k a0_0 a0_1 a0_2 a0_3 a0_4 _ _ l0_5 _ _ l0_6 a0_7 _ _ ?side1 ?side2 ?side3 ?side4 A2.out).mono ?_);(case side1=>repeat (first|exact (Kd.C_below HR0_5.out HB.out)|(with_reducible refine Kd.C_alloc ?_ _)|(with_reducible refine Kd.C_drewN ?_ _)|(with_reducible refine Kd.C_drew ?_)));(case side2=>exact HC0_5.out);(case side3=>repeat (first|exact (Kd.C_below HR0_6.out HB.out)|(with_reducible refine Kd.C_alloc ?_ _)|(with_reducible refine Kd.C_drewN ?_ _)|(with_reducible refine Kd.C_drew ?_)));(case side4=>exact HC0_6.out);rintro e w48 ⟨rfl,hb⟩;refine ⟨_,rfl,?_⟩;have n0_:=zk (zb BK6001.out hb);have n1_:=zk (below_step za2 hb);clear BK6001;clear HB;have BK6001:=n0_;have HB:=n1_;clear n0_ n1_;(try clear hb);(try clear hb2);(try clear hk);(try clear hi);obtain ⟨hcz49_0,hcz49_1,hcz49_2,hcz49_3,hcz49_4,hcz49_5,hcz49_6,hcz49_7,hfz49_0,hfz49_1,hfz49_2,hfz49_3,hfz49_4,hfz49_5,hfz49_6,hfz49_7⟩:=blk8 BK6001.out))
  first|go_loopg [3,4] k (fun kq v3 v4 w'=>∃ (x3_1:ByteArray) (x4_1:Int),v3 = .string x3_1∧v4 = .int .i64 x4_1∧Aside0 (spec_FormatConstraint.l0 kq x3_1 x4_1 a0_0 a0_1 a0_2 a0_3 a0_4 l0_5 l0_6 a0_7=some r)∧Aside0 (kq≤k)∧Aside0 (w'.heap[gb6001]? = some (.cells #[.int .i64 a0_0,.string a0_1,.string a0_2,.int .i64 a0_3,.string a0_4,(.slice A0_5 l0_5.length c0_5),(.slice A0_6 l0_6.length c0_6),.int .i64 a0_7] 34 (0,0)))∧Aside0 (Below w.heap.size w w'))|(simp only [Act.put,zt,zv,zu];go_loopg [3,4] k (fun kq v3 v4 w'=>∃ (x3_1:ByteArray) (x4_1:Int),v3 = .string x3_1∧v4 = .int .i64 x4_1∧Aside0 (spec_FormatConstraint.l0 kq x3_1 x4_1 a0_0 a0_1 a0_2 a0_3 a0_4 l0_5 l0_6 a0_7=some r)∧Aside0 (kq≤k)∧Aside0 (w'.heap[gb6001]? = some (.cells #[.int .i64 a0_0,.string a0_1,.string a0_2,.int .i64 a0_3,.string a0_4,(.slice A0_5 l0_5.length c0_5),(.slice A0_6 l0_6.length c0_6),.int .i64 a0_7] 34 (0,0)))∧Aside0 (Below w.heap.size w w')))
  case atStart=>exact ⟨((⟨#[108,101,110]⟩:ByteArray)),(0),za7,za7,H',⟨Nat.le_refl _⟩,⟨za0 BK6001.out⟩,⟨za2⟩⟩
  case round =>
   clear H'
   try clear c35
   try clear c35b0
   try clear c35b1
   try clear hcz47_0
   try clear hcz47_1
   try clear hcz47_2
   try clear hcz47_3
   try clear hcz47_4
   try clear hcz47_5
   try clear hcz47_6
   try clear hcz47_7
   try clear hcz49_0
   try clear hcz49_1
   try clear hcz49_2
   try clear hcz49_3
   try clear hcz49_4
   try clear hcz49_5
   try clear hcz49_6
   try clear hcz49_7
   try clear hfz47_0
   try clear hfz47_1
   try clear hfz47_2
   try clear hfz47_3
   try clear hfz47_4
   try clear hfz47_5
   try clear hfz47_6
   try clear hfz47_7
   try clear hfz49_0
   try clear hfz49_1
   try clear hfz49_2
   try clear hfz49_3
   try clear hfz49_4
   try clear hfz49_5
   try clear hfz49_6
   try clear hfz49_7
   obtain ⟨x3_1,x4_1,rfl,rfl,HA,HK1,BK6001,HB⟩:=hrel
   cases gk with
   | zero=>exact absurd HA.out (by simp [spec_FormatConstraint.l0])
   | succ k1 =>
    have H:=HA.out
    clear HA
    simp only [spec_FormatConstraint.l0] at H
    by_cases c50:x4_1 < (l0_6.length:Int)
    rw [if_pos c50] at H
    have c50b0:decide (x4_1 < (l0_6.length:Int))=true:=decide_eq_true c50
    clear c50
    by_cases c51:x3_1.size+1≤9223372036854775807
    rw [if_pos c51] at H
    have c51z:=c51
    try simp at c51z
    try replace c51z:=eq_false (Nat.not_lt.2 c51z)
    have c51b0:=eq_true c51
    have c51b1:decide (x3_1.size+1≤9223372036854775807)=true:=decide_eq_true c51
    try have c51b2:(9223372036854775807 < x3_1.size+1)=False:=eq_false (Nat.not_lt.2 c51)
    by_cases c52:0≤x4_1
    rw [if_pos c52] at H
    have c52b0:decide (0≤x4_1)=true:=decide_eq_true c52
    clear c52
    replace H:=zo H
    obtain ⟨t6012,A530,H⟩:=H
    replace H:(if (x3_1 ++ (⟨#[32]⟩:ByteArray)).size+t6012.size≤9223372036854775807 then (spec_FormatConstraint.l0 k1 ((x3_1 ++ (⟨#[32]⟩:ByteArray)) ++ t6012) (wrap64 (x4_1+1)) a0_0 a0_1 a0_2 a0_3 a0_4 l0_5 l0_6 a0_7) else (none))=some r:=H
    have A53:=zk A530
    clear A530
    by_cases c54:(x3_1 ++ (⟨#[32]⟩:ByteArray)).size+t6012.size≤9223372036854775807
    ·rw [if_pos c54] at H
     have c54z:=c54
     try simp at c54z
     try replace c54z:=eq_false (Nat.not_lt.2 c54z)
     have c54b0:=eq_true c54
     have c54b1:decide ((x3_1 ++ (⟨#[32]⟩:ByteArray)).size+t6012.size≤9223372036854775807)=true:=decide_eq_true c54
     try have c54y:(9223372036854775807 < x3_1.size+1+t6012.size)=False:=eq_false (by have q_:=c54;simp only [ByteArray.size_append,show (⟨#[32]⟩:ByteArray).size=1 from rfl] at q_;omega)
     try have c54b2:(9223372036854775807 < (x3_1 ++ (⟨#[32]⟩:ByteArray)).size+t6012.size)=False:=eq_false (Nat.not_lt.2 c54)
     have H':=zk H
     clear H
     obtain ⟨hcz55_0,hcz55_1,hcz55_2,hcz55_3,hcz55_4,hcz55_5,hcz55_6,hcz55_7,hfz55_0,hfz55_1,hfz55_2,hfz55_3,hfz55_4,hfz55_5,hfz55_6,hfz55_7⟩:=blk8 BK6001.out
     have p6011:0≤(x4_1:Int):=of_decide_eq_true za8
     have q6011:x4_1 < (l0_6.length:Int):=of_decide_eq_true za8
     obtain ⟨ad6011,e6011,hx6011_0⟩:=Kd.at_int HR0_6.out x4_1 p6011 q6011
     cases e6011
     replace hx6011_0:=zx HB.out hx6011_0
     replace p6011:=eq_true p6011
     replace q6011:=eq_true q6011
     go_wp2_with (first|((with_reducible refine gate_callee (f:=20) rfl ?_);refine goesL_ (some 64) rfl rfl Tryd.func20 (by kernel_rfl) rfl #[.int .i64 (rd l0_6 x4_1)] rfl za5 ?_;(with_reducible refine (spec_FormatInt.calls k1 (rd l0_6 x4_1) t6012 _ A53.out).mono ?_);rintro e w56 ⟨rfl,hb⟩;refine ⟨_,rfl,?_⟩;have n0_:=zk (zb BK6001.out hb);have n1_:=zk (below_step za2 hb);clear BK6001;clear HB;have BK6001:=n0_;have HB:=n1_;clear n0_ n1_;(try clear hb);(try clear hb2);(try clear hk);(try clear hi)))
     go_roundg k1
     case measure=>have:=HK1.out;omega
     case rel=>exact ⟨((x3_1 ++ (⟨#[32]⟩:ByteArray)) ++ t6012),(wrap64 (x4_1+1)),za7,za7,H',⟨za13⟩,⟨za0 BK6001.out⟩,⟨za2⟩⟩
    ·rw [if_neg c54] at H
     exact absurd H (by simp)
    ·rw [if_neg c52] at H
     exact absurd H (by simp)
    ·rw [if_neg c51] at H
     exact absurd H (by simp)
    rw [if_neg c50] at H
    have c50b0:decide (x4_1 < (l0_6.length:Int))=false:=decide_eq_false c50
    clear c50
    by_cases c57:x3_1.size+1≤9223372036854775807
    rw [if_pos c57] at H
    have c57z:=c57
    try simp at c57z
    try replace c57z:=eq_false (Nat.not_lt.2 c57z)
    have c57b0:=eq_true c57
    have c57b1:decide (x3_1.size+1≤9223372036854775807)=true:=decide_eq_true c57
    try have c57b2:(9223372036854775807 < x3_1.size+1)=False:=eq_false (Nat.not_lt.2 c57)
    replace H:=zo H
    obtain ⟨t6013,A580,H⟩:=H
    replace H:(if (x3_1 ++ (⟨#[32]⟩:ByteArray)).size+t6013.size≤9223372036854775807 then (some ((x3_1 ++ (⟨#[32]⟩:ByteArray)) ++ t6013)) else (none))=some r:=H
    have A58:=zk A580
    clear A580
    by_cases c59:(x3_1 ++ (⟨#[32]⟩:ByteArray)).size+t6013.size≤9223372036854775807
    ·rw [if_pos c59] at H
     have c59z:=c59
     try simp at c59z
     try replace c59z:=eq_false (Nat.not_lt.2 c59z)
     have c59b0:=eq_true c59
     have c59b1:decide ((x3_1 ++ (⟨#[32]⟩:ByteArray)).size+t6013.size≤9223372036854775807)=true:=decide_eq_true c59
     try have c59y:(9223372036854775807 < x3_1.size+1+t6013.size)=False:=eq_false (by have q_:=c59;simp only [ByteArray.size_append,show (⟨#[32]⟩:ByteArray).size=1 from rfl] at q_;omega)
     try have c59b2:(9223372036854775807 < (x3_1 ++ (⟨#[32]⟩:ByteArray)).size+t6013.size)=False:=eq_false (Nat.not_lt.2 c59)
     obtain rfl:=zi H
     obtain ⟨hcz60_0,hcz60_1,hcz60_2,hcz60_3,hcz60_4,hcz60_5,hcz60_6,hcz60_7,hfz60_0,hfz60_1,hfz60_2,hfz60_3,hfz60_4,hfz60_5,hfz60_6,hfz60_7⟩:=blk8 BK6001.out
     go_wp2_with (first|((with_reducible refine gate_callee (f:=20) rfl ?_);refine goesL_ (some 70) rfl rfl Tryd.func20 (by kernel_rfl) rfl #[.int .i64 a0_7] rfl za5 ?_;(with_reducible refine (spec_FormatInt.calls k1 a0_7 t6013 _ A58.out).mono ?_);rintro e w61 ⟨rfl,hb⟩;refine ⟨_,rfl,?_⟩;have n0_:=zk (zb BK6001.out hb);have n1_:=zk (below_step za2 hb);clear BK6001;clear HB;have BK6001:=n0_;have HB:=n1_;clear n0_ n1_;(try clear hb);(try clear hb2);(try clear hk);(try clear hi)))
     go_ret
     exact ⟨za6,za2⟩
    ·rw [if_neg c59] at H
     exact absurd H (by simp)
    ·rw [if_neg c57] at H
     exact absurd H (by simp)
 ·replace c3:=Bool.eq_false_iff.mpr c3
  subst c3
  have H1:(some (⟨#[]⟩:ByteArray))=some r:=by rw [if_neg (show ¬ (false=true) by decide)] at H;exact H
  clear H
  have H:=H1
  clear H1
  obtain rfl:=zi H
  go_enter Tryd.func6,Tryd.ntmps6
  go_wp2_with (first|((with_reducible refine gate_dst (N:=1) rfl ?_);refine zE (N:=1) (cs:=#[.int .i64 a0_0,.string a0_1,.string a0_2,.int .i64 a0_3,.string a0_4,.slice A0_5 l0_5.length c0_5,.slice A0_6 l0_6.length c0_6,.int .i64 a0_7]) (t:=34) ?_;intro gb6001 hg w62 hbox hb;have n0_:=zk (below_step za2 hb);have n1_:=zk (hbox);have n2_:=zk (zs (w:=w) hg za2);have n3_:=zk (zs (w:=w) hg za2);clear HB;have HB:=n0_;have BK6001:=n1_;have GW6001:=n2_;have GE6001:=n3_;clear n0_ n1_ n2_ n3_;clear hb hbox hg;obtain ⟨hcz63_0,hcz63_1,hcz63_2,hcz63_3,hcz63_4,hcz63_5,hcz63_6,hcz63_7,hfz63_0,hfz63_1,hfz63_2,hfz63_3,hfz63_4,hfz63_5,hfz63_6,hfz63_7⟩:=blk8 BK6001.out)|((with_reducible refine gate_callee (f:=17) rfl ?_);refine goesL_ (some 6) rfl rfl Tryd.func17 (by kernel_rfl) rfl #[.agg #[.int .i64 a0_0,.string a0_1,.string a0_2,.int .i64 a0_3,.string a0_4,.slice A0_5 l0_5.length c0_5,.slice A0_6 l0_6.length c0_6,.int .i64 a0_7]] rfl za5 ?_;(with_reducible refine (spec_IsValidConstraint.calls k a0_0 a0_1 a0_2 a0_3 a0_4 _ _ l0_5 _ _ l0_6 a0_7 _ _ ?side1 ?side2 ?side3 ?side4 A2.out).mono ?_);(case side1=>repeat (first|exact (Kd.C_below HR0_5.out HB.out)|(with_reducible refine Kd.C_alloc ?_ _)|(with_reducible refine Kd.C_drewN ?_ _)|(with_reducible refine Kd.C_drew ?_)));(case side2=>exact HC0_5.out);(case side3=>repeat (first|exact (Kd.C_below HR0_6.out HB.out)|(with_reducible refine Kd.C_alloc ?_ _)|(with_reducible refine Kd.C_drewN ?_ _)|(with_reducible refine Kd.C_drew ?_)));(case side4=>exact HC0_6.out);rintro e w64 ⟨rfl,hb⟩;refine ⟨_,rfl,?_⟩;have n0_:=zk (zb BK6001.out hb);have n1_:=zk (below_step za2 hb);clear BK6001;clear HB;have BK6001:=n0_;have HB:=n1_;clear n0_ n1_;(try clear hb);(try clear hb2);(try clear hk);(try clear hi)))
  go_ret
  exact ⟨za6,za2⟩
def spec_IsValidProblem.l0:Nat→Int→List (S34)→Option (Bool)
 | 0,_,_=>none
 | k+1,x3,x32002000=>if x3 < (x32002000.length:Int) then (if 0≤x3 then ((spec_IsValidConstraint.f k ((rd_T34 x32002000 x3).f0) ((rd_T34 x32002000 x3).f1) ((rd_T34 x32002000 x3).f2) ((rd_T34 x32002000 x3).f3.f0) ((rd_T34 x32002000 x3).f3.f1) ((rd_T34 x32002000 x3).f3.f2) ((rd_T34 x32002000 x3).f4) ((rd_T34 x32002000 x3).f5)).bind fun t32003=>(if t32003=true then (spec_IsValidProblem.l0 k (wrap64 (x3+1)) x32002000) else (some false))) else (none)) else (some (decide ((x32002000.length:Int)≤6)))
def spec_IsValidProblem.f (k:Nat) (l0_0:List (S34)):Option (Bool):=spec_IsValidProblem.l0 k 0 l0_0
theorem spec_IsValidProblem.mono_l:∀ k,(∀ y0 y1,LeO (spec_IsValidProblem.l0 k y0 y1) (spec_IsValidProblem.l0 (k+1) y0 y1))
 | 0=>fun _ _ r h=>by simp [spec_IsValidProblem.l0] at h
 | k+1=>by
  have ih0:=spec_IsValidProblem.mono_l k
  ·intro y0 y1
   unfold spec_IsValidProblem.l0
   repeat' first
   | with_reducible first|exact ih0 _ _|exact spec_IsValidConstraint.mono _ _ _ _ _ _ _ _ _|exact LeO.refl _|exact LeO.none _|refine LeO.ite ?_ ?_|refine LeO.bind ?_ (fun _=>?_)
theorem spec_IsValidProblem.mono:∀ a0 k,LeO (spec_IsValidProblem.f k a0) (spec_IsValidProblem.f (k+1) a0):=by
 intro a0 k
 have ih0:=spec_IsValidProblem.mono_l k
 unfold spec_IsValidProblem.f
 repeat' first
  | with_reducible first|exact ih0 _ _|exact spec_IsValidConstraint.mono _ _ _ _ _ _ _ _ _|exact LeO.refl _|exact LeO.none _|refine LeO.ite ?_ ?_|refine LeO.bind ?_ (fun _=>?_)
theorem spec_IsValidProblem.calls (k:Nat) (A0_0:Option Addr) (c0_0:Nat) (l0_0:List (S34)) (r:Bool) (w:World) (hr0_0:Kd.C k34 w A0_0 l0_0.length l0_0) (hc0_0:l0_0.length≤c0_0) (h:spec_IsValidProblem.f k l0_0=some r) :
   Calls Tryd.prog 32 #[.agg #[.slice A0_0 l0_0.length c0_0]] w fun e w'=>e = .returned (.bool r)∧Below w.heap.size w w':=by
 have hu45:=Tryd.underlying45
 have hu34:=Tryd.underlying34
 have HR0_0:=zk hr0_0
 have HC0_0:=zk hc0_0
 clear hr0_0 hc0_0
 have HB:=zk (Below.refl w.heap.size w)
 have H:(spec_IsValidProblem.l0 k 0 l0_0)=some r:=h
 clear h
 have H':=zk H
 clear H
 go_enter Tryd.func32,Tryd.ntmps32
 go_wp2_with (first|((with_reducible refine gate_dst (N:=1) rfl ?_);refine zE (N:=1) (cs:=#[.slice A0_0 l0_0.length c0_0]) (t:=45) ?_;intro gb32001 hg w2 hbox hb;have n0_:=zk (below_step za2 hb);have n1_:=zk (hbox);have n2_:=zk (zs (w:=w) hg za2);have n3_:=zk (zs (w:=w) hg za2);clear HB;have HB:=n0_;have BK32001:=n1_;have GW32001:=n2_;have GE32001:=n3_;clear n0_ n1_ n2_ n3_;clear hb hbox hg))
 first|go_loopg [3] k (fun kq v3 w'=>∃ (x3_1:Int),v3 = .int .i64 x3_1∧Aside0 (spec_IsValidProblem.l0 kq x3_1 l0_0=some r)∧Aside0 (kq≤k)∧Aside0 (w'.heap[gb32001]? = some (.cells #[(.slice A0_0 l0_0.length c0_0)] 45 (0,0)))∧Aside0 (Below w.heap.size w w'))|(simp only [Act.put,zt,zv,zu];go_loopg [3] k (fun kq v3 w'=>∃ (x3_1:Int),v3 = .int .i64 x3_1∧Aside0 (spec_IsValidProblem.l0 kq x3_1 l0_0=some r)∧Aside0 (kq≤k)∧Aside0 (w'.heap[gb32001]? = some (.cells #[(.slice A0_0 l0_0.length c0_0)] 45 (0,0)))∧Aside0 (Below w.heap.size w w')))
 case atStart=>exact ⟨(0),za7,H',⟨Nat.le_refl _⟩,⟨za0 BK32001.out⟩,⟨za2⟩⟩
 case round =>
  clear H'
  obtain ⟨x3_1,rfl,HA,HK1,BK32001,HB⟩:=hrel
  cases gk with
  | zero=>exact absurd HA.out (by simp [spec_IsValidProblem.l0])
  | succ k1 =>
   have H:=HA.out
   clear HA
   simp only [spec_IsValidProblem.l0] at H
   by_cases c3:x3_1 < (l0_0.length:Int)
   rw [if_pos c3] at H
   have c3b0:decide (x3_1 < (l0_0.length:Int))=true:=decide_eq_true c3
   clear c3
   by_cases c4:0≤x3_1
   rw [if_pos c4] at H
   have c4b0:decide (0≤x3_1)=true:=decide_eq_true c4
   clear c4
   replace H:=zo H
   obtain ⟨t32003,A50,H⟩:=H
   replace H:(if t32003=true then (spec_IsValidProblem.l0 k1 (wrap64 (x3_1+1)) l0_0) else (some false))=some r:=H
   have A5:=zk A50
   clear A50
   by_cases c6:t32003=true
   subst c6
   have H1:(spec_IsValidProblem.l0 k1 (wrap64 (x3_1+1)) l0_0)=some r:=by rw [if_pos rfl] at H;exact H
   clear H
   have H:=H1
   clear H1
   have H':=zk H
   clear H
   have fin1_:=zk trivial
   rotate_left
   replace c6:=Bool.eq_false_iff.mpr c6
   subst c6
   have H1:(some false)=some r:=by rw [if_neg (show ¬ (false=true) by decide)] at H;exact H
   clear H
   have H:=H1
   clear H1
   obtain rfl:=zi H
   have fin0_:=zk trivial
   rotate_left
   · rw [if_neg c4] at H
     exact absurd H (by simp)
   · rw [if_neg c3] at H
     have c3b0:decide (x3_1 < (l0_0.length:Int))=false:=decide_eq_false c3
     clear c3
     obtain rfl:=zi H
     obtain ⟨hcz11_0,hfz11_0⟩:=blk1 BK32001.out
     go_wp2
     go_ret
     exact ⟨za6,za2⟩
   all_goals
    obtain ⟨hcz9_0,hfz9_0⟩:=blk1 BK32001.out
    have p32002:0≤(x3_1:Int):=of_decide_eq_true za8
    have q32002:x3_1 < (l0_0.length:Int):=of_decide_eq_true za8
    obtain ⟨ad32002,A32002_5,c32002_5,A32002_6,c32002_6,e32002,hx32002_0,hx32002_1,hx32002_2,hx32002_3,hx32002_4,hx32002_5,hx32002_6,hx32002_7,hl32002_5,hi32002_5,hl32002_6,hi32002_6⟩:=at_T34 HR0_0.out x3_1 p32002 q32002
    cases e32002
    replace hx32002_0:=zx HB.out hx32002_0
    replace hx32002_1:=zx HB.out hx32002_1
    replace hx32002_2:=zx HB.out hx32002_2
    replace hx32002_3:=zx HB.out hx32002_3
    replace hx32002_4:=zx HB.out hx32002_4
    replace hx32002_5:=zx HB.out hx32002_5
    replace hx32002_6:=zx HB.out hx32002_6
    replace hx32002_7:=zx HB.out hx32002_7
    have HR32002_5:=zk hi32002_5
    have HC32002_5:=zk hl32002_5
    clear hi32002_5 hl32002_5
    have HR32002_6:=zk hi32002_6
    have HC32002_6:=zk hl32002_6
    clear hi32002_6 hl32002_6
    replace p32002:=eq_true p32002
    replace q32002:=eq_true q32002
    go_wp2_with (((with_reducible refine gate_callee (f:=17) rfl ?_);refine goesL_ (some 16) rfl rfl Tryd.func17 (by kernel_rfl) rfl #[.agg #[.int .i64 ((rd_T34 l0_0 x3_1).f0),.string ((rd_T34 l0_0 x3_1).f1),.string ((rd_T34 l0_0 x3_1).f2),.int .i64 ((rd_T34 l0_0 x3_1).f3.f0),.string ((rd_T34 l0_0 x3_1).f3.f1),.slice A32002_5 ((rd_T34 l0_0 x3_1).f3.f2).length c32002_5,.slice A32002_6 ((rd_T34 l0_0 x3_1).f4).length c32002_6,.int .i64 ((rd_T34 l0_0 x3_1).f5)]] rfl za5 ?_;(with_reducible refine (spec_IsValidConstraint.calls k1 ((rd_T34 l0_0 x3_1).f0) ((rd_T34 l0_0 x3_1).f1) ((rd_T34 l0_0 x3_1).f2) ((rd_T34 l0_0 x3_1).f3.f0) ((rd_T34 l0_0 x3_1).f3.f1) _ _ ((rd_T34 l0_0 x3_1).f3.f2) _ _ ((rd_T34 l0_0 x3_1).f4) ((rd_T34 l0_0 x3_1).f5) _ _ ?side1 ?side2 ?side3 ?side4 A5.out).mono ?_);(case side1=>repeat (first|exact (Kd.C_below HR32002_5.out HB.out)|(with_reducible refine Kd.C_alloc ?_ _)|(with_reducible refine Kd.C_drewN ?_ _)|(with_reducible refine Kd.C_drew ?_)));(case side2=>exact HC32002_5.out);(case side3=>repeat (first|exact (Kd.C_below HR32002_6.out HB.out)|(with_reducible refine Kd.C_alloc ?_ _)|(with_reducible refine Kd.C_drewN ?_ _)|(with_reducible refine Kd.C_drew ?_)));(case side4=>exact HC32002_6.out);rintro e w10 ⟨rfl,hb⟩;refine ⟨_,rfl,?_⟩;have n0_:=zk (zb BK32001.out hb);have n1_:=zk (below_step za2 hb);clear BK32001;clear HB;have BK32001:=n0_;have HB:=n1_;clear n0_ n1_;(try clear hb);(try clear hb2);(try clear hk);(try clear hi)))
    first
    | (
      clear fin0_
      go_ret
      exact ⟨za6,za2⟩)
    | (
      clear fin1_
      go_roundg k1
      case measure=>have:=HK1.out;omega
      case rel=>exact ⟨(wrap64 (x3_1+1)),za7,H',⟨za13⟩,⟨za0 BK32001.out⟩,⟨za2⟩⟩)
def spec_FormatProblem.l0:Nat→ByteArray→Int→List (S34)→Option (ByteArray)
 | 0,_,_,_=>none
 | k+1,x3,x4,x11002000=>if x4 < (x11002000.length:Int) then ((spec_IsValidProblem.f k x11002000).bind fun t11002=>(if t11002=true then (if 0≤x4 then ((spec_FormatConstraint.f k ((rd_T34 x11002000 x4).f0) ((rd_T34 x11002000 x4).f1) ((rd_T34 x11002000 x4).f2) ((rd_T34 x11002000 x4).f3.f0) ((rd_T34 x11002000 x4).f3.f1) ((rd_T34 x11002000 x4).f3.f2) ((rd_T34 x11002000 x4).f4) ((rd_T34 x11002000 x4).f5)).bind fun t11004=>(if x3.size+t11004.size≤9223372036854775807 then (if (x3 ++ t11004).size+1≤9223372036854775807 then (spec_FormatProblem.l0 k ((x3 ++ t11004) ++ (⟨#[10]⟩:ByteArray)) (wrap64 (x4+1)) x11002000) else (none)) else (none))) else (none)) else (some x3))) else (some x3)
def spec_FormatProblem.f (k:Nat) (l0_0:List (S34)):Option (ByteArray):=spec_FormatProblem.l0 k (⟨#[]⟩:ByteArray) 0 l0_0
theorem spec_FormatProblem.mono_l:∀ k,(∀ y0 y1 y2,LeO (spec_FormatProblem.l0 k y0 y1 y2) (spec_FormatProblem.l0 (k+1) y0 y1 y2))
 | 0=>fun _ _ _ r h=>by simp [spec_FormatProblem.l0] at h
 | k+1=>by
  have ih0:=spec_FormatProblem.mono_l k
  ·intro y0 y1 y2
   unfold spec_FormatProblem.l0
   repeat' first
   | with_reducible first|exact ih0 _ _ _|exact spec_FormatConstraint.mono _ _ _ _ _ _ _ _ _|exact spec_IsValidProblem.mono _ _|exact LeO.refl _|exact LeO.none _|refine LeO.ite ?_ ?_|refine LeO.bind ?_ (fun _=>?_)
theorem spec_FormatProblem.mono:∀ a0 k,LeO (spec_FormatProblem.f k a0) (spec_FormatProblem.f (k+1) a0):=by
 intro a0 k
 have ih0:=spec_FormatProblem.mono_l k
 unfold spec_FormatProblem.f
 repeat' first
  | with_reducible first|exact ih0 _ _ _|exact spec_FormatConstraint.mono _ _ _ _ _ _ _ _ _|exact spec_IsValidProblem.mono _ _|exact LeO.refl _|exact LeO.none _|refine LeO.ite ?_ ?_|refine LeO.bind ?_ (fun _=>?_)
theorem spec_FormatProblem.calls (k:Nat) (A0_0:Option Addr) (c0_0:Nat) (l0_0:List (S34)) (r:ByteArray) (w:World) (hr0_0:Kd.C k34 w A0_0 l0_0.length l0_0) (hc0_0:l0_0.length≤c0_0) (h:spec_FormatProblem.f k l0_0=some r) :
   Calls Tryd.prog 11 #[.agg #[.slice A0_0 l0_0.length c0_0]] w fun e w'=>e = .returned (.string r)∧Below w.heap.size w w':=by
 have hu45:=Tryd.underlying45
 have hu34:=Tryd.underlying34
 have HR0_0:=zk hr0_0
 have HC0_0:=zk hc0_0
 clear hr0_0 hc0_0
 have HB:=zk (Below.refl w.heap.size w)
 have H:(spec_FormatProblem.l0 k (⟨#[]⟩:ByteArray) 0 l0_0)=some r:=h
 clear h
 have H':=zk H
 clear H
 go_enter Tryd.func11,Tryd.ntmps11
 go_wp2_with (first|((with_reducible refine gate_dst (N:=1) rfl ?_);refine zE (N:=1) (cs:=#[.slice A0_0 l0_0.length c0_0]) (t:=45) ?_;intro gb11001 hg w2 hbox hb;have n0_:=zk (below_step za2 hb);have n1_:=zk (hbox);have n2_:=zk (zs (w:=w) hg za2);have n3_:=zk (zs (w:=w) hg za2);clear HB;have HB:=n0_;have BK11001:=n1_;have GW11001:=n2_;have GE11001:=n3_;clear n0_ n1_ n2_ n3_;clear hb hbox hg))
 first|go_loopg [3,4] k (fun kq v3 v4 w'=>∃ (x3_1:ByteArray) (x4_1:Int),v3 = .string x3_1∧v4 = .int .i64 x4_1∧Aside0 (spec_FormatProblem.l0 kq x3_1 x4_1 l0_0=some r)∧Aside0 (kq≤k)∧Aside0 (w'.heap[gb11001]? = some (.cells #[(.slice A0_0 l0_0.length c0_0)] 45 (0,0)))∧Aside0 (Below w.heap.size w w'))|(simp only [Act.put,zt,zv,zu];go_loopg [3,4] k (fun kq v3 v4 w'=>∃ (x3_1:ByteArray) (x4_1:Int),v3 = .string x3_1∧v4 = .int .i64 x4_1∧Aside0 (spec_FormatProblem.l0 kq x3_1 x4_1 l0_0=some r)∧Aside0 (kq≤k)∧Aside0 (w'.heap[gb11001]? = some (.cells #[(.slice A0_0 l0_0.length c0_0)] 45 (0,0)))∧Aside0 (Below w.heap.size w w')))
 case atStart=>exact ⟨((⟨#[]⟩:ByteArray)),(0),za7,za7,H',⟨Nat.le_refl _⟩,⟨za0 BK11001.out⟩,⟨za2⟩⟩
 case round =>
  clear H'
  obtain ⟨x3_1,x4_1,rfl,rfl,HA,HK1,BK11001,HB⟩:=hrel
  cases gk with
  | zero=>exact absurd HA.out (by simp [spec_FormatProblem.l0])
  | succ k1 =>
   have H:=HA.out
   clear HA
   simp only [spec_FormatProblem.l0] at H
   by_cases c3:x4_1 < (l0_0.length:Int)
   rw [if_pos c3] at H
   have c3b0:decide (x4_1 < (l0_0.length:Int))=true:=decide_eq_true c3
   clear c3
   replace H:=zo H
   obtain ⟨t11002,A40,H⟩:=H
   replace H:(if t11002=true then (if 0≤x4_1 then ((spec_FormatConstraint.f k1 ((rd_T34 l0_0 x4_1).f0) ((rd_T34 l0_0 x4_1).f1) ((rd_T34 l0_0 x4_1).f2) ((rd_T34 l0_0 x4_1).f3.f0) ((rd_T34 l0_0 x4_1).f3.f1) ((rd_T34 l0_0 x4_1).f3.f2) ((rd_T34 l0_0 x4_1).f4) ((rd_T34 l0_0 x4_1).f5)).bind fun t11004=>(if x3_1.size+t11004.size≤9223372036854775807 then (if (x3_1 ++ t11004).size+1≤9223372036854775807 then (spec_FormatProblem.l0 k1 ((x3_1 ++ t11004) ++ (⟨#[10]⟩:ByteArray)) (wrap64 (x4_1+1)) l0_0) else (none)) else (none))) else (none)) else (some x3_1))=some r:=H
   have A4:=zk A40
   clear A40
   by_cases c5:t11002=true
   subst c5
   have H1:(if 0≤x4_1 then ((spec_FormatConstraint.f k1 ((rd_T34 l0_0 x4_1).f0) ((rd_T34 l0_0 x4_1).f1) ((rd_T34 l0_0 x4_1).f2) ((rd_T34 l0_0 x4_1).f3.f0) ((rd_T34 l0_0 x4_1).f3.f1) ((rd_T34 l0_0 x4_1).f3.f2) ((rd_T34 l0_0 x4_1).f4) ((rd_T34 l0_0 x4_1).f5)).bind fun t11004=>(if x3_1.size+t11004.size≤9223372036854775807 then (if (x3_1 ++ t11004).size+1≤9223372036854775807 then (spec_FormatProblem.l0 k1 ((x3_1 ++ t11004) ++ (⟨#[10]⟩:ByteArray)) (wrap64 (x4_1+1)) l0_0) else (none)) else (none))) else (none))=some r:=by rw [if_pos rfl] at H;exact H
   clear H
   have H:=H1
   clear H1
   by_cases c6:0≤x4_1
   rw [if_pos c6] at H
   have c6b0:decide (0≤x4_1)=true:=decide_eq_true c6
   clear c6
   replace H:=zo H
   obtain ⟨t11004,A70,H⟩:=H
   replace H:(if x3_1.size+t11004.size≤9223372036854775807 then (if (x3_1 ++ t11004).size+1≤9223372036854775807 then (spec_FormatProblem.l0 k1 ((x3_1 ++ t11004) ++ (⟨#[10]⟩:ByteArray)) (wrap64 (x4_1+1)) l0_0) else (none)) else (none))=some r:=H
   have A7:=zk A70
   clear A70
   by_cases c8:x3_1.size+t11004.size≤9223372036854775807
   rw [if_pos c8] at H
   have c8z:=c8
   try simp at c8z
   try replace c8z:=eq_false (Nat.not_lt.2 c8z)
   have c8b0:=eq_true c8
   have c8b1:decide (x3_1.size+t11004.size≤9223372036854775807)=true:=decide_eq_true c8
   try have c8b2:(9223372036854775807 < x3_1.size+t11004.size)=False:=eq_false (Nat.not_lt.2 c8)
   by_cases c9:(x3_1 ++ t11004).size+1≤9223372036854775807
   · rw [if_pos c9] at H
     have c9z:=c9
     try simp at c9z
     try replace c9z:=eq_false (Nat.not_lt.2 c9z)
     have c9b0:=eq_true c9
     have c9b1:decide ((x3_1 ++ t11004).size+1≤9223372036854775807)=true:=decide_eq_true c9
     try have c9y:(9223372036854775807 < x3_1.size+t11004.size+1)=False:=eq_false (by have q_:=c9;simp only [ByteArray.size_append] at q_;omega)
     try have c9b2:(9223372036854775807 < (x3_1 ++ t11004).size+1)=False:=eq_false (Nat.not_lt.2 c9)
     have H':=zk H
     clear H
     obtain ⟨hcz10_0,hfz10_0⟩:=blk1 BK11001.out
     go_wp2_with (first|(go_at_call 32;(with_reducible refine (spec_IsValidProblem.calls k1 _ _ l0_0 _ _ ?side1 ?side2 A4.out).mono ?_);(case side1=>repeat (first|exact (Kd.C_below HR0_0.out HB.out)|(with_reducible refine Kd.C_alloc ?_ _)|(with_reducible refine Kd.C_drewN ?_ _)|(with_reducible refine Kd.C_drew ?_)));(case side2=>exact HC0_0.out);rintro e w11 ⟨rfl,hb⟩;have n0_:=zk (zb BK11001.out hb);have n1_:=zk (below_step za2 hb);clear BK11001;clear HB;have BK11001:=n0_;have HB:=n1_;clear n0_ n1_;(try clear hb);(try clear hb2);(try clear hk);(try clear hi);obtain ⟨hcz12_0,hfz12_0⟩:=blk1 BK11001.out;have p11003:0≤(x4_1:Int):=of_decide_eq_true za8;have q11003:x4_1 < (l0_0.length:Int):=of_decide_eq_true za8;obtain ⟨ad11003,A11003_5,c11003_5,A11003_6,c11003_6,e11003,hx11003_0,hx11003_1,hx11003_2,hx11003_3,hx11003_4,hx11003_5,hx11003_6,hx11003_7,hl11003_5,hi11003_5,hl11003_6,hi11003_6⟩:=at_T34 HR0_0.out x4_1 p11003 q11003;cases e11003;replace hx11003_0:=zx HB.out hx11003_0;replace hx11003_1:=zx HB.out hx11003_1;replace hx11003_2:=zx HB.out hx11003_2;replace hx11003_3:=zx HB.out hx11003_3;replace hx11003_4:=zx HB.out hx11003_4;replace hx11003_5:=zx HB.out hx11003_5;replace hx11003_6:=zx HB.out hx11003_6;replace hx11003_7:=zx HB.out hx11003_7;have HR11003_5:=zk hi11003_5;have HC11003_5:=zk hl11003_5;clear hi11003_5 hl11003_5;have HR11003_6:=zk hi11003_6;have HC11003_6:=zk hl11003_6;clear hi11003_6 hl11003_6;replace p11003:=eq_true p11003;replace q11003:=eq_true q11003)|((with_reducible refine gate_callee (f:=6) rfl ?_);refine goesL_ (some 22) rfl rfl Tryd.func6 (by kernel_rfl) rfl #[.agg #[.int .i64 ((rd_T34 l0_0 x4_1).f0),.string ((rd_T34 l0_0 x4_1).f1),.string ((rd_T34 l0_0 x4_1).f2),.int .i64 ((rd_T34 l0_0 x4_1).f3.f0),.string ((rd_T34 l0_0 x4_1).f3.f1),.slice A11003_5 ((rd_T34 l0_0 x4_1).f3.f2).length c11003_5,.slice A11003_6 ((rd_T34 l0_0 x4_1).f4).length c11003_6,.int .i64 ((rd_T34 l0_0 x4_1).f5)]] rfl za5 ?_;(with_reducible refine (spec_FormatConstraint.calls k1 ((rd_T34 l0_0 x4_1).f0) ((rd_T34 l0_0 x4_1).f1) ((rd_T34 l0_0 x4_1).f2) ((rd_T34 l0_0 x4_1).f3.f0) ((rd_T34 l0_0 x4_1).f3.f1) _ _ ((rd_T34 l0_0 x4_1).f3.f2) _ _ ((rd_T34 l0_0 x4_1).f4) ((rd_T34 l0_0 x4_1).f5) t11004 _ ?side1 ?side2 ?side3 ?side4 A7.out).mono ?_);(case side1=>repeat (first|exact (Kd.C_below HR11003_5.out HB.out)|(with_reducible refine Kd.C_alloc ?_ _)|(with_reducible refine Kd.C_drewN ?_ _)|(with_reducible refine Kd.C_drew ?_)));(case side2=>exact HC11003_5.out);(case side3=>repeat (first|exact (Kd.C_below HR11003_6.out HB.out)|(with_reducible refine Kd.C_alloc ?_ _)|(with_reducible refine Kd.C_drewN ?_ _)|(with_reducible refine Kd.C_drew ?_)));(case side4=>exact HC11003_6.out);rintro e w13 ⟨rfl,hb⟩;refine ⟨_,rfl,?_⟩;have n0_:=zk (zb BK11001.out hb);have n1_:=zk (below_step za2 hb);clear BK11001;clear HB;have BK11001:=n0_;have HB:=n1_;clear n0_ n1_;(try clear hb);(try clear hb2);(try clear hk);(try clear hi)))
     go_roundg k1
     case measure=>have:=HK1.out;omega
     case rel=>exact ⟨((x3_1 ++ t11004) ++ (⟨#[10]⟩:ByteArray)),(wrap64 (x4_1+1)),za7,za7,H',⟨za13⟩,⟨za0 BK11001.out⟩,⟨za2⟩⟩
   · rw [if_neg c9] at H
     exact absurd H (by simp)
   · rw [if_neg c8] at H
     exact absurd H (by simp)
   · rw [if_neg c6] at H
     exact absurd H (by simp)
   replace c5:=Bool.eq_false_iff.mpr c5
   subst c5
   have H1:(some x3_1)=some r:=by rw [if_neg (show ¬ (false=true) by decide)] at H;exact H
   clear H
   have H:=H1
   clear H1
   rotate_left
   rw [if_neg c3] at H
   have c3b0:decide (x4_1 < (l0_0.length:Int))=false:=decide_eq_false c3
   clear c3
   rotate_left
   all_goals
    obtain rfl:=zi H
    obtain ⟨hcz14_0,hfz14_0⟩:=blk1 BK11001.out
    go_wp2_with ((go_at_call 32;(with_reducible refine (spec_IsValidProblem.calls k1 _ _ l0_0 _ _ ?side1 ?side2 A4.out).mono ?_);(case side1=>repeat (first|exact (Kd.C_below HR0_0.out HB.out)|(with_reducible refine Kd.C_alloc ?_ _)|(with_reducible refine Kd.C_drewN ?_ _)|(with_reducible refine Kd.C_drew ?_)));(case side2=>exact HC0_0.out);rintro e w15 ⟨rfl,hb⟩;have n0_:=zk (zb BK11001.out hb);have n1_:=zk (below_step za2 hb);clear BK11001;clear HB;have BK11001:=n0_;have HB:=n1_;clear n0_ n1_;(try clear hb);(try clear hb2);(try clear hk);(try clear hi)))
    go_ret
    exact ⟨za6,za2⟩
def impl_LetterIndex.f (a0:Int):Option (Int):=(strings_IndexByte.f (⟨#[97,98,99]⟩:ByteArray) a0).bind fun t61001=>(some t61001)
theorem impl_LetterIndex.calls (a0:Int) (r:Int) (w:World) (h:impl_LetterIndex.f a0=some r) :
  Calls Tryd.prog 61 #[.int .u8 a0] w fun e w'=>e = .returned (.int .i64 r)∧Drawn0 w w':=by
 have H:((strings_IndexByte.f (⟨#[97,98,99]⟩:ByteArray) a0).bind fun t61001=>(some t61001))=some r:=h
 clear h
 replace H:=zo H
 obtain ⟨t61001,A20,H⟩:=H
 replace H:(some t61001)=some r:=H
 have A2:=zk A20
 clear A20
 obtain rfl:=zi H
 go_enter Tryd.func61,Tryd.ntmps61
 go_wp2_with (first|((with_reducible refine gate_callee (f:=73) rfl ?_);refine goesL_ (some 4) rfl rfl Tryd.func73 (by kernel_rfl) rfl #[.string (⟨#[97,98,99]⟩:ByteArray),.int .u8 a0] rfl za5 ?_;(with_reducible refine (strings_IndexByte.calls (⟨#[97,98,99]⟩:ByteArray) a0 t61001 _ A2.out).mono ?_);rintro e w' ⟨rfl,⟨nd,rfl⟩⟩;refine ⟨_,rfl,?_⟩))
 go_ret
 exact ⟨za7,za9⟩
def impl_isLetters.l0:Nat→ByteArray→Int→Option (Bool)
 | 0,_,_=>none
 | k+1,x0,x3=>if x3 < (x0.size:Int) then (if 0≤x3 then ((impl_LetterIndex.f (bt x0 x3)).bind fun t80001=>(if t80001 < 0 then (some false) else (impl_isLetters.l0 k x0 (wrap64 (x3+1))))) else (none)) else (some true)
def impl_isLetters.f (k:Nat) (a0:ByteArray):Option (Bool):=impl_isLetters.l0 k a0 0
theorem impl_isLetters.mono_l:∀ k,(∀ y0 y1,LeO (impl_isLetters.l0 k y0 y1) (impl_isLetters.l0 (k+1) y0 y1))
 | 0=>fun _ _ r h=>by simp [impl_isLetters.l0] at h
 | k+1=>by
  have ih0:=impl_isLetters.mono_l k
  ·intro y0 y1
   unfold impl_isLetters.l0
   repeat' first
   | with_reducible first|exact ih0 _ _|exact LeO.refl _|exact LeO.none _|refine LeO.ite ?_ ?_|refine LeO.bind ?_ (fun _=>?_)
theorem impl_isLetters.mono:∀ a0 k,LeO (impl_isLetters.f k a0) (impl_isLetters.f (k+1) a0):=by
 intro a0 k
 have ih0:=impl_isLetters.mono_l k
 unfold impl_isLetters.f
 repeat' first
  | with_reducible first|exact ih0 _ _|exact LeO.refl _|exact LeO.none _|refine LeO.ite ?_ ?_|refine LeO.bind ?_ (fun _=>?_)
theorem impl_isLetters.calls (k:Nat) (a0:ByteArray) (r:Bool) (w:World) (h:impl_isLetters.f k a0=some r) :
   Calls Tryd.prog 80 #[.string a0] w fun e w'=>e = .returned (.bool r)∧Drawn0 w w':=by
 have H:(impl_isLetters.l0 k a0 0)=some r:=h
 clear h
 have H':=zk H
 clear H
 go_enter Tryd.func80,Tryd.ntmps80
 go_wp2
 first|go_loopg [3] k (fun kq v3 w'=>∃ (x3_1:Int),v3 = .int .i64 x3_1∧Aside0 (impl_isLetters.l0 kq a0 x3_1=some r)∧Aside0 (kq≤k)∧Drawn0 w w')|(simp only [Act.put,zt,zv,zu];go_loopg [3] k (fun kq v3 w'=>∃ (x3_1:Int),v3 = .int .i64 x3_1∧Aside0 (impl_isLetters.l0 kq a0 x3_1=some r)∧Aside0 (kq≤k)∧Drawn0 w w'))
 case atStart=>exact ⟨(0),za7,H',⟨Nat.le_refl _⟩,za9⟩
 case round =>
  clear H'
  obtain ⟨x3_1,rfl,HA,HK1,⟨m1,rfl⟩⟩:=hrel
  cases gk with
  | zero=>exact absurd HA.out (by simp [impl_isLetters.l0])
  | succ k1 =>
   have H:=HA.out
   clear HA
   simp only [impl_isLetters.l0] at H
   by_cases c2:x3_1 < (a0.size:Int)
   rw [if_pos c2] at H
   have c2b0:decide (x3_1 < (a0.size:Int))=true:=decide_eq_true c2
   clear c2
   by_cases c3:0≤x3_1
   rw [if_pos c3] at H
   have c3b0:decide (0≤x3_1)=true:=decide_eq_true c3
   clear c3
   replace H:=zo H
   obtain ⟨t80001,A50,H⟩:=H
   replace H:(if t80001 < 0 then (some false) else (impl_isLetters.l0 k1 a0 (wrap64 (x3_1+1))))=some r:=H
   have A5:=zk A50
   clear A50
   by_cases c6:t80001 < 0
   rw [if_pos c6] at H
   have c6b0:decide (t80001 < 0)=true:=decide_eq_true c6
   clear c6
   obtain rfl:=zi H
   have fin0_:=zk trivial
   rotate_left
   rw [if_neg c6] at H
   have c6b0:decide (t80001 < 0)=false:=decide_eq_false c6
   clear c6
   have H':=zk H
   clear H
   have fin1_:=zk trivial
   rotate_left
   · rw [if_neg c3] at H
     exact absurd H (by simp)
   · rw [if_neg c2] at H
     have c2b0:decide (x3_1 < (a0.size:Int))=false:=decide_eq_false c2
     clear c2
     obtain rfl:=zi H
     go_wp2
     go_ret
     exact ⟨za7,za9⟩
   all_goals
    have p4:0≤(x3_1:Int):=of_decide_eq_true za8
    have q4:x3_1 < (a0.size:Int):=of_decide_eq_true za8
    have hx4:=bt_at a0 x3_1
    replace p4:=eq_true p4
    replace q4:=eq_true q4
    go_wp2_with (((with_reducible refine gate_callee (f:=61) rfl ?_);refine goesL_ (some 13) rfl rfl Tryd.func61 (by kernel_rfl) rfl #[.int .u8 (bt a0 x3_1)] rfl za5 ?_;(with_reducible refine (impl_LetterIndex.calls (bt a0 x3_1) t80001 _ A5.out).mono ?_);rintro e w' ⟨rfl,⟨nd,rfl⟩⟩;refine ⟨_,rfl,?_⟩))
    first
    | (
      clear fin0_
      go_ret
      exact ⟨za7,za9⟩)
    | (
      clear fin1_
      go_roundg k1
      case measure=>have:=HK1.out;omega
      case rel=>exact ⟨(wrap64 (x3_1+1)),za7,H',⟨za13⟩,za9⟩)
def impl_IsWord.f (k:Nat) (a0:ByteArray):Option (Bool):=if (a0.size:Int)≤30 then ((impl_isLetters.f k a0).bind fun t75001=>(some t75001)) else (some false)
theorem impl_IsWord.mono:∀ a0 k,LeO (impl_IsWord.f k a0) (impl_IsWord.f (k+1) a0):=by
 intro a0 k
 unfold impl_IsWord.f
 repeat' first
  | with_reducible first|exact impl_isLetters.mono _ _|exact LeO.refl _|exact LeO.none _|refine LeO.ite ?_ ?_|refine LeO.bind ?_ (fun _=>?_)
theorem impl_IsWord.calls (k:Nat) (a0:ByteArray) (r:Bool) (w:World) (h:impl_IsWord.f k a0=some r) :
   Calls Tryd.prog 75 #[.string a0] w fun e w'=>e = .returned (.bool r)∧Drawn0 w w':=by
 have H:(if (a0.size:Int)≤30 then ((impl_isLetters.f k a0).bind fun t75001=>(some t75001)) else (some false))=some r:=h
 clear h
 by_cases c2:(a0.size:Int)≤30
 rw [if_pos c2] at H
 have c2b0:decide ((a0.size:Int)≤30)=true:=decide_eq_true c2
 have c2b1:decide (a0.size≤30)=true:=decide_eq_true (by omega)
 clear c2
 replace H:=zo H
 obtain ⟨t75001,A30,H⟩:=H
 replace H:(some t75001)=some r:=H
 have A3:=zk A30
 clear A30
 rotate_left
 rw [if_neg c2] at H
 have c2b0:decide ((a0.size:Int)≤30)=false:=decide_eq_false c2
 have c2b1:decide (a0.size≤30)=false:=decide_eq_false (by omega)
 clear c2
 rotate_left
 all_goals
  obtain rfl:=zi H
  go_enter Tryd.func75,Tryd.ntmps75
  go_wp2_with ((go_at_call 80;(with_reducible refine (impl_isLetters.calls k a0 t75001 _ A3.out).mono ?_);rintro e w' ⟨rfl,⟨nd,rfl⟩⟩))
  go_ret
  exact ⟨za7,za9⟩
def impl_isVariable.f (a0:Int):Option (Bool):=(strings_IndexByte.f (⟨#[88,89,90]⟩:ByteArray) a0).bind fun t62001=>(some (decide (t62001 ≥ 0)))
theorem impl_isVariable.calls (a0:Int) (r:Bool) (w:World) (h:impl_isVariable.f a0=some r) :
  Calls Tryd.prog 62 #[.int .u8 a0] w fun e w'=>e = .returned (.bool r)∧Drawn0 w w':=by
 have H:((strings_IndexByte.f (⟨#[88,89,90]⟩:ByteArray) a0).bind fun t62001=>(some (decide (t62001 ≥ 0))))=some r:=h
 clear h
 replace H:=zo H
 obtain ⟨t62001,A20,H⟩:=H
 replace H:(some (decide (t62001 ≥ 0)))=some r:=H
 have A2:=zk A20
 clear A20
 obtain rfl:=zi H
 go_enter Tryd.func62,Tryd.ntmps62
 go_wp2_with (first|((with_reducible refine gate_callee (f:=73) rfl ?_);refine goesL_ (some 4) rfl rfl Tryd.func73 (by kernel_rfl) rfl #[.string (⟨#[88,89,90]⟩:ByteArray),.int .u8 a0] rfl za5 ?_;(with_reducible refine (strings_IndexByte.calls (⟨#[88,89,90]⟩:ByteArray) a0 t62001 _ A2.out).mono ?_);rintro e w' ⟨rfl,⟨nd,rfl⟩⟩;refine ⟨_,rfl,?_⟩))
 go_ret
 exact ⟨za7,za9⟩
def impl_IsTerm.l0:Nat→ByteArray→Int→Option (Bool)
 | 0,_,_=>none
 | k+1,x0,x3=>if x3 < (x0.size:Int) then (if 0≤x3 then ((impl_LetterIndex.f (bt x0 x3)).bind fun t44001=>(if t44001 < 0 then ((impl_isVariable.f (bt x0 x3)).bind fun t44002=>(if t44002=true then (impl_IsTerm.l0 k x0 (wrap64 (x3+1))) else (some false))) else (impl_IsTerm.l0 k x0 (wrap64 (x3+1))))) else (none)) else (some true)
def impl_IsTerm.f (k:Nat) (a0:ByteArray):Option (Bool):=if (a0.size:Int) > 12 then (some false) else (impl_IsTerm.l0 k a0 0)
theorem impl_IsTerm.mono_l:∀ k,(∀ y0 y1,LeO (impl_IsTerm.l0 k y0 y1) (impl_IsTerm.l0 (k+1) y0 y1))
 | 0=>fun _ _ r h=>by simp [impl_IsTerm.l0] at h
 | k+1=>by
  have ih0:=impl_IsTerm.mono_l k
  ·intro y0 y1
   unfold impl_IsTerm.l0
   repeat' first
   | with_reducible first|exact ih0 _ _|exact LeO.refl _|exact LeO.none _|refine LeO.ite ?_ ?_|refine LeO.bind ?_ (fun _=>?_)
theorem impl_IsTerm.mono:∀ a0 k,LeO (impl_IsTerm.f k a0) (impl_IsTerm.f (k+1) a0):=by
 intro a0 k
 have ih0:=impl_IsTerm.mono_l k
 unfold impl_IsTerm.f
 repeat' first
  | with_reducible first|exact ih0 _ _|exact LeO.refl _|exact LeO.none _|refine LeO.ite ?_ ?_|refine LeO.bind ?_ (fun _=>?_)
theorem impl_IsTerm.calls (k:Nat) (a0:ByteArray) (r:Bool) (w:World) (h:impl_IsTerm.f k a0=some r) :
  Calls Tryd.prog 44 #[.string a0] w fun e w'=>e = .returned (.bool r)∧Drawn0 w w':=by
 have H:(if (a0.size:Int) > 12 then (some false) else (impl_IsTerm.l0 k a0 0))=some r:=h
 clear h
 by_cases c2:(a0.size:Int) > 12
 ·rw [if_pos c2] at H
  have c2b0:decide (12 < (a0.size:Int))=true:=decide_eq_true c2
  have c2b1:decide (12 < a0.size)=true:=decide_eq_true (by omega)
  clear c2
  obtain rfl:=zi H
  go_enter Tryd.func44,Tryd.ntmps44
  go_wp2
  go_ret
  exact ⟨za7,za9⟩
 ·rw [if_neg c2] at H
  have c2b0:decide (12 < (a0.size:Int))=false:=decide_eq_false c2
  have c2b1:decide (12 < a0.size)=false:=decide_eq_false (by omega)
  clear c2
  have H':=zk H
  clear H
  go_enter Tryd.func44,Tryd.ntmps44
  go_wp2
  first|go_loopg [3] k (fun kq v3 w'=>∃ (x3_1:Int),v3 = .int .i64 x3_1∧Aside0 (impl_IsTerm.l0 kq a0 x3_1=some r)∧Aside0 (kq≤k)∧Drawn0 w w')|(simp only [Act.put,zt,zv,zu];go_loopg [3] k (fun kq v3 w'=>∃ (x3_1:Int),v3 = .int .i64 x3_1∧Aside0 (impl_IsTerm.l0 kq a0 x3_1=some r)∧Aside0 (kq≤k)∧Drawn0 w w'))
  case atStart=>exact ⟨(0),za7,H',⟨Nat.le_refl _⟩,za9⟩
  case round =>
   clear H'
   try clear c2
   try clear c2b0
   try clear c2b1
   obtain ⟨x3_1,rfl,HA,HK1,⟨m1,rfl⟩⟩:=hrel
   cases gk with
   | zero=>exact absurd HA.out (by simp [impl_IsTerm.l0])
   | succ k1 =>
    have H:=HA.out
    clear HA
    simp only [impl_IsTerm.l0] at H
    by_cases c3:x3_1 < (a0.size:Int)
    rw [if_pos c3] at H
    have c3b0:decide (x3_1 < (a0.size:Int))=true:=decide_eq_true c3
    clear c3
    by_cases c4:0≤x3_1
    rw [if_pos c4] at H
    have c4b0:decide (0≤x3_1)=true:=decide_eq_true c4
    clear c4
    replace H:=zo H
    obtain ⟨t44001,A60,H⟩:=H
    replace H:(if t44001 < 0 then ((impl_isVariable.f (bt a0 x3_1)).bind fun t44002=>(if t44002=true then (impl_IsTerm.l0 k1 a0 (wrap64 (x3_1+1))) else (some false))) else (impl_IsTerm.l0 k1 a0 (wrap64 (x3_1+1))))=some r:=H
    have A6:=zk A60
    clear A60
    by_cases c7:t44001 < 0
    rw [if_pos c7] at H
    have c7b0:decide (t44001 < 0)=true:=decide_eq_true c7
    clear c7
    replace H:=zo H
    obtain ⟨t44002,A90,H⟩:=H
    replace H:(if t44002=true then (impl_IsTerm.l0 k1 a0 (wrap64 (x3_1+1))) else (some false))=some r:=H
    have A9:=zk A90
    clear A90
    by_cases c10:t44002=true
    subst c10
    have H1:(impl_IsTerm.l0 k1 a0 (wrap64 (x3_1+1)))=some r:=by rw [if_pos rfl] at H;exact H
    clear H
    have H:=H1
    clear H1
    have H':=zk H
    clear H
    have fin0_:=zk trivial
    rotate_left
    replace c10:=Bool.eq_false_iff.mpr c10
    subst c10
    have H1:(some false)=some r:=by rw [if_neg (show ¬ (false=true) by decide)] at H;exact H
    clear H
    have H:=H1
    clear H1
    obtain rfl:=zi H
    have fin1_:=zk trivial
    rotate_left
    · rw [if_neg c7] at H
      have c7b0:decide (t44001 < 0)=false:=decide_eq_false c7
      clear c7
      have H':=zk H
      clear H
      have p5:0≤(x3_1:Int):=of_decide_eq_true za8
      have q5:x3_1 < (a0.size:Int):=of_decide_eq_true za8
      have hx5:=bt_at a0 x3_1
      replace p5:=eq_true p5
      replace q5:=eq_true q5
      go_wp2_with (first|((with_reducible refine gate_callee (f:=61) rfl ?_);refine goesL_ (some 16) rfl rfl Tryd.func61 (by kernel_rfl) rfl #[.int .u8 (bt a0 x3_1)] rfl za5 ?_;(with_reducible refine (impl_LetterIndex.calls (bt a0 x3_1) t44001 _ A6.out).mono ?_);rintro e w' ⟨rfl,⟨nd,rfl⟩⟩;refine ⟨_,rfl,?_⟩))
      go_roundg k1
      case measure=>have:=HK1.out;omega
      case rel=>exact ⟨(wrap64 (x3_1+1)),za7,H',⟨za13⟩,za9⟩
    · rw [if_neg c4] at H
      exact absurd H (by simp)
    · rw [if_neg c3] at H
      have c3b0:decide (x3_1 < (a0.size:Int))=false:=decide_eq_false c3
      clear c3
      obtain rfl:=zi H
      go_wp2
      go_ret
      exact ⟨za7,za9⟩
    all_goals
     have p5:0≤(x3_1:Int):=of_decide_eq_true za8
     have q5:x3_1 < (a0.size:Int):=of_decide_eq_true za8
     have hx5:=bt_at a0 x3_1
     replace p5:=eq_true p5
     replace q5:=eq_true q5
     go_wp2_with (first|((with_reducible refine gate_callee (f:=61) rfl ?_);refine goesL_ (some 16) rfl rfl Tryd.func61 (by kernel_rfl) rfl #[.int .u8 (bt a0 x3_1)] rfl za5 ?_;(with_reducible refine (impl_LetterIndex.calls (bt a0 x3_1) t44001 _ A6.out).mono ?_);rintro e w' ⟨rfl,⟨nd,rfl⟩⟩;refine ⟨_,rfl,?_⟩;have p8:0≤(x3_1:Int):=of_decide_eq_true za8;have q8:x3_1 < (a0.size:Int):=of_decide_eq_true za8;have hx8:=bt_at a0 x3_1;replace p8:=eq_true p8;replace q8:=eq_true q8)|(go_at_call 62;(with_reducible refine (impl_isVariable.calls (bt a0 x3_1) _ _ A9.out).mono ?_);rintro e w' ⟨rfl,⟨nd,rfl⟩⟩))
     first
     | (
       clear fin0_
       go_roundg k1
       case measure=>have:=HK1.out;omega
       case rel=>exact ⟨(wrap64 (x3_1+1)),za7,H',⟨za13⟩,za9⟩)
     | (
       clear fin1_
       go_ret
       exact ⟨za7,za9⟩)
def impl_isZeroRegex.f (a0_0:Int) (a0_1:ByteArray) (l0_2:List (S32)):Option (Bool):=if a0_0=0 then (if a0_1.toList=([]:List UInt8) then (some ((l0_2.length:Int) == 0)) else (some false)) else (some false)
theorem impl_isZeroRegex.calls (a0_0:Int) (a0_1:ByteArray) (A0_2:Option Addr) (c0_2:Nat) (l0_2:List (S32)) (r:Bool) (w:World) (hr0_2:Kd.C k32 w A0_2 l0_2.length l0_2) (hc0_2:l0_2.length≤c0_2) (h:impl_isZeroRegex.f a0_0 a0_1 l0_2=some r) :
   Calls Tryd.prog 45 #[.agg #[.int .i64 a0_0,.string a0_1,.slice A0_2 l0_2.length c0_2]] w fun e w'=>e = .returned (.bool r)∧Below w.heap.size w w':=by
 have hu32:=Tryd.underlying32
 have HR0_2:=zk hr0_2
 have HC0_2:=zk hc0_2
 clear hr0_2 hc0_2
 have HB:=zk (Below.refl w.heap.size w)
 have H:(if a0_0=0 then (if a0_1.toList=([]:List UInt8) then (some ((l0_2.length:Int) == 0)) else (some false)) else (some false))=some r:=h
 clear h
 by_cases c2:a0_0=0
 rw [if_pos c2] at H
 have c2b0:(a0_0 == 0)=true:=beq_iff_eq.mpr c2
 have c2b1:(a0_0 != 0)=false:=bne_eq_false_iff_eq.mpr c2
 clear c2
 by_cases c3:a0_1.toList=([]:List UInt8)
 rw [if_pos c3] at H
 have c3b0:(a0_1.toList == ([]:List UInt8))=true:=beq_iff_eq.mpr c3
 have c3b1:(a0_1.toList != ([]:List UInt8))=false:=bne_eq_false_iff_eq.mpr c3
 clear c3
 rotate_left
 rw [if_neg c3] at H
 have c3b0:(a0_1.toList == ([]:List UInt8))=false:=beq_eq_false_iff_ne.mpr c3
 have c3b1:(a0_1.toList != ([]:List UInt8))=true:=bne_iff_ne.mpr c3
 rotate_left
 rw [if_neg c2] at H
 have c2b0:(a0_0 == 0)=false:=beq_eq_false_iff_ne.mpr c2
 have c2b1:(a0_0 != 0)=true:=bne_iff_ne.mpr c2
 rotate_left
 all_goals
  obtain rfl:=zi H
  go_enter Tryd.func45,Tryd.ntmps45
  go_wp2_with (((with_reducible refine gate_dst (N:=1) rfl ?_);(try (refine gate_guard (by rfl) ?_;dsimp only));refine zE (N:=1) (cs:=#[.int .i64 a0_0,.string a0_1,.slice A0_2 l0_2.length c0_2]) (t:=32) ?_;intro gb45001 hg w4 hbox hb;have n0_:=zk (below_step za2 hb);have n1_:=zk (hbox);have n2_:=zk (zs (w:=w) hg za2);have n3_:=zk (zs (w:=w) hg za2);clear HB;have HB:=n0_;have BK45001:=n1_;have GW45001:=n2_;have GE45001:=n3_;clear n0_ n1_ n2_ n3_;clear hb hbox hg;obtain ⟨hcz5_0,hcz5_1,hcz5_2,hfz5_0,hfz5_1,hfz5_2⟩:=blk3 BK45001.out))
  go_ret
  exact ⟨za6,za2⟩
mutual
def impl_argsOf.j0:Nat→Int→Bool→Option (Int)
 | 0,_,_=>none
 | k+1,x3,x4=>if x4=true then (some 0) else (if x3=8 then (impl_argsOf.j1 k x3 (x3 == 8)) else (impl_argsOf.j1 k x3 (x3 == 9)))
def impl_argsOf.j1:Nat→Int→Bool→Option (Int)
 | 0,_,_=>none
 | k+1,x3,x9=>if x9=true then (some 1) else (if x3=5 then (some 2) else (if x3=6 then (some 2) else (if x3=7 then (some 2) else (some (-1)))))
end
def impl_argsOf.f (k:Nat) (a0:Int):Option (Int):=if a0=1 then (impl_argsOf.j0 k a0 (a0 == 1)) else (if a0=2 then (impl_argsOf.j0 k a0 (a0 == 2)) else (if a0=3 then (impl_argsOf.j0 k a0 (a0 == 3)) else (impl_argsOf.j0 k a0 (a0 == 4))))
theorem impl_argsOf.mono_l:∀ k,(∀ y0 y1,LeO (impl_argsOf.j0 k y0 y1) (impl_argsOf.j0 (k+1) y0 y1))∧(∀ y0 y1,LeO (impl_argsOf.j1 k y0 y1) (impl_argsOf.j1 (k+1) y0 y1))
 | 0=>⟨fun _ _ r h=>by simp [impl_argsOf.j0] at h,fun _ _ r h=>by simp [impl_argsOf.j1] at h⟩
 | k+1=>by
  obtain ⟨ih0,ih1⟩:=impl_argsOf.mono_l k
  refine ⟨?_,?_⟩
  ·intro y0 y1
   unfold impl_argsOf.j0
   repeat' first
   | with_reducible first|exact ih0 _ _|exact ih1 _ _|exact LeO.refl _|exact LeO.none _|refine LeO.ite ?_ ?_|refine LeO.bind ?_ (fun _=>?_)
  ·intro y0 y1
   unfold impl_argsOf.j1
   repeat' first
   | with_reducible first|exact ih0 _ _|exact ih1 _ _|exact LeO.refl _|exact LeO.none _|refine LeO.ite ?_ ?_|refine LeO.bind ?_ (fun _=>?_)
theorem impl_argsOf.mono:∀ a0 k,LeO (impl_argsOf.f k a0) (impl_argsOf.f (k+1) a0):=by
 intro a0 k
 obtain ⟨ih0,ih1⟩:=impl_argsOf.mono_l k
 unfold impl_argsOf.f
 repeat' first
  | with_reducible first|exact ih0 _ _|exact ih1 _ _|exact LeO.refl _|exact LeO.none _|refine LeO.ite ?_ ?_|refine LeO.bind ?_ (fun _=>?_)
theorem impl_argsOf.calls (k:Nat) (a0:Int) (r:Int) (w:World) (h:impl_argsOf.f k a0=some r) :
   Calls Tryd.prog 74 #[.int .i64 a0] w fun e w'=>e = .returned (.int .i64 r)∧Drawn0 w w':=by
 have H:(if a0=1 then (impl_argsOf.j0 k a0 (a0 == 1)) else (if a0=2 then (impl_argsOf.j0 k a0 (a0 == 2)) else (if a0=3 then (impl_argsOf.j0 k a0 (a0 == 3)) else (impl_argsOf.j0 k a0 (a0 == 4)))))=some r:=h
 clear h
 have HC2:=zk H
 clear H
 go_enter Tryd.func74,Tryd.ntmps74
 go_upto_if 4 with (fail)
 go_cut [4] (fun v4 wc=>∃ (kq:Nat) (x4_1:Bool),v4 = .bool x4_1∧Aside0 (impl_argsOf.j0 kq a0 x4_1=some r)∧Aside0 (kq≤k)∧Drawn0 w wc)
 case first =>
  have H:=HC2.out
  clear HC2
  by_cases c3:a0=1
  · rw [if_pos c3] at H
    have c3b0:(a0 == 1)=true:=beq_iff_eq.mpr c3
    have c3b1:(a0 != 1)=false:=bne_eq_false_iff_eq.mpr c3
    clear c3
    (first|rw [c3b0]|(simp only [i64_w,i32_w];rw [c3b0])|skip)
    have H':=zk H
    clear H
    go_wp2
    go_meet
    case rel=>exact ⟨_,((a0 == 1)),za7,H',⟨za17⟩,za9⟩
  rw [if_neg c3] at H
  have c3b0:(a0 == 1)=false:=beq_eq_false_iff_ne.mpr c3
  have c3b1:(a0 != 1)=true:=bne_iff_ne.mpr c3
  (first|rw [c3b0]|(simp only [i64_w,i32_w];rw [c3b0])|skip)
  by_cases c4:a0=2
  · rw [if_pos c4] at H
    have c4b0:(a0 == 2)=true:=beq_iff_eq.mpr c4
    have c4b1:(a0 != 2)=false:=bne_eq_false_iff_eq.mpr c4
    clear c4
    have H':=zk H
    clear H
    go_wp2
    go_meet
    case rel=>exact ⟨_,((a0 == 2)),za7,H',⟨za17⟩,za9⟩
  rw [if_neg c4] at H
  have c4b0:(a0 == 2)=false:=beq_eq_false_iff_ne.mpr c4
  have c4b1:(a0 != 2)=true:=bne_iff_ne.mpr c4
  by_cases c5:a0=3
  · rw [if_pos c5] at H
    have c5b0:(a0 == 3)=true:=beq_iff_eq.mpr c5
    have c5b1:(a0 != 3)=false:=bne_eq_false_iff_eq.mpr c5
    clear c5
    have H':=zk H
    clear H
    go_wp2
    go_meet
    case rel=>exact ⟨_,((a0 == 3)),za7,H',⟨za17⟩,za9⟩
  · rw [if_neg c5] at H
    have c5b0:(a0 == 3)=false:=beq_eq_false_iff_ne.mpr c5
    have c5b1:(a0 != 3)=true:=bne_iff_ne.mpr c5
    have H':=zk H
    clear H
    go_wp2
    go_meet
    case rel=>exact ⟨_,((a0 == 4)),za7,H',⟨za17⟩,za9⟩
 case rest =>
  clear HC2
  obtain ⟨kq,x4_1,rfl,HA,HJ1,⟨mc1,rfl⟩⟩:=hcut
  cases kq with
  | zero=>exact absurd HA.out (by simp [impl_argsOf.j0])
  | succ kj1 =>
   have H:=HA.out
   clear HA
   simp only [impl_argsOf.j0] at H
   by_cases c6:x4_1=true
   · subst c6
     have H1:(some 0)=some r:=by rw [if_pos rfl] at H;exact H
     clear H
     have H:=H1
     clear H1
     obtain rfl:=zi H
     go_wp2
     go_ret
     exact ⟨za7,za9⟩
   · replace c6:=Bool.eq_false_iff.mpr c6
     subst c6
     have H1:(if a0=8 then (impl_argsOf.j1 kj1 a0 (a0 == 8)) else (impl_argsOf.j1 kj1 a0 (a0 == 9)))=some r:=by rw [if_neg (show ¬ (false=true) by decide)] at H;exact H
     clear H
     have H:=H1
     clear H1
     have HC7:=zk H
     clear H
     go_upto_if 9 with (fail)
     go_cut [9] (fun v9 wc=>∃ (kq:Nat) (x9_6:Bool),v9 = .bool x9_6∧Aside0 (impl_argsOf.j1 kq a0 x9_6=some r)∧Aside0 (kq≤kj1)∧Drawn0 w wc)
     case first =>
      have H:=HC7.out
      clear HC7
      by_cases c8:a0=8
      · rw [if_pos c8] at H
        have c8b0:(a0 == 8)=true:=beq_iff_eq.mpr c8
        have c8b1:(a0 != 8)=false:=bne_eq_false_iff_eq.mpr c8
        clear c8
        (first|rw [c8b0]|(simp only [i64_w,i32_w];rw [c8b0])|skip)
        have H':=zk H
        clear H
        go_wp2
        go_meet
        case rel=>exact ⟨_,((a0 == 8)),za7,H',⟨za20⟩,za9⟩
      · rw [if_neg c8] at H
        have c8b0:(a0 == 8)=false:=beq_eq_false_iff_ne.mpr c8
        have c8b1:(a0 != 8)=true:=bne_iff_ne.mpr c8
        (first|rw [c8b0]|(simp only [i64_w,i32_w];rw [c8b0])|skip)
        have H':=zk H
        clear H
        go_wp2
        go_meet
        case rel=>exact ⟨_,((a0 == 9)),za7,H',⟨za20⟩,za9⟩
     case rest =>
      clear HC7
      try clear c6
      obtain ⟨kq,x9_6,rfl,HA,HJ6,⟨mc6,rfl⟩⟩:=hcut
      cases kq with
      | zero=>exact absurd HA.out (by simp [impl_argsOf.j1])
      | succ kj6 =>
       have H:=HA.out
       clear HA
       simp only [impl_argsOf.j1] at H
       by_cases c9:x9_6=true
       subst c9
       have H1:(some 1)=some r:=by rw [if_pos rfl] at H;exact H
       clear H
       have H:=H1
       clear H1
       rotate_left
       replace c9:=Bool.eq_false_iff.mpr c9
       subst c9
       have H1:(if a0=5 then (some 2) else (if a0=6 then (some 2) else (if a0=7 then (some 2) else (some (-1)))))=some r:=by rw [if_neg (show ¬ (false=true) by decide)] at H;exact H
       clear H
       have H:=H1
       clear H1
       by_cases c10:a0=5
       rw [if_pos c10] at H
       have c10b0:(a0 == 5)=true:=beq_iff_eq.mpr c10
       have c10b1:(a0 != 5)=false:=bne_eq_false_iff_eq.mpr c10
       clear c10
       rotate_left
       rw [if_neg c10] at H
       have c10b0:(a0 == 5)=false:=beq_eq_false_iff_ne.mpr c10
       have c10b1:(a0 != 5)=true:=bne_iff_ne.mpr c10
       by_cases c11:a0=6
       rw [if_pos c11] at H
       have c11b0:(a0 == 6)=true:=beq_iff_eq.mpr c11
       have c11b1:(a0 != 6)=false:=bne_eq_false_iff_eq.mpr c11
       clear c11
       rotate_left
       rw [if_neg c11] at H
       have c11b0:(a0 == 6)=false:=beq_eq_false_iff_ne.mpr c11
       have c11b1:(a0 != 6)=true:=bne_iff_ne.mpr c11
       by_cases c12:a0=7
       rw [if_pos c12] at H
       have c12b0:(a0 == 7)=true:=beq_iff_eq.mpr c12
       have c12b1:(a0 != 7)=false:=bne_eq_false_iff_eq.mpr c12
       clear c12
       rotate_left
       rw [if_neg c12] at H
       have c12b0:(a0 == 7)=false:=beq_eq_false_iff_ne.mpr c12
       have c12b1:(a0 != 7)=true:=bne_iff_ne.mpr c12
       rotate_left
       all_goals
        obtain rfl:=zi H
        go_wp2
        go_ret
        exact ⟨za7,za9⟩
mutual
def impl_nodesOf.j0:Nat→Int→Bool→Int→ByteArray→List (S32)→Option (Int)
 | 0,_,_,_,_,_=>none
 | k+1,x1,x18,x63002000,x63002001,x63002002=>if x18=true then (some 17) else (if x63002000=3 then (if (x63002001.size:Int)=1 then ((impl_IsWord.f k x63002001).bind fun t63003=>(if t63003=true then (impl_nodesOf.j1 k x1 x63002000 x63002001 x63002002) else (some 17))) else (some 17)) else (if x63002001.toList=([]:List UInt8) then (impl_nodesOf.j1 k x1 x63002000 x63002001 x63002002) else (some 17)))
def impl_nodesOf.j1:Nat→Int→Int→ByteArray→List (S32)→Option (Int)
 | 0,_,_,_,_=>none
 | k+1,x1,x63002000,x63002001,x63002002=>impl_nodesOf.l0 k x1 1 x63002002 (x63002002.length:Int) 0
def impl_nodesOf.l0:Nat→Int→Int→List (S32)→Int→Int→Option (Int)
 | 0,_,_,_,_,_=>none
 | k+1,x1,x5,x36,x37,x38=>if x38 < x37 then (if 0≤x38 then (if x38 < (x36.length:Int) then ((impl_nodesOf.f k ((rd_T32 x36 x38).f0) ((rd_T32 x36 x38).f1) ((rd_T32 x36 x38).f2) (wrap64 (x1 - 1))).bind fun t63006=>(impl_nodesOf.l0 k x1 (wrap64 (x5+t63006)) x36 x37 (wrap64 (x38+1)))) else (none)) else (none)) else (some (mn x5 17))
def impl_nodesOf.f:Nat→Int→ByteArray→List (S32)→Int→Option (Int)
 | 0,_,_,_,_=>none
 | k+1,a0_0,a0_1,l0_2,a1=>if a1=0 then (impl_nodesOf.j0 k a1 true a0_0 a0_1 l0_2) else ((impl_argsOf.f k a0_0).bind fun t63002=>(impl_nodesOf.j0 k a1 ((l0_2.length:Int) != t63002) a0_0 a0_1 l0_2))
end
theorem impl_nodesOf.mono_l:∀ k,(∀ y0 y1 y2 y3,LeO (impl_nodesOf.f k y0 y1 y2 y3) (impl_nodesOf.f (k+1) y0 y1 y2 y3))∧(∀ y0 y1 y2 y3 y4,LeO (impl_nodesOf.j0 k y0 y1 y2 y3 y4) (impl_nodesOf.j0 (k+1) y0 y1 y2 y3 y4))∧(∀ y0 y1 y2 y3,LeO (impl_nodesOf.j1 k y0 y1 y2 y3) (impl_nodesOf.j1 (k+1) y0 y1 y2 y3))∧(∀ y0 y1 y2 y3 y4,LeO (impl_nodesOf.l0 k y0 y1 y2 y3 y4) (impl_nodesOf.l0 (k+1) y0 y1 y2 y3 y4))
 | 0=>⟨fun _ _ _ _ r h=>by simp [impl_nodesOf.f] at h,fun _ _ _ _ _ r h=>by simp [impl_nodesOf.j0] at h,fun _ _ _ _ r h=>by simp [impl_nodesOf.j1] at h,fun _ _ _ _ _ r h=>by simp [impl_nodesOf.l0] at h⟩
 | k+1=>by
  obtain ⟨ih0,ih1,ih2,ih3⟩:=impl_nodesOf.mono_l k
  refine ⟨?_,?_,?_,?_⟩
  ·intro y0 y1 y2 y3
   unfold impl_nodesOf.f
   repeat' first
   | with_reducible first|exact ih0 _ _ _ _|exact ih1 _ _ _ _ _|exact ih2 _ _ _ _|exact ih3 _ _ _ _ _|exact impl_IsWord.mono _ _|exact impl_argsOf.mono _ _|exact LeO.refl _|exact LeO.none _|refine LeO.ite ?_ ?_|refine LeO.bind ?_ (fun _=>?_)
  ·intro y0 y1 y2 y3 y4
   unfold impl_nodesOf.j0
   repeat' first
   | with_reducible first|exact ih0 _ _ _ _|exact ih1 _ _ _ _ _|exact ih2 _ _ _ _|exact ih3 _ _ _ _ _|exact impl_IsWord.mono _ _|exact impl_argsOf.mono _ _|exact LeO.refl _|exact LeO.none _|refine LeO.ite ?_ ?_|refine LeO.bind ?_ (fun _=>?_)
  ·intro y0 y1 y2 y3
   unfold impl_nodesOf.j1
   repeat' first
   | with_reducible first|exact ih0 _ _ _ _|exact ih1 _ _ _ _ _|exact ih2 _ _ _ _|exact ih3 _ _ _ _ _|exact impl_IsWord.mono _ _|exact impl_argsOf.mono _ _|exact LeO.refl _|exact LeO.none _|refine LeO.ite ?_ ?_|refine LeO.bind ?_ (fun _=>?_)
  ·intro y0 y1 y2 y3 y4
   unfold impl_nodesOf.l0
   repeat' first
   | with_reducible first|exact ih0 _ _ _ _|exact ih1 _ _ _ _ _|exact ih2 _ _ _ _|exact ih3 _ _ _ _ _|exact impl_IsWord.mono _ _|exact impl_argsOf.mono _ _|exact LeO.refl _|exact LeO.none _|refine LeO.ite ?_ ?_|refine LeO.bind ?_ (fun _=>?_)
theorem impl_nodesOf.mono:∀ a0 a1 a2 a3 k,LeO (impl_nodesOf.f k a0 a1 a2 a3) (impl_nodesOf.f (k+1) a0 a1 a2 a3):=by
 intro a0 a1 a2 a3 k
 obtain ⟨ih0,ih1,ih2,ih3⟩:=impl_nodesOf.mono_l k
 exact ih0 a0 a1 a2 a3
theorem impl_nodesOf.calls (k:Nat):∀ (a0_0:Int) (a0_1:ByteArray) (A0_2:Option Addr) (c0_2:Nat) (l0_2:List (S32)) (a1:Int) (r:Int) (w:World) (hr0_2:Kd.C k32 w A0_2 l0_2.length l0_2) (hc0_2:l0_2.length≤c0_2) (h:impl_nodesOf.f k a0_0 a0_1 l0_2 a1=some r),
   Calls Tryd.prog 63 #[.agg #[.int .i64 a0_0,.string a0_1,.slice A0_2 l0_2.length c0_2],.int .i64 a1] w fun e w'=>e = .returned (.int .i64 r)∧Below w.heap.size w w':=by
 induction k using Nat.strongRecOn with
 | _ k ih =>
 intro a0_0 a0_1 A0_2 c0_2 l0_2 a1 r w hr0_2 hc0_2 h
 cases k with
 | zero=>exact absurd h (by simp [impl_nodesOf.f])
 | succ k =>
 simp only [impl_nodesOf.f] at h
 have hu32:=Tryd.underlying32
 have HR0_2:=zk hr0_2
 have HC0_2:=zk hc0_2
 clear hr0_2 hc0_2
 have HB:=zk (Below.refl w.heap.size w)
 have H:(if a1=0 then (impl_nodesOf.j0 k a1 true a0_0 a0_1 l0_2) else ((impl_argsOf.f k a0_0).bind fun t63002=>(impl_nodesOf.j0 k a1 ((l0_2.length:Int) != t63002) a0_0 a0_1 l0_2)))=some r:=h
 clear h
 have HC3:=zk H
 clear H
 go_enter Tryd.func63,Tryd.ntmps63
 go_upto_region 1 with (first|((with_reducible refine gate_dst (N:=2) rfl ?_);(try (refine gate_guard (by rfl) ?_;dsimp only));refine zE (N:=2) (cs:=#[.int .i64 a0_0,.string a0_1,.slice A0_2 l0_2.length c0_2]) (t:=32) ?_;intro gb63001 hg w4 hbox hb;have n0_:=zk (below_step za2 hb);have n1_:=zk (hbox);have n2_:=zk (zs (w:=w) hg za2);have n3_:=zk (zs (w:=w) hg za2);clear HB;have HB:=n0_;have BK63001:=n1_;have GW63001:=n2_;have GE63001:=n3_;clear n0_ n1_ n2_ n3_;clear hb hbox hg))
 repeat (go_quiet (first|((with_reducible refine gate_dst (N:=2) rfl ?_);(try (refine gate_guard (by rfl) ?_;dsimp only));refine zE (N:=2) (cs:=#[.int .i64 a0_0,.string a0_1,.slice A0_2 l0_2.length c0_2]) (t:=32) ?_;intro gb63001 hg w4 hbox hb;have n0_:=zk (below_step za2 hb);have n1_:=zk (hbox);have n2_:=zk (zs (w:=w) hg za2);have n3_:=zk (zs (w:=w) hg za2);clear HB;have HB:=n0_;have BK63001:=n1_;have GW63001:=n2_;have GE63001:=n3_;clear n0_ n1_ n2_ n3_;clear hb hbox hg));go_upto_region 1 with (first|((with_reducible refine gate_dst (N:=2) rfl ?_);(try (refine gate_guard (by rfl) ?_;dsimp only));refine zE (N:=2) (cs:=#[.int .i64 a0_0,.string a0_1,.slice A0_2 l0_2.length c0_2]) (t:=32) ?_;intro gb63001 hg w4 hbox hb;have n0_:=zk (below_step za2 hb);have n1_:=zk (hbox);have n2_:=zk (zs (w:=w) hg za2);have n3_:=zk (zs (w:=w) hg za2);clear HB;have HB:=n0_;have BK63001:=n1_;have GW63001:=n2_;have GE63001:=n3_;clear n0_ n1_ n2_ n3_;clear hb hbox hg)))
 (try simp only [Act.put,zt,zu,zv])
 go_cut [18] (fun v18 wc=>∃ (kq:Nat) (x18_2:Bool),v18 = .bool x18_2∧Aside0 (impl_nodesOf.j0 kq a1 x18_2 a0_0 a0_1 l0_2=some r)∧Aside0 (kq≤k)∧Aside0 (wc.heap[gb63001]? = some (.cells #[.int .i64 a0_0,.string a0_1,(.slice A0_2 l0_2.length c0_2)] 32 (0,0)))∧Aside0 (Below w.heap.size w wc))
 case first =>
  have H:=HC3.out
  clear HC3
  by_cases c5:a1=0
  · rw [if_pos c5] at H
    have c5b0:(a1 == 0)=true:=beq_iff_eq.mpr c5
    have c5b1:(a1 != 0)=false:=bne_eq_false_iff_eq.mpr c5
    clear c5
    (first|rw [c5b0]|(simp only [i64_w,i32_w];rw [c5b0])|skip)
    have H':=zk H
    clear H
    go_wp2
    repeat (go_quiet (fail);try go_wp2)
    go_meet
    case rel=>exact ⟨_,(true),za7,H',⟨za17⟩,⟨za0 BK63001.out⟩,⟨za2⟩⟩
  · rw [if_neg c5] at H
    have c5b0:(a1 == 0)=false:=beq_eq_false_iff_ne.mpr c5
    have c5b1:(a1 != 0)=true:=bne_iff_ne.mpr c5
    (first|rw [c5b0]|(simp only [i64_w,i32_w];rw [c5b0])|skip)
    replace H:=zo H
    obtain ⟨t63002,A60,H⟩:=H
    replace H:(impl_nodesOf.j0 k a1 ((l0_2.length:Int) != t63002) a0_0 a0_1 l0_2)=some r:=H
    have A6:=zk A60
    clear A60
    have H':=zk H
    clear H
    obtain ⟨hcz7_0,hcz7_1,hcz7_2,hfz7_0,hfz7_1,hfz7_2⟩:=blk3 BK63001.out
    go_wp2_with (first|(go_at_call 74;(with_reducible refine (impl_argsOf.calls k a0_0 t63002 _ A6.out).mono ?_);rintro e w' ⟨rfl,⟨nd,rfl⟩⟩;(try first|exact ⟨rfl,_,World.drewN_drewN _ _ _⟩|exact ⟨rfl,_,Eq.trans (World.drewN_drewN _ _ _) (congrArg (World.drewN _) (Nat.add_assoc _ _ _))⟩)))
    repeat (go_quiet (first|(go_at_call 74;(with_reducible refine (impl_argsOf.calls k a0_0 t63002 _ A6.out).mono ?_);rintro e w' ⟨rfl,⟨nd,rfl⟩⟩;(try first|exact ⟨rfl,_,World.drewN_drewN _ _ _⟩|exact ⟨rfl,_,Eq.trans (World.drewN_drewN _ _ _) (congrArg (World.drewN _) (Nat.add_assoc _ _ _))⟩)));try go_wp2_with (first|(go_at_call 74;(with_reducible refine (impl_argsOf.calls k a0_0 t63002 _ A6.out).mono ?_);rintro e w' ⟨rfl,⟨nd,rfl⟩⟩;(try first|exact ⟨rfl,_,World.drewN_drewN _ _ _⟩|exact ⟨rfl,_,Eq.trans (World.drewN_drewN _ _ _) (congrArg (World.drewN _) (Nat.add_assoc _ _ _))⟩))))
    go_meet
    case rel=>exact ⟨_,(((l0_2.length:Int) != t63002)),za7,H',⟨za17⟩,⟨za0 BK63001.out⟩,⟨za2⟩⟩
 case rest =>
  clear HC3
  obtain ⟨kq,x18_2,rfl,HA,HJ2,BK63001,HB⟩:=hcut
  cases kq with
  | zero=>exact absurd HA.out (by simp [impl_nodesOf.j0])
  | succ kj2 =>
   have H:=HA.out
   clear HA
   simp only [impl_nodesOf.j0] at H
   by_cases c8:x18_2=true
   · subst c8
     have H1:(some 17)=some r:=by rw [if_pos rfl] at H;exact H
     clear H
     have H:=H1
     clear H1
     obtain rfl:=zi H
     go_wp2
     repeat (go_quiet (fail);try go_wp2)
     go_ret
     exact ⟨za6,za2⟩
   · replace c8:=Bool.eq_false_iff.mpr c8
     subst c8
     have H1:(if a0_0=3 then (if (a0_1.size:Int)=1 then ((impl_IsWord.f kj2 a0_1).bind fun t63003=>(if t63003=true then (impl_nodesOf.j1 kj2 a1 a0_0 a0_1 l0_2) else (some 17))) else (some 17)) else (if a0_1.toList=([]:List UInt8) then (impl_nodesOf.j1 kj2 a1 a0_0 a0_1 l0_2) else (some 17)))=some r:=by rw [if_neg (show ¬ (false=true) by decide)] at H;exact H
     clear H
     have H:=H1
     clear H1
     have HC9:=zk H
     clear H
     obtain ⟨hcz10_0,hcz10_1,hcz10_2,hfz10_0,hfz10_1,hfz10_2⟩:=blk3 BK63001.out
     go_upto_if 21 with (fail)
     repeat (go_quiet (fail);go_upto_if 21 with (fail))
     go_cut [] (fun wc=>∃ (kq:Nat),Aside0 (impl_nodesOf.j1 kq a1 a0_0 a0_1 l0_2=some r)∧Aside0 (kq≤kj2)∧Aside0 (wc.heap[gb63001]? = some (.cells #[.int .i64 a0_0,.string a0_1,(.slice A0_2 l0_2.length c0_2)] 32 (0,0)))∧Aside0 (Below w.heap.size w wc))
     case first =>
      have H:=HC9.out
      clear HC9
      by_cases c11:a0_0=3
      rw [if_pos c11] at H
      have c11b0:(a0_0 == 3)=true:=beq_iff_eq.mpr c11
      have c11b1:(a0_0 != 3)=false:=bne_eq_false_iff_eq.mpr c11
      clear c11
      (first|rw [c11b0]|(simp only [i64_w,i32_w];rw [c11b0])|skip)
      by_cases c12:(a0_1.size:Int)=1
      rw [if_pos c12] at H
      have c12b0:((a0_1.size:Int) == 1)=true:=beq_iff_eq.mpr c12
      have c12b1:((a0_1.size:Int) != 1)=false:=bne_eq_false_iff_eq.mpr c12
      clear c12
      replace H:=zo H
      obtain ⟨t63003,A130,H⟩:=H
      replace H:(if t63003=true then (impl_nodesOf.j1 kj2 a1 a0_0 a0_1 l0_2) else (some 17))=some r:=H
      have A13:=zk A130
      clear A130
      by_cases c14:t63003=true
      subst c14
      have H1:(impl_nodesOf.j1 kj2 a1 a0_0 a0_1 l0_2)=some r:=by rw [if_pos rfl] at H;exact H
      clear H
      have H:=H1
      clear H1
      have H':=zk H
      clear H
      have fin0_:=zk trivial
      rotate_left
      replace c14:=Bool.eq_false_iff.mpr c14
      subst c14
      have H1:(some 17)=some r:=by rw [if_neg (show ¬ (false=true) by decide)] at H;exact H
      clear H
      have H:=H1
      clear H1
      obtain rfl:=zi H
      have fin1_:=zk trivial
      rotate_left
      rw [if_neg c12] at H
      have c12b0:((a0_1.size:Int) == 1)=false:=beq_eq_false_iff_ne.mpr c12
      have c12b1:((a0_1.size:Int) != 1)=true:=bne_iff_ne.mpr c12
      obtain rfl:=zi H
      have fin1_:=zk trivial
      rotate_left
      rw [if_neg c11] at H
      have c11b0:(a0_0 == 3)=false:=beq_eq_false_iff_ne.mpr c11
      have c11b1:(a0_0 != 3)=true:=bne_iff_ne.mpr c11
      (first|rw [c11b0]|(simp only [i64_w,i32_w];rw [c11b0])|skip)
      by_cases c18:a0_1.toList=([]:List UInt8)
      rw [if_pos c18] at H
      have c18b0:(a0_1.toList == ([]:List UInt8))=true:=beq_iff_eq.mpr c18
      have c18b1:(a0_1.toList != ([]:List UInt8))=false:=bne_eq_false_iff_eq.mpr c18
      clear c18
      have H':=zk H
      clear H
      have fin0_:=zk trivial
      rotate_left
      rw [if_neg c18] at H
      have c18b0:(a0_1.toList == ([]:List UInt8))=false:=beq_eq_false_iff_ne.mpr c18
      have c18b1:(a0_1.toList != ([]:List UInt8))=true:=bne_iff_ne.mpr c18
      obtain rfl:=zi H
      have fin1_:=zk trivial
      rotate_left
      all_goals
       obtain ⟨hcz15_0,hcz15_1,hcz15_2,hfz15_0,hfz15_1,hfz15_2⟩:=blk3 BK63001.out
       go_wp2_with ((go_at_call 75;(with_reducible refine (impl_IsWord.calls kj2 a0_1 _ _ A13.out).mono ?_);rintro e w' ⟨rfl,⟨nd,rfl⟩⟩;(try first|exact ⟨rfl,_,World.drewN_drewN _ _ _⟩|exact ⟨rfl,_,Eq.trans (World.drewN_drewN _ _ _) (congrArg (World.drewN _) (Nat.add_assoc _ _ _))⟩)))
       repeat (go_quiet ((go_at_call 75;(with_reducible refine (impl_IsWord.calls kj2 a0_1 _ _ A13.out).mono ?_);rintro e w' ⟨rfl,⟨nd,rfl⟩⟩;(try first|exact ⟨rfl,_,World.drewN_drewN _ _ _⟩|exact ⟨rfl,_,Eq.trans (World.drewN_drewN _ _ _) (congrArg (World.drewN _) (Nat.add_assoc _ _ _))⟩)));try go_wp2_with ((go_at_call 75;(with_reducible refine (impl_IsWord.calls kj2 a0_1 _ _ A13.out).mono ?_);rintro e w' ⟨rfl,⟨nd,rfl⟩⟩;(try first|exact ⟨rfl,_,World.drewN_drewN _ _ _⟩|exact ⟨rfl,_,Eq.trans (World.drewN_drewN _ _ _) (congrArg (World.drewN _) (Nat.add_assoc _ _ _))⟩))))
       first
       | (
          clear fin0_
          go_meet
          case rel=>exact ⟨_,H',⟨by have:=HJ2.out;first|omega|exact Nat.le_refl _⟩,⟨za0 BK63001.out⟩,⟨za2⟩⟩)
       | (
          clear fin1_
          go_ret
          exact ⟨za6,za2⟩)
     case rest =>
      clear HC9
      try clear c8
      try clear hcz10_0
      try clear hcz10_1
      try clear hcz10_2
      try clear hfz10_0
      try clear hfz10_1
      try clear hfz10_2
      obtain ⟨kq,HA,HJ8,BK63001,HB⟩:=hcut
      cases kq with
      | zero=>exact absurd HA.out (by simp [impl_nodesOf.j1])
      | succ kj8 =>
       have H:=HA.out
       clear HA
       simp only [impl_nodesOf.j1] at H
       have H':=zk H
       clear H
       obtain ⟨hcz21_0,hcz21_1,hcz21_2,hfz21_0,hfz21_1,hfz21_2⟩:=blk3 BK63001.out
       go_wp2
       repeat (go_quiet (fail);try go_wp2)
       first|go_loopg [5,38] kj8 (fun kq v5 v38 w'=>∃ (x5_3:Int) (x38_3:Int),v5 = .int .i64 x5_3∧v38 = .int .i64 x38_3∧Aside0 (impl_nodesOf.l0 kq a1 x5_3 l0_2 (l0_2.length:Int) x38_3=some r)∧Aside0 (kq≤kj8)∧Aside0 (w'.heap[gb63001]? = some (.cells #[.int .i64 a0_0,.string a0_1,(.slice A0_2 l0_2.length c0_2)] 32 (0,0)))∧Aside0 (Below w.heap.size w w'))|(simp only [Act.put,zt,zv,zu];go_loopg [5,38] kj8 (fun kq v5 v38 w'=>∃ (x5_3:Int) (x38_3:Int),v5 = .int .i64 x5_3∧v38 = .int .i64 x38_3∧Aside0 (impl_nodesOf.l0 kq a1 x5_3 l0_2 (l0_2.length:Int) x38_3=some r)∧Aside0 (kq≤kj8)∧Aside0 (w'.heap[gb63001]? = some (.cells #[.int .i64 a0_0,.string a0_1,(.slice A0_2 l0_2.length c0_2)] 32 (0,0)))∧Aside0 (Below w.heap.size w w')))
       case atStart=>exact ⟨(1),(0),za7,za7,H',⟨Nat.le_refl _⟩,⟨za0 BK63001.out⟩,⟨za2⟩⟩
       case round =>
        clear H'
        try clear c8
        try clear hcz10_0
        try clear hcz10_1
        try clear hcz10_2
        try clear hcz21_0
        try clear hcz21_1
        try clear hcz21_2
        try clear hfz10_0
        try clear hfz10_1
        try clear hfz10_2
        try clear hfz21_0
        try clear hfz21_1
        try clear hfz21_2
        obtain ⟨x5_3,x38_3,rfl,rfl,HA,HK3,BK63001,HB⟩:=hrel
        cases gk with
        | zero=>exact absurd HA.out (by simp [impl_nodesOf.l0])
        | succ k3 =>
         have H:=HA.out
         clear HA
         simp only [impl_nodesOf.l0] at H
         by_cases c22:x38_3 < (l0_2.length:Int)
         rw [if_pos c22] at H
         have c22b0:decide (x38_3 < (l0_2.length:Int))=true:=decide_eq_true c22
         clear c22
         by_cases c23:0≤x38_3
         rw [if_pos c23] at H
         have c23b0:decide (0≤x38_3)=true:=decide_eq_true c23
         clear c23
         by_cases c24:x38_3 < (l0_2.length:Int)
         · rw [if_pos c24] at H
           have c24b0:decide (x38_3 < (l0_2.length:Int))=true:=decide_eq_true c24
           clear c24
           replace H:=zo H
           obtain ⟨t63006,A250,H⟩:=H
           replace H:(impl_nodesOf.l0 k3 a1 (wrap64 (x5_3+t63006)) l0_2 (l0_2.length:Int) (wrap64 (x38_3+1)))=some r:=H
           have A25:=zk A250
           clear A250
           have H':=zk H
           clear H
           have p63004:0≤(x38_3:Int):=of_decide_eq_true za8
           have q63004:x38_3 < (l0_2.length:Int):=of_decide_eq_true za8
           obtain ⟨ad63004,A63004_2,c63004_2,e63004,hx63004_0,hx63004_1,hx63004_2,hl63004_2,hi63004_2⟩:=at_T32 HR0_2.out x38_3 p63004 q63004
           cases e63004
           replace hx63004_0:=zx HB.out hx63004_0
           replace hx63004_1:=zx HB.out hx63004_1
           replace hx63004_2:=zx HB.out hx63004_2
           have HR63004_2:=zk hi63004_2
           have HC63004_2:=zk hl63004_2
           clear hi63004_2 hl63004_2
           replace p63004:=eq_true p63004
           replace q63004:=eq_true q63004
           go_wp2_with (first|((with_reducible refine gate_dst (N:=7) rfl ?_);(try (refine gate_guard (by rfl) ?_;dsimp only));refine zE (N:=7) (cs:=#[.int .i64 0,.string (⟨#[]⟩:ByteArray),.slice none 0 0]) (t:=32) ?_;intro gb63005 hg w26 hbox hb;have n0_:=zk (zb BK63001.out hb);have n1_:=zk (below_step za2 hb);have n2_:=zk (hbox);have n3_:=zk (zs (w:=w) hg za2);have n4_:=zk (zs (w:=w) hg za2);have n5_:=zk ((by rw [hg];exact Nat.ne_of_lt (zl BK63001.out):gb63001 ≠ gb63005));have n6_:=zk ((by rw [hg];exact Nat.ne_of_gt (zl BK63001.out):gb63005 ≠ gb63001));clear BK63001;clear HB;have BK63001:=n0_;have HB:=n1_;have BK63005:=n2_;have GW63005:=n3_;have GE63005:=n4_;have NB63001_63005:=n5_;have NB63005_63001:=n6_;clear n0_ n1_ n2_ n3_ n4_ n5_ n6_;clear hb hbox hg;have hnb27:=NB63005_63001.out;have hnc27:=NB63001_63005.out;obtain ⟨hcz28_0,hcz28_1,hcz28_2,hfz28_0,hfz28_1,hfz28_2⟩:=blk3 BK63005.out)|(go_at_call 63;(with_reducible refine (ih k3 za21 ((rd_T32 l0_2 x38_3).f0) ((rd_T32 l0_2 x38_3).f1) _ _ ((rd_T32 l0_2 x38_3).f2) (wrap64 (a1 - 1)) t63006 _ ?side1 ?side2 A25.out).mono ?_);(case side1=>exact Kd.C_below HR63004_2.out za2);(case side2=>exact HC63004_2.out);rintro e w29 ⟨rfl,hb⟩;have n0_:=zk (blk_below (g:=gb63001) (o:=.cells #[.int .i64 a0_0,.string a0_1,.slice (some ad63004) l0_2.length c0_2] 32 (0,0)) za12 hb);have n1_:=zk (blk_below (g:=gb63005) (o:=.cells #[.int .i64 ((rd_T32 l0_2 x38_3).f0),.string ((rd_T32 l0_2 x38_3).f1),.slice A63004_2 ((rd_T32 l0_2 x38_3).f2).length c63004_2] 32 (0,0)) za10 hb);have n2_:=zk (below_step za2 hb);clear BK63001;clear BK63005;clear HB;have BK63001:=n0_;have BK63005:=n1_;have HB:=n2_;clear n0_ n1_ n2_;(try clear hb);(try clear hb2);(try clear hk);(try clear hi)))
           repeat (go_quiet (first|((with_reducible refine gate_dst (N:=7) rfl ?_);(try (refine gate_guard (by rfl) ?_;dsimp only));refine zE (N:=7) (cs:=#[.int .i64 0,.string (⟨#[]⟩:ByteArray),.slice none 0 0]) (t:=32) ?_;intro gb63005 hg w26 hbox hb;have n0_:=zk (zb BK63001.out hb);have n1_:=zk (below_step za2 hb);have n2_:=zk (hbox);have n3_:=zk (zs (w:=w) hg za2);have n4_:=zk (zs (w:=w) hg za2);have n5_:=zk ((by rw [hg];exact Nat.ne_of_lt (zl BK63001.out):gb63001 ≠ gb63005));have n6_:=zk ((by rw [hg];exact Nat.ne_of_gt (zl BK63001.out):gb63005 ≠ gb63001));clear BK63001;clear HB;have BK63001:=n0_;have HB:=n1_;have BK63005:=n2_;have GW63005:=n3_;have GE63005:=n4_;have NB63001_63005:=n5_;have NB63005_63001:=n6_;clear n0_ n1_ n2_ n3_ n4_ n5_ n6_;clear hb hbox hg;have hnb27:=NB63005_63001.out;have hnc27:=NB63001_63005.out;obtain ⟨hcz28_0,hcz28_1,hcz28_2,hfz28_0,hfz28_1,hfz28_2⟩:=blk3 BK63005.out)|(go_at_call 63;(with_reducible refine (ih k3 za21 ((rd_T32 l0_2 x38_3).f0) ((rd_T32 l0_2 x38_3).f1) _ _ ((rd_T32 l0_2 x38_3).f2) (wrap64 (a1 - 1)) t63006 _ ?side1 ?side2 A25.out).mono ?_);(case side1=>exact Kd.C_below HR63004_2.out za2);(case side2=>exact HC63004_2.out);rintro e w29 ⟨rfl,hb⟩;have n0_:=zk (blk_below (g:=gb63001) (o:=.cells #[.int .i64 a0_0,.string a0_1,.slice (some ad63004) l0_2.length c0_2] 32 (0,0)) za12 hb);have n1_:=zk (blk_below (g:=gb63005) (o:=.cells #[.int .i64 ((rd_T32 l0_2 x38_3).f0),.string ((rd_T32 l0_2 x38_3).f1),.slice A63004_2 ((rd_T32 l0_2 x38_3).f2).length c63004_2] 32 (0,0)) za10 hb);have n2_:=zk (below_step za2 hb);clear BK63001;clear BK63005;clear HB;have BK63001:=n0_;have BK63005:=n1_;have HB:=n2_;clear n0_ n1_ n2_;(try clear hb);(try clear hb2);(try clear hk);(try clear hi)));try go_wp2_with (first|((with_reducible refine gate_dst (N:=7) rfl ?_);(try (refine gate_guard (by rfl) ?_;dsimp only));refine zE (N:=7) (cs:=#[.int .i64 0,.string (⟨#[]⟩:ByteArray),.slice none 0 0]) (t:=32) ?_;intro gb63005 hg w26 hbox hb;have n0_:=zk (zb BK63001.out hb);have n1_:=zk (below_step za2 hb);have n2_:=zk (hbox);have n3_:=zk (zs (w:=w) hg za2);have n4_:=zk (zs (w:=w) hg za2);have n5_:=zk ((by rw [hg];exact Nat.ne_of_lt (zl BK63001.out):gb63001 ≠ gb63005));have n6_:=zk ((by rw [hg];exact Nat.ne_of_gt (zl BK63001.out):gb63005 ≠ gb63001));clear BK63001;clear HB;have BK63001:=n0_;have HB:=n1_;have BK63005:=n2_;have GW63005:=n3_;have GE63005:=n4_;have NB63001_63005:=n5_;have NB63005_63001:=n6_;clear n0_ n1_ n2_ n3_ n4_ n5_ n6_;clear hb hbox hg;have hnb27:=NB63005_63001.out;have hnc27:=NB63001_63005.out;obtain ⟨hcz28_0,hcz28_1,hcz28_2,hfz28_0,hfz28_1,hfz28_2⟩:=blk3 BK63005.out)|(go_at_call 63;(with_reducible refine (ih k3 za21 ((rd_T32 l0_2 x38_3).f0) ((rd_T32 l0_2 x38_3).f1) _ _ ((rd_T32 l0_2 x38_3).f2) (wrap64 (a1 - 1)) t63006 _ ?side1 ?side2 A25.out).mono ?_);(case side1=>exact Kd.C_below HR63004_2.out za2);(case side2=>exact HC63004_2.out);rintro e w29 ⟨rfl,hb⟩;have n0_:=zk (blk_below (g:=gb63001) (o:=.cells #[.int .i64 a0_0,.string a0_1,.slice (some ad63004) l0_2.length c0_2] 32 (0,0)) za12 hb);have n1_:=zk (blk_below (g:=gb63005) (o:=.cells #[.int .i64 ((rd_T32 l0_2 x38_3).f0),.string ((rd_T32 l0_2 x38_3).f1),.slice A63004_2 ((rd_T32 l0_2 x38_3).f2).length c63004_2] 32 (0,0)) za10 hb);have n2_:=zk (below_step za2 hb);clear BK63001;clear BK63005;clear HB;have BK63001:=n0_;have BK63005:=n1_;have HB:=n2_;clear n0_ n1_ n2_;(try clear hb);(try clear hb2);(try clear hk);(try clear hi))))
           go_roundg k3
           case measure=>have:=HJ2.out;have:=HJ8.out;have:=HK3.out;omega
           case rel=>exact ⟨(wrap64 (x5_3+t63006)),(wrap64 (x38_3+1)),za7,za7,H',⟨za21⟩,⟨za0 BK63001.out⟩,⟨za2⟩⟩
         · rw [if_neg c24] at H
           exact absurd H (by simp)
         · rw [if_neg c23] at H
           exact absurd H (by simp)
         · rw [if_neg c22] at H
           have c22b0:decide (x38_3 < (l0_2.length:Int))=false:=decide_eq_false c22
           clear c22
           obtain ⟨ji30,hji30⟩:∃ j_:Int,(mn x5_3 17)=j_:=⟨_,rfl⟩
           replace H:(some ji30)=some r:=by first|(rw [hji30] at H;exact H)|(simp only [hji30] at H ⊢;exact H)
           have hji30_:(if 17 < x5_3 then 17 else x5_3)=ji30:=hji30
           obtain rfl:=zi H
           go_wp2
           repeat (go_quiet (fail);try go_wp2)
           go_ret
           exact ⟨by first|rfl|(simp [errW_none,errW_some] <;> rfl)|(simp only [← hji30];first|rfl|(simp [errW_none,errW_some] <;> rfl))|(simp [*,errW_none,errW_some] <;> rfl),za2⟩
def impl_IsValidRegex.f (k:Nat) (a0_0:Int) (a0_1:ByteArray) (l0_2:List (S32)):Option (Bool):=(impl_nodesOf.f k a0_0 a0_1 l0_2 6).bind fun t46002=>(some (decide (t46002≤16)))
theorem impl_IsValidRegex.mono:∀ a0 a1 a2 k,LeO (impl_IsValidRegex.f k a0 a1 a2) (impl_IsValidRegex.f (k+1) a0 a1 a2):=by
 intro a0 a1 a2 k
 unfold impl_IsValidRegex.f
 repeat' first
  | with_reducible first|exact impl_nodesOf.mono _ _ _ _ _|exact LeO.refl _|exact LeO.none _|refine LeO.ite ?_ ?_|refine LeO.bind ?_ (fun _=>?_)
theorem impl_IsValidRegex.calls (k:Nat) (a0_0:Int) (a0_1:ByteArray) (A0_2:Option Addr) (c0_2:Nat) (l0_2:List (S32)) (r:Bool) (w:World) (hr0_2:Kd.C k32 w A0_2 l0_2.length l0_2) (hc0_2:l0_2.length≤c0_2) (h:impl_IsValidRegex.f k a0_0 a0_1 l0_2=some r) :
  Calls Tryd.prog 46 #[.agg #[.int .i64 a0_0,.string a0_1,.slice A0_2 l0_2.length c0_2]] w fun e w'=>e = .returned (.bool r)∧Below w.heap.size w w':=by
 have hu32:=Tryd.underlying32
 have HR0_2:=zk hr0_2
 have HC0_2:=zk hc0_2
 clear hr0_2 hc0_2
 have HB:=zk (Below.refl w.heap.size w)
 have H:((impl_nodesOf.f k a0_0 a0_1 l0_2 6).bind fun t46002=>(some (decide (t46002≤16))))=some r:=h
 clear h
 replace H:=zo H
 obtain ⟨t46002,A20,H⟩:=H
 replace H:(some (decide (t46002≤16)))=some r:=H
 have A2:=zk A20
 clear A20
 obtain rfl:=zi H
 go_enter Tryd.func46,Tryd.ntmps46
 go_wp2_with (first|((with_reducible refine gate_dst (N:=1) rfl ?_);refine zE (N:=1) (cs:=#[.int .i64 a0_0,.string a0_1,.slice A0_2 l0_2.length c0_2]) (t:=32) ?_;intro gb46001 hg w3 hbox hb;have n0_:=zk (below_step za2 hb);have n1_:=zk (hbox);have n2_:=zk (zs (w:=w) hg za2);have n3_:=zk (zs (w:=w) hg za2);clear HB;have HB:=n0_;have BK46001:=n1_;have GW46001:=n2_;have GE46001:=n3_;clear n0_ n1_ n2_ n3_;clear hb hbox hg;obtain ⟨hcz4_0,hcz4_1,hcz4_2,hfz4_0,hfz4_1,hfz4_2⟩:=blk3 BK46001.out)|((with_reducible refine gate_callee (f:=63) rfl ?_);refine goesL_ (some 4) rfl rfl Tryd.func63 (by kernel_rfl) rfl #[.agg #[.int .i64 a0_0,.string a0_1,.slice A0_2 l0_2.length c0_2],.int .i64 6] rfl za5 ?_;(with_reducible refine (impl_nodesOf.calls k a0_0 a0_1 _ _ l0_2 6 t46002 _ ?side1 ?side2 A2.out).mono ?_);(case side1=>repeat (first|exact (Kd.C_below HR0_2.out HB.out)|(with_reducible refine Kd.C_alloc ?_ _)|(with_reducible refine Kd.C_drewN ?_ _)|(with_reducible refine Kd.C_drew ?_)));(case side2=>exact HC0_2.out);rintro e w5 ⟨rfl,hb⟩;refine ⟨_,rfl,?_⟩;have n0_:=zk (zb BK46001.out hb);have n1_:=zk (below_step za2 hb);clear BK46001;clear HB;have BK46001:=n0_;have HB:=n1_;clear n0_ n1_;(try clear hb);(try clear hb2);(try clear hk);(try clear hi)))
 go_ret
 exact ⟨za6,za2⟩
end Go.Proofs.YtdchpohiiigobaaDoor.A
